/- Run. No statement is proved here. -/
import Derived.Test.YtncogaikiceidaaN20
import Derived.Test.YtncogaikiceidaaN21
namespace Go.Proofs.Ytncogaikiceidaa
set_option maxRecDepth 100000
open Go.RowKit
set_option linter.unusedSimpArgs false
set_option linter.unusedVariables false
set_option linter.unnecessarySimpa false
section
/-! ### Run, in plain -/
theorem runK_over {l : List Insn} {defs : List DefM} {fuel : Nat} {k : Nat} {m : MchM} (h : m.over = true ∨ fuel ≤ m.steps) : runK l defs fuel k m = m := by
  cases k with
  | zero => rfl
  | succ k => rw [runK, if_pos h]
theorem runK_step {l : List Insn} {defs : List DefM} {fuel : Nat} {k : Nat} {m : MchM} (h : ¬ (m.over = true ∨ fuel ≤ m.steps)) : runK l defs fuel (k + 1) m = runK l defs fuel k (stepM l defs m).1 := by
  rw [runK, if_neg h]
theorem readM_ok {mem : List AreaM} (hm : ∀ a ∈ mem, a.Ok) (at_ size : Int) : BytesOk (readM mem at_ size).1 := by
  have h0 : BytesOk [] := fun b h => by cases h
  unfold readM
  split
  · exact h0
  split
  · exact h0
  · rename_i k off hq
    split
    · exact h0
    · intro b hb
      have hb2 := List.mem_of_mem_drop (List.mem_of_mem_take hb)
      unfold areaAt at hb2
      rw [List.getD_eq_getElem?_getD] at hb2
      cases hq2 : mem[k]? with
      | none => rw [hq2] at hb2; cases hb2
      | some a => rw [hq2] at hb2; exact (hm a (List.mem_of_getElem? hq2)).byte b hb2
theorem told_ok (m : MchM) (defs : List DefM) (hm : ∀ a ∈ m.mem, a.Ok) (hr : ∀ i : Nat, U64 (regM m i)) : ∀ (l : List Int) (i : Nat) (c : CalledM), c.Ok → (toldM m defs l i c).1.Ok
  | [], _, _, h => h
  | k :: l, i, c, h => by
    cases hs : setM m (i + 1) with
    | false => rw [told_unset m defs k l i c hs]; exact h
    | true =>
      rw [told_next m defs k l i c hs]
      by_cases h1 : k = 1
      · rw [if_pos h1]
        split
        · exact h
        · exact told_ok m defs hm hr l _ _ ⟨h.key, h.val, h.n⟩
      rw [if_neg h1]
      by_cases h2 : k = 2
      · rw [if_pos h2]
        split
        · exact h
        · exact told_ok m defs hm hr l _ _ ⟨readM_ok hm _ _, h.val, h.n⟩
      rw [if_neg h2]
      by_cases h3 : k = 3
      · rw [if_pos h3]
        split
        · exact h
        · exact told_ok m defs hm hr l _ _ ⟨h.key, readM_ok hm _ _, h.n⟩
      rw [if_neg h3]
      refine told_ok m defs hm hr l _ _ ⟨h.key, h.val, fun x hx => ?_⟩
      rcases List.mem_append.1 hx with hx | hx
      · exact h.n x hx
      · rw [List.mem_singleton] at hx
        subst hx
        exact hr (i + 1)
def CallsOk (l : List CalledM) : Prop := ∀ c ∈ l, c.Ok ∧ c.n.length ≤ 1000
theorem called0_ok (id : Int) : (called0 id).Ok := ⟨fun b h => absurd h (by simp [called0]), fun b h => absurd h (by simp [called0]), fun b h => absurd h (by simp [called0])⟩
theorem CallsOk.snoc {l : List CalledM} {c : CalledM} (h : CallsOk l) (hc : c.Ok) (hn : c.n.length ≤ 1000) (ret : Int) : CallsOk (l ++ [{ c with ret := ret }]) := fun x hx => by
  rcases List.mem_append.1 hx with hx | hx
  · exact h x hx
  · rw [List.mem_singleton] at hx
    subst hx
    exact ⟨⟨hc.key, hc.val, hc.n⟩, hn⟩
theorem sig_few {id : Int} {g : SigM} (h : sigM id = some g) : g.told.length ≤ 5 := (sig_good [] h).1
theorem call_callsOk (m : MchM) (defs : List DefM) (id : Int) (hm : ∀ a ∈ m.mem, a.Ok) (hr : ∀ i : Nat, U64 (regM m i)) (h : CallsOk m.calls) : CallsOk (callM m defs id).1.calls := by
  cases hg : sigM id with
  | none => unfold callM; rw [hg]; exact h
  | some g =>
    by_cases hc : (toldM m defs g.told 0 (called0 id)).2 = 0
    · have h1 := told_ok m defs hm hr g.told 0 (called0 id) (called0_ok id)
      have h2 := told_n m defs g.told 0 (called0 id) hc
      have h3 : (toldM m defs g.told 0 (called0 id)).1.n.length ≤ 1000 := by
        have := sig_few hg
        have := List.length_filter_le (fun k => !(k == 1 || k == 2 || k == 3)) g.told
        rw [h2]
        simp only [called0, List.length_nil]
        omega
      have hs := fun ret => h.snoc h1 h3 ret
      unfold callM
      rw [hg]
      simp only
      rw [if_neg (fun e => e hc)]
      split
      · split
        · exact h
        · exact hs _
      split
      · split
        · exact h
        · exact hs _
      split
      · split
        · exact h
        · exact hs _
      split
      · split
        · exact h
        · exact hs _
      · intro x hx
        rcases List.mem_append.1 hx with hx | hx
        · exact h x hx
        · rw [List.mem_singleton] at hx
          subst hx
          exact ⟨h1, h3⟩
    · rw [callM_told hg hc]; exact h
theorem does_callsOk (m : MchM) (defs : List DefM) (x y : Insn) (w : What) (hm : ∀ a ∈ m.mem, a.Ok) (hr : ∀ i : Nat, U64 (regM m i)) (h : CallsOk m.calls) : CallsOk (doesM m defs x y w).1.calls := by
  unfold doesM
  by_cases k1 : w.kind = 1
  · rw [if_pos k1]; rw [(arith_part m x w).2.2.1]; exact h
  rw [if_neg k1]
  by_cases k2 : w.kind = 2
  · rw [if_pos k2]; split <;> exact h
  rw [if_neg k2]
  by_cases k3 : w.kind = 3
  · rw [if_pos k3]; exact h
  rw [if_neg k3]
  by_cases k4 : w.kind = 4
  · rw [if_pos k4]; split <;> exact h
  rw [if_neg k4]
  by_cases k5 : w.kind = 5
  · rw [if_pos k5]; rw [(load_part m x w).2.2.1]; exact h
  rw [if_neg k5]
  by_cases k6 : w.kind = 6 ∨ w.kind = 7 ∨ w.kind = 8
  · rw [if_pos k6]; rw [(store_part m x w).2.2.1]; exact h
  rw [if_neg k6]
  by_cases k9 : w.kind = 9
  · rw [if_pos k9]; exact h
  rw [if_neg k9]
  by_cases k10 : w.kind = 10
  · rw [if_pos k10]; split <;> exact h
  rw [if_neg k10]
  by_cases k11 : w.kind = 11
  · rw [if_pos k11]; exact call_callsOk _ _ _ hm hr h
  rw [if_neg k11]
  by_cases k12 : w.kind = 12
  · rw [if_pos k12]; split <;> exact h
  rw [if_neg k12]
  exact h
/-- What a machine is like, while it runs and behind that. -/
structure Runs (l : List Insn) (m : MchM) : Prop where
  mem : (m.mem.length : Int) ≤ 2 + madeSum m.tab
  calls : m.calls.length ≤ 1000
  ok : CallsOk m.calls
  live : m.over = false → Live l m
theorem step_runs {l : List Insn} {defs : List DefM} {m : MchM} (hp : Prog l) (h : Runs l m) (ho : m.over = false) (hst : m.steps ≤ 900) (hm : ∀ a ∈ m.mem, a.Ok) (hr : ∀ i : Nat, U64 (regM m i)) :
    Runs l (stepM l defs m).1 ∧ ((stepM l defs m).1.over = false → (stepM l defs m).1.steps = m.steps + 1) := by
  have hl := h.live ho
  have hf := does_few m defs (at' l m.place) (at' l (m.place + 1)) (sem (at' l m.place)).1 hl.few
  have hc := does_callsOk m defs (at' l m.place) (at' l (m.place + 1)) (sem (at' l m.place)).1 hm hr h.ok
  by_cases he : (stepM l defs m).2 = 0
  · have hlv := step_live hp hl ho he
    have hs := (step_ok ho he).2
    refine ⟨⟨hlv.few.mem, ?_, ?_, fun _ => hlv⟩, fun _ => by rw [hs]; rfl⟩
    · have h1 := hlv.few.calls
      have h2 : (stepM l defs m).1.steps = m.steps + 1 := by rw [hs]; rfl
      omega
    · rw [hs]; exact hc
  · have hs := step_not (l := l) (defs := defs) ho
    by_cases hd : (doesM m defs (at' l m.place) (at' l (m.place + 1)) (sem (at' l m.place)).1).2.2 = 0
    · rw [hs, if_neg (fun e => e hd)] at he
      exact absurd rfl he
    · rw [hs, if_pos hd]
      exact ⟨⟨hf.mem, Nat.le_trans hf.calls (by omega), hc, fun e => by cases e⟩, fun e => by cases e⟩
end
section
/-- Rows of items, none in some blocks. -/
structure ItemsOff (X : Nat → Prop) (A : Option Addr) (l : List ItemM) (d : Nat → Value × Value) : Prop where
  row : 0 < l.length → ∀ b o, A = some ⟨b, o, none⟩ → ¬ X b
  key : ∀ i, (h : i < l.length) → ∀ A1 c1, (d i).1 = .slice A1 l[i].key.length c1 → 0 < l[i].key.length → ∀ b o, A1 = some ⟨b, o, none⟩ → ¬ X b
  val : ∀ i, (h : i < l.length) → ∀ A1 c1, (d i).2 = .slice A1 l[i].val.length c1 → 0 < l[i].val.length → ∀ b o, A1 = some ⟨b, o, none⟩ → ¬ X b
theorem ItemsBase.off {S : Nat} {X : Nat → Prop} {A : Option Addr} {l : List ItemM} {d : Nat → Value × Value} (h : ItemsBase S A l d) (hx : ∀ b, X b → b < S) : ItemsOff X A l d :=
  ⟨fun a b o e f => by have := h.row a b o e; have := hx b f; omega, fun i hi A1 c1 e a b o f g => by have := h.key i hi A1 c1 e a b o f; have := hx b g; omega, fun i hi A1 c1 e a b o f g => by have := h.val i hi A1 c1 e a b o f; have := hx b g; omega⟩
theorem ItemsAt.kept2 {X : Nat → Prop} {w w1 : World} {A : Option Addr} {l : List ItemM} {d : Nat → Value × Value} (h : ItemsAt w w.heap.size A l d) (hB : ItemsOff X A l d) (hk : Kept X w w1) : ItemsAt w1 w1.heap.size A l d :=
  ⟨sat_of_kept h.row hk hB.row, fun i hi => by
    obtain ⟨⟨A1, c1, e1, s1⟩, ⟨A2, c2, e2, s2⟩⟩ := h.item i hi
    exact ⟨⟨A1, c1, e1, sat_of_kept s1 hk (hB.key i hi A1 c1 e1)⟩, ⟨A2, c2, e2, sat_of_kept s2 hk (hB.val i hi A2 c2 e2)⟩⟩⟩
/-- New blocks are none of theirs. -/
theorem ItemsAt.fresh {w : World} {X : Nat → Prop} {A : Option Addr} {l : List ItemM} {d : Nat → Value × Value} (h : ItemsAt w w.heap.size A l d) (hx : ∀ b, X b → w.heap.size ≤ b) : ItemsOff X A l d := by
  refine ⟨fun h0 b o e f => ?_, fun i hi A1 c1 e h0 b o f g => ?_, fun i hi A1 c1 e h0 b o f g => ?_⟩
  · obtain ⟨b', o', e', hb, -⟩ := h.row.2 h0
    rw [e] at e'; cases e'
    have := hx b f; omega
  · obtain ⟨⟨A2, c2, e2, s2⟩, -⟩ := h.item i hi
    rw [e] at e2; cases e2
    obtain ⟨b', o', e', hb, -⟩ := s2.2 h0
    rw [f] at e'; cases e'
    have := hx b g; omega
  · obtain ⟨-, ⟨A2, c2, e2, s2⟩⟩ := h.item i hi
    rw [e] at e2; cases e2
    obtain ⟨b', o', e', hb, -⟩ := s2.2 h0
    rw [f] at e'; cases e'
    have := hx b g; omega
/-- A row of items, and where it lies. -/
structure MapFar (w : World) (S : Nat) (ob : Option Nat) (v : Value) (l : List ItemM) (d : Nat → Value × Value) : Prop where
  at_ : ∃ A c, v = .slice A l.length c ∧ ItemsAt w w.heap.size A l d ∧ ItemsBase S A l d ∧ ItemsOff (fun b => ob = some b) A l d
theorem slicesV_at {sv sv' : Nat → Value} : ∀ (l : List (List ItemM)) (i : Nat), (∀ q, i ≤ q → q < i + l.length → sv' q = sv q) → slicesV sv' l i = slicesV sv l i
  | [], _, _ => rfl
  | a :: l, i, h => by rw [slicesV, slicesV, h i (Nat.le_refl _) (by simp), slicesV_at l (i + 1) (fun q h1 h2 => h q (by omega) (by simp only [List.length_cons]; omega))]
theorem slicesV_snoc (sv : Nat → Value) : ∀ (l : List (List ItemM)) (y : List ItemM) (i : Nat), slicesV sv (l ++ [y]) i = slicesV sv l i ++ [sv (i + l.length)]
  | [], y, i => rfl
  | a :: l, y, i => by
    rw [List.cons_append, slicesV, slicesV, slicesV_snoc sv l y (i + 1), List.length_cons, show i + 1 + l.length = i + (l.length + 1) by omega]
    rfl
theorem slicesV_join {sv : Nat → Value} {Ys : List (List ItemM)} {j : Nat} (hj : j < Ys.length) (K : Value) : slicesV (fun i => if i = j then K else sv i) (Ys.take (j + 1)) 0 = slicesV sv (Ys.take j) 0 ++ [K] := by
  have hl : (Ys.take j).length = j := by simp; omega
  rw [List.take_add_one, List.getElem?_eq_getElem hj, Option.toList_some, slicesV_snoc, slicesV_at (sv := sv), hl]
  · simp
  · intro q _ h2; rw [hl] at h2; exact if_neg (by omega)
/-- One more row of items. -/
theorem map_join {S : Nat} {wr W1 Wg w8 : World} {F : Nat → List ItemM} {sv : Nat → Value} {dd : Nat → Nat → Value × Value} {j : Nat} {Am A8 : Option Addr} {cm c8 : Nat} (hb : Below wr.heap.size wr W1) (hfar : ∀ i, i < j → MapFar wr S (Value.slice Am j cm).ownBlock (sv i) (F i) (dd i)) (hS : S ≤ wr.heap.size) (hAm : ∀ b, (Value.slice Am j cm).ownBlock = some b → b < wr.heap.size)
    {Ai : Option Addr} {ci : Nat} {d : Nat → Value × Value} (hi : ItemsAt W1 W1.heap.size Ai (F j) d) (hib : ItemsBase wr.heap.size Ai (F j) d) (hbg : Below W1.heap.size W1 Wg) (hg : Wg.grownBy w8 (Value.slice Am j cm).ownBlock) (hor : (Value.slice A8 (j + 1) c8).ownBlock = (Value.slice Am j cm).ownBlock ∨ (Value.slice A8 (j + 1) c8).ownBlock = some Wg.heap.size) :
    ∀ i, i < j + 1 → MapFar w8 S (Value.slice A8 (j + 1) c8).ownBlock (if i = j then .slice Ai (F j).length ci else sv i) (F i) (if i = j then d else dd i) := by
  have hk8 : Kept (fun b => (Value.slice Am j cm).ownBlock = some b) Wg w8 := grown_kept hg (fun _ h => h)
  have hnew : ∀ {A : Option Addr} {l : List ItemM} {e : Nat → Value × Value}, ItemsAt W1 W1.heap.size A l e → ItemsBase S A l e → ItemsOff (fun b => (Value.slice Am j cm).ownBlock = some b) A l e → ItemsAt w8 w8.heap.size A l e ∧ ItemsOff (fun b => (Value.slice A8 (j + 1) c8).ownBlock = some b) A l e := fun h1 h2 h3 => by
    have h4 := h1.kept2 (X := fun _ => False) ⟨fun _ _ _ _ => id, fun _ _ _ _ _ _ _ _ _ => id, fun _ _ _ _ _ _ _ _ _ => id⟩ (Kept.of hbg (Nat.le_refl _))
    refine ⟨h4.kept2 h3 hk8, ?_⟩
    rcases hor with h | h
    · rw [h]; exact h3
    · rw [h]; exact h4.fresh (fun b e => by cases e; exact Nat.le_refl _)
  intro i hlt
  by_cases e : i = j
  · subst e
    rw [if_pos rfl, if_pos rfl]
    obtain ⟨p1, p2⟩ := hnew hi (hib.mono hS) (hib.off hAm)
    exact ⟨Ai, ci, rfl, p1, hib.mono hS, p2⟩
  · rw [if_neg e, if_neg e]
    obtain ⟨A, c, e1, s1, s2, s3⟩ := (hfar i (by omega)).at_
    have s4 := s1.kept2 (X := fun _ => False) ⟨fun _ _ _ _ => id, fun _ _ _ _ _ _ _ _ _ => id, fun _ _ _ _ _ _ _ _ _ => id⟩ (Kept.of hb (Nat.le_refl _))
    obtain ⟨p1, p2⟩ := hnew s4 s2 s3
    exact ⟨A, c, e1, p1, s2, p2⟩
end
section
theorem info30 : (Try.prog.info? 30).map (fun i => (i.zero, i.size, i.bytes)) = some (some (.slice none 0 0), 1, 24) := by kernel_rfl
theorem MchIn.callsKept {own : Own} {w w1 : World} {pM : Nat} {g : Gh} {l : List Insn} {defs : List DefM} {m : MchM} {X : Nat → Prop} (h : MchIn own w pM g l defs m) (hk : Kept X w w1) (hX : ∀ b, X b → own b = none) {A : Option Addr} {c : Nat} (e : g.cl = .slice A m.calls.length c) : CallsAt w1 w1.heap.size A m.calls g.cd := by
  have hx : ∀ b r, own b = some r → ¬ X b := fun b r e f => by rw [hX b f] at e; cases e
  have h1 := (h.calls.kept hk (fun _ _ => rfl) (fun b e => hx b _ e)).row
  rw [e] at h1
  exact ⟨own_sat h1, fun i hi => ⟨((h.data i hi).key.kept hk (fun _ _ => rfl) (fun b e => hx b _ e)).sat, ((h.data i hi).val.kept hk (fun _ _ => rfl) (fun b e => hx b _ e)).sat, ((h.data i hi).n.kept hk (fun _ _ => rfl) (fun b e => hx b _ e)).sat⟩⟩
theorem ritems_any {own : Own} {w : World} {pt pm : Nat} {v vm : Value} {ks : Nat → Value} {sl : Nat → Value × Value} {mem : List AreaM} {t : List MapM} (h : TabIn own w pt pm v ks t) (hm : MemIn own w pm vm sl mem) (hn : mem.length ≤ 1000000) (k : Nat) :
    Calls Try.prog 29 #[.pointer (some ⟨pt, 0, none⟩), .int .i64 k] w (ItemsOk w (itemsM mem t k)) := by
  by_cases hk : k < t.length
  · exact ritems9 h hm hn k hk
  · have hY : itemsM mem t k = [] := by
      rw [itemsM_map]
      have : mapAt t k = default := by unfold mapAt; rw [List.getD_eq_getElem?_getD, List.getElem?_eq_none (by omega)]; rfl
      rw [this]; rfl
    rw [hY]
    have hki : ¬ (k : Int) < (t.length : Int) := by omega
    have hfw := h.few
    obtain ⟨Av, cv, rfl⟩ := h.row.slice
    have c1 : w.cell? ⟨pt, 1, none⟩ = some (.slice Av t.length cv) := h.blk.cell rfl
    have hrf := Below.refl w.heap.size w
    clear h hm hY
    go_enter Try.func29, Try.ntmps29
    go_wp2_with fail
    go_ret
    exact ⟨hrf, none, 0, fun _ => (.int .i64 0, .int .i64 0), rfl, ⟨SAt.nil_, fun i hi => absurd hi (by simp)⟩, ⟨fun h => absurd h (by simp), fun i hi => absurd hi (by simp), fun i hi => absurd hi (by simp)⟩⟩
/-- What Run hands back. -/
def RunOk (own : Own) (w : World) (defs : List DefM) (m' : MchM) (e : Ending) (w' : World) : Prop :=
  Kept (fun b => own b ≠ none) w w' ∧ ∃ A c cx M k sx dx, e = .returned (endVal (endM defs m') A M c k) ∧
    (∀ w'' X, (∀ b, X b → b < w.heap.size ∧ own b = none) → Kept X w' w'' → CallsAt w'' w''.heap.size A (endM defs m').calls cx ∧ MapsAt w'' w''.heap.size M (endM defs m').maps sx dx) ∧
    CallsOk (endM defs m').calls ∧ (endM defs m').calls.length ≤ 1000 ∧ (∀ l ∈ (endM defs m').maps, l.length ≤ 1000 ∧ ∀ i ∈ l, i.Ok)
theorem items_okM {own : Own} {w : World} {pM : Nat} {g : Gh} {l : List Insn} {defs : List DefM} {m : MchM} (h : MchIn own w pM g l defs m) : ∀ l ∈ (endM defs m).maps, l.length ≤ 1000 ∧ ∀ i ∈ l, i.Ok := by
  intro y hy
  simp only [endM, List.mem_map, List.mem_range] at hy
  obtain ⟨k, -, rfl⟩ := hy
  rw [itemsM_map]
  have hmap : (mapAt m.tab k).l.length ≤ 16 ∧ ∀ x ∈ (mapAt m.tab k).l, BytesOk x.k := by
    unfold mapAt
    rw [List.getD_eq_getElem?_getD]
    cases hq : m.tab[k]? with
    | none => exact ⟨Nat.zero_le _, fun x hx => by cases hx⟩
    | some a => exact ⟨(h.tab.ok a (List.mem_of_getElem? hq)).few, (h.tab.ok a (List.mem_of_getElem? hq)).key⟩
  refine ⟨by rw [List.length_map]; omega, fun i hi => ?_⟩
  rw [List.mem_map] at hi
  obtain ⟨x, hx, rfl⟩ := hi
  refine ⟨hmap.2 x hx, ?_⟩
  unfold itemOf
  simp only
  split
  · intro b hb; cases hb
  · unfold areaAt
    rw [List.getD_eq_getElem?_getD]
    cases hq : m.mem[(idxM (m.mem.map AreaM.id) (slotArea k x.slot) 0).toNat]? with
    | none => intro b hb; cases hb
    | some a => exact (h.mem.ok a (List.mem_of_getElem? hq)).byte
theorem far5 {wr Wg w8 : World} {B : Nat} {o : Option Nat} {u : Value} (hg : Wg.grownBy w8 o) (ho : ∀ b, o = some b → B + 1 ≤ b ∧ b < wr.heap.size) (hl : B < wr.heap.size) (hb : Below wr.heap.size wr Wg) (h1 : ∀ w', Below wr.heap.size wr w' → w'.cell? ⟨B, 5, none⟩ = some u) (h2 : ∀ w', Below wr.heap.size wr w' → w'.frozen? ⟨B, 5, none⟩ = false) : w8.cell? ⟨B, 5, none⟩ = some u ∧ w8.frozen? ⟨B, 5, none⟩ = false := by
  have hk : Kept (fun b => o = some b) Wg w8 := grown_kept hg (fun _ h => h)
  have hne : ¬ o = some B := fun e => by have := (ho B e).1; omega
  have hlt := Nat.lt_of_lt_of_le hl hb.size
  exact ⟨(hk.cell hlt hne).trans (h1 _ hb), (hk.frozen hlt hne).trans (h2 _ hb)⟩
set_option maxHeartbeats 4000000 in
theorem rrun11R {own : Own} {w : World} {pM : Nat} {g : Gh} {l : List Insn} {defs : List DefM} {m : MchM} (hfar : ∀ b, w.heap.size ≤ b → own b = none) (hp : Prog l) (hl : ∀ y ∈ l, y.Ok) (h : MchIn own w pM g l defs m) (hv : Runs l m) (hs0 : m.steps = 0) (hdl : defs.length ≤ 1000) (hdf : ∀ d ∈ defs, defOk d = true) :
    Calls Try.prog 10 #[.pointer (some ⟨pM, 0, none⟩), .int .i64 600] w (RunOk own w defs (runK l defs 600 600 m)) := by
  have hb0 := below_boxes1 w (.cells #[.int .i64 0, .int .i64 0, .int .u64 0, .int .i64 0, .slice none 0 0, .slice none 0 0] 56)
  have hRC := blk_new (xs := [.int .i64 0, .int .i64 0, .int .u64 0, .int .i64 0, .slice none 0 0, .slice none 0 0]) (heap_alloc_new w (.cells #[.int .i64 0, .int .i64 0, .int .u64 0, .int .i64 0, .slice none 0 0, .slice none 0 0] 56))
  have hfz := hfar w.heap.size (Nat.le_refl _)
  have hm0 := h.below hb0
  have hk0 : Kept (fun b => own b ≠ none) w (w.alloc (.cells #[.int .i64 0, .int .i64 0, .int .u64 0, .int .i64 0, .slice none 0 0, .slice none 0 0] 56)) := Kept.of hb0 (Nat.le_refl _)
  go_enter Try.func10, Try.ntmps10
  go_upto_block 0 with fail
  generalize w.alloc (.cells #[.int .i64 0, .int .i64 0, .int .u64 0, .int .i64 0, .slice none 0 0, .slice none 0 0] 56) = W at *
  go_cut [4] from 7 (fun v4 wx => v4 = .pointer (some ⟨w.heap.size, 0, none⟩) ∧ ∃ own1 g1, (∀ b, b < w.heap.size → own1 b = own b) ∧ own1 w.heap.size = none ∧ MchIn own1 wx pM g1 l defs (runK l defs 600 600 m) ∧ Kept (fun b => own b ≠ none) w wx ∧ Runs l (runK l defs 600 600 m) ∧ Blk wx w.heap.size [.int .i64 0, .int .i64 0, .int .u64 0, .int .i64 0, .slice none 0 0, .slice none 0 0])
  case first =>
    go_wp2_with fail
    go_loopg [] 600 (fun gk wr => ∃ own1 g1 m1, (∀ b, b < w.heap.size → own1 b = own b) ∧ own1 w.heap.size = none ∧ MchIn own1 wr pM g1 l defs m1 ∧ Kept (fun b => own b ≠ none) w wr ∧ Runs l m1 ∧ (m1.over = false → m1.steps + gk = 600) ∧ runK l defs 600 600 m = runK l defs 600 gk m1 ∧ Blk wr w.heap.size [.int .i64 0, .int .i64 0, .int .u64 0, .int .i64 0, .slice none 0 0, .slice none 0 0])
    case atStart => exact ⟨own, g, m, fun _ _ => rfl, hfz, hm0, hk0, hv, fun _ => by rw [hs0], rfl, hRC⟩
    case round =>
      obtain ⟨own1, g1, m1, hlow, hz1, hm1, hk1, hR1, hst, hrk, hbk⟩ := hrel
      have c28 : wr.cell? ⟨pM, 28, none⟩ = some (.bool m1.over) := hm1.blk.cell (mch_hi hm1.lr hm1.ls 5)
      have c30 : wr.cell? ⟨pM, 30, none⟩ = some (.int .i64 m1.steps) := hm1.blk.cell (mch_hi hm1.lr hm1.ls 7)
      cases ho : m1.over with
      | true =>
        rw [ho] at c28
        have he : runK l defs 600 600 m = m1 := by rw [hrk]; exact runK_over (.inl ho)
        have HE := Lib.hid he
        have HF := Lib.hid (And.intro hm1 (And.intro hk1 (And.intro hR1 hbk)))
        clear hm1 hk1 hR1 hbk hrk hst he hm0 h hv
        go_wp2_with fail
        go_meet
        case rel => rw [HE.out]; exact ⟨rfl, own1, g1, hlow, hz1, HF.out.1, HF.out.2.1, HF.out.2.2.1, HF.out.2.2.2⟩
      | false =>
        rw [ho] at c28
        have hst1 := hst ho
        by_cases hlt : m1.steps < 600
        · have hli : ((m1.steps : Nat) : Int) < 600 := by omega
          obtain ⟨gk', rfl⟩ : ∃ k, gk = k + 1 := ⟨gk - 1, by omega⟩
          have hstep := rstep11 hp hl hm1 (hR1.live ho) ho (by omega) hdl hdf
          have hnext := step_runs (defs := defs) hp hR1 ho (by omega) hm1.mem.ok (fun i => hm1.reg_u64 i)
          have hrk2 := hrk.trans (runK_step (by rw [ho]; intro e; rcases e with e | e; cases e; omega))
          have HF := Lib.hid (And.intro hk1 (And.intro hnext (And.intro hrk2 (And.intro hbk hm1.role))))
          clear hm1 hk1 hR1 hbk hrk hst hm0 h hv hnext hrk2
          go_wp2_with fail
          refine hstep.mono ?_
          rintro e w3 ⟨rfl, own2, g2, ho2, hm2, hk2⟩
          go_wp2_with fail
          go_roundg gk'
          case measure => omega
          case rel =>
            obtain ⟨k1, k2, k3, k4, k5⟩ := HF.out
            have hsz := k4.lt
            refine ⟨own2, g2, _, fun b hb => (ho2 b (Nat.lt_of_lt_of_le hb k1.size)).trans (hlow b hb), (ho2 _ hsz).trans hz1, hm2, k1.trans hk2 (fun i hi e f => e ((hlow i hi).trans f)), k2.1, fun e => ?_, k3, k4.kept hk2 (fun e => e hz1)⟩
            have := k2.2 e
            omega
        · have hli : ¬ ((m1.steps : Nat) : Int) < 600 := by omega
          have he : runK l defs 600 600 m = m1 := by rw [hrk]; exact runK_over (.inr (by omega))
          have HE := Lib.hid he
          have HF := Lib.hid (And.intro hm1 (And.intro hk1 (And.intro hR1 hbk)))
          clear hm1 hk1 hR1 hbk hrk hst he hm0 h hv
          go_wp2_with fail
          go_meet
          case rel => rw [HE.out]; exact ⟨rfl, own1, g1, hlow, hz1, HF.out.1, HF.out.2.1, HF.out.2.2.1, HF.out.2.2.2⟩
  case rest =>
    obtain ⟨rfl, own1, g1, hlow, hz1, hm1, hk1, hR1, hbk⟩ := hcut
    obtain ⟨V0, hV0⟩ : ∃ V0 : World, V0 = wc := ⟨wc, rfl⟩
    subst hV0
    clear hm0 hk0 hRC h hv hb0
    generalize runK l defs 600 600 m = M at *
    have hml : M.mem.length ≤ 1000000 := by
      have h1 := madeSum_le M.tab hm1.tab.ok
      have h2 := hm1.tab.few
      have h3 := hR1.mem
      omega
    have hB := fun w' (hb : Below V0.heap.size V0 w') => hm1.below hb
    have p29 : ∀ w', Below V0.heap.size V0 w' → w'.cell? ⟨pM, 29, none⟩ = some (.int .i64 M.code) := fun w' hb => (hm1.blk.below hb).cell (mch_hi hm1.lr hm1.ls 6)
    have p27 : ∀ w', Below V0.heap.size V0 w' → w'.cell? ⟨pM, 27, none⟩ = some (.int .i64 M.place) := fun w' hb => (hm1.blk.below hb).cell (mch_hi hm1.lr hm1.ls 4)
    have p30 : ∀ w', Below V0.heap.size V0 w' → w'.cell? ⟨pM, 30, none⟩ = some (.int .i64 M.steps) := fun w' hb => (hm1.blk.below hb).cell (mch_hi hm1.lr hm1.ls 7)
    have p28 : ∀ w', Below V0.heap.size V0 w' → w'.cell? ⟨pM, 28, none⟩ = some (.bool M.over) := fun w' hb => (hm1.blk.below hb).cell (mch_hi hm1.lr hm1.ls 5)
    have p1 : ∀ w', Below V0.heap.size V0 w' → w'.cell? ⟨pM, 1, none⟩ = some (.int .u64 (regM M 0)) := fun w' hb => (hm1.blk.below hb).cell (mch_r hm1.lr 0 (by decide))
    have p24 : ∀ w', Below V0.heap.size V0 w' → w'.cell? ⟨pM, 24, none⟩ = some (.pointer (some ⟨g1.pt, 0, none⟩)) := fun w' hb => (hm1.blk.below hb).cell (mch_hi hm1.lr hm1.ls 1)
    obtain ⟨cD, hDe, -⟩ := hm1.maps
    have p25 : ∀ w', Below V0.heap.size V0 w' → w'.cell? ⟨pM, 25, none⟩ = some (.slice g1.AD defs.length cD) := fun w' hb => by
      have := (hm1.blk.below hb).cell (mch_hi hm1.lr hm1.ls 2)
      rw [this]; simp [hDe]
    obtain ⟨Ac, cc, hcl⟩ := hm1.calls.slice
    have p31 : ∀ w', Below V0.heap.size V0 w' → w'.cell? ⟨pM, 31, none⟩ = some (.slice Ac M.calls.length cc) := fun w' hb => by
      have := (hm1.blk.below hb).cell (mch_hi hm1.lr hm1.ls 8)
      rw [this]; simp [hcl]
    have hit := fun w' (hb : Below V0.heap.size V0 w') (k : Nat) => ritems_any (hm1.below hb).tab (hm1.below hb).mem hml k
    have hrf := Below.refl V0.heap.size V0
    have hE1 := Lib.hid (show (endM defs M).code = if M.over = true then M.code else 111 from rfl)
    have hE2 := Lib.hid (show (endM defs M).r0 = if (endM defs M).code = 0 then regM M 0 else 0 from rfl)
    have hEm : (endM defs M).maps = (List.range defs.length).map (itemsM M.mem M.tab) := rfl
    have hEl : (endM defs M).maps.length = defs.length := by rw [hEm]; simp
    have hEo := items_okM hm1
    have hplace : (endM defs M).place = M.place := rfl
    have hsteps : (endM defs M).steps = M.steps := rfl
    have hcalls : (endM defs M).calls = M.calls := rfl
    have HM := Lib.hid (And.intro hm1 (And.intro hk1 (And.intro hR1 (And.intro hEo (And.intro hcl hlow)))))
    have HE := Lib.hid (And.intro hplace (And.intro hsteps (And.intro hcalls hEm)))
    clear hm1 hk1 hR1 hEo hcl hplace hsteps hcalls hEm hDe hlow hml hl hp
    generalize hEE : endM defs M = E at *
    have HEE := Lib.hid hEE
    clear hEE
    go_upto_region 3 with fail
    go_region_held3 (fun w' => Below V0.heap.size V0 w')
      (repeat (first | assumption | refine sbelow_drew ?_ | refine sbelow_alloc ?_ (Nat.le_refl _)))
      (fail)
    all_goals
      have hbO : Below V0.heap.size V0 (V0.alloc (.cells #[.int .i64 M.code, .int .i64 M.place, .int .u64 0, .int .i64 M.steps, .slice Ac M.calls.length cc, .slice none 0 0] 56)).drew := (below_boxes1 V0 _).drew
      have hO := (blk_new (xs := [.int .i64 M.code, .int .i64 M.place, .int .u64 0, .int .i64 M.steps, .slice Ac M.calls.length cc, .slice none 0 0]) (heap_alloc_new V0 (.cells #[.int .i64 M.code, .int .i64 M.place, .int .u64 0, .int .i64 M.steps, .slice Ac M.calls.length cc, .slice none 0 0] 56))).drew
      have hOz : V0.heap.size + 1 ≤ ((V0.alloc (.cells #[.int .i64 M.code, .int .i64 M.place, .int .u64 0, .int .i64 M.steps, .slice Ac M.calls.length cc, .slice none 0 0] 56)).drew).heap.size := Nat.le_of_eq (World.size_alloc _ _).symm
      generalize (V0.alloc (.cells #[.int .i64 M.code, .int .i64 M.place, .int .u64 0, .int .i64 M.steps, .slice Ac M.calls.length cc, .slice none 0 0] 56)).drew = V at *
      have q28 := p28 _ hbO
      go_upto_if 43 with fail
      go_cut [] from 7 (fun wx => Below V0.heap.size V0 wx ∧ Blk wx V0.heap.size [.int .i64 E.code, .int .i64 M.place, .int .u64 0, .int .i64 M.steps, .slice Ac M.calls.length cc, .slice none 0 0] ∧ V0.heap.size + 1 ≤ wx.heap.size)
      case first =>
        obtain ⟨⟨y0, y1, y2, y3, y4, y5⟩, f0, f1, f2, f3, f4, f5⟩ := Blk.six hO
        cases hov : M.over with
        | true =>
          have he : E.code = M.code := by rw [hE1.out, if_pos hov]
          have HF := Lib.hid (And.intro hO he)
          clear hO he hE1 hE2
          go_wp2_with fail
          go_meet
          case rel => exact ⟨hbO, by rw [HF.out.2]; exact HF.out.1, hOz⟩
        | false =>
          have he : E.code = 111 := by rw [hE1.out, if_neg (by rw [hov]; decide)]
          have hO2 := hO.set (k := 0) (by simp) (.int .i64 111)
          have HF := Lib.hid (And.intro hO2 he)
          clear hO he hO2 hE1 hE2
          go_wp2_with fail
          go_meet
          case rel => exact ⟨hbO.setCell (Nat.le_refl _) _, by rw [HF.out.2]; exact HF.out.1, by simpa using hOz⟩
      case rest =>
        clear hO hOz hbO q28
        obtain ⟨hbO, hO, hOz⟩ := hcut
        obtain ⟨V1, hV1⟩ : ∃ V1 : World, V1 = wc := ⟨wc, rfl⟩
        subst hV1
        obtain ⟨⟨y0, y1, y2, y3, y4, y5⟩, f0, f1, f2, f3, f4, f5⟩ := Blk.six hO
        go_upto_if 47 with fail
        go_cut [] from 7 (fun wx => Below V0.heap.size V0 wx ∧ Blk wx V0.heap.size [.int .i64 E.code, .int .i64 M.place, .int .u64 E.r0, .int .i64 M.steps, .slice Ac M.calls.length cc, .slice none 0 0] ∧ V0.heap.size + 1 ≤ wx.heap.size)
        case first =>
          by_cases hc : E.code = 0
          · have he : E.r0 = regM M 0 := by rw [hE2.out, if_pos hc]
            have hO2 := hO.set (k := 2) (by simp) (.int .u64 (regM M 0))
            have q1 := p1 _ hbO
            have HF := Lib.hid (And.intro hO2 he)
            have hcb : (E.code == 0) = true := by simpa using hc
            clear hO he hO2 hE1 hE2
            go_wp2_with fail
            go_meet
            case rel => exact ⟨hbO.setCell (Nat.le_refl _) _, by rw [HF.out.2]; exact HF.out.1, by simpa using hOz⟩
          · have he : E.r0 = 0 := by rw [hE2.out, if_neg hc]
            have HF := Lib.hid (And.intro hO he)
            have hcb : (E.code == 0) = false := by simpa using hc
            clear hO he hE1 hE2
            go_wp2_with fail
            go_meet
            case rel => exact ⟨hbO, by rw [HF.out.2]; exact HF.out.1, hOz⟩
        case rest =>
          clear hO hOz hbO y0 y1 y2 y3 y4 y5 f0 f1 f2 f3 f4 f5 hE1 hE2
          obtain ⟨hbO, hO, hOz⟩ := hcut
          obtain ⟨V2, hV2⟩ : ∃ V2 : World, V2 = wc := ⟨wc, rfl⟩
          subst hV2
          obtain ⟨i30, hi30, hq0, hq1, hq2⟩ := info_parts info30
          go_wp2_with fail
          go_loopw [6] (fun q wr => ∃ (j : Nat) (Am : Option Addr) (cm : Nat) (sv : Nat → Value) (dd : Nat → Nat → Value × Value), j ≤ defs.length ∧ q = .int .i64 j ∧ Below V0.heap.size V0 wr ∧ Blk wr V0.heap.size [.int .i64 E.code, .int .i64 M.place, .int .u64 E.r0, .int .i64 M.steps, .slice Ac M.calls.length cc, .slice Am j cm] ∧ wr.ownsRow (V0.heap.size + 1) 30 1 (.slice Am j cm) j (slicesV sv (E.maps.take j) 0) ∧ (∀ i, i < j → MapFar wr (V0.heap.size + 1) (Value.slice Am j cm).ownBlock (sv i) (E.maps.getD i []) (dd i)) ∧ V0.heap.size + 1 ≤ wr.heap.size) (fun q _ => defs.length - (intOf q).toNat)
          case atStart => exact ⟨0, none, 0, fun _ => .int .i64 0, fun _ _ => (.int .i64 0, .int .i64 0), by omega, rfl, hbO, hO, World.ownsRow_nil _ _ _ _, fun i hi => absurd hi (by omega), hOz⟩
          case round =>
            obtain ⟨j, Am, cm, sv, dd, hj, rfl, hbr, hOr, hrow, hfm, hsz⟩ := hrel
            clear hO hbO hOz
            obtain ⟨⟨y0, y1, y2, y3, y4, y5⟩, f0, f1, f2, f3, f4, f5⟩ := Blk.six hOr
            have q25 := p25 _ hbr
            have q24 := p24 _ hbr
            rcases Nat.lt_or_ge j defs.length with hlt | hge
            · have hji : (j : Int) < (defs.length : Int) := by omega
              have hFj : E.maps.getD j [] = itemsM M.mem M.tab j := by rw [HE.out.2.2.2]; simp [List.getD_eq_getElem?_getD, hlt]
              have hcall := fun w' (hb : Below V0.heap.size V0 w') => hit w' hb j
              rw [← hFj] at hcall
              have hjm : j < E.maps.length := by rw [hEl]; exact hlt
              generalize hY : E.maps.getD j [] = Y at hcall
              have HY := Lib.hid hY
              have y5n : ∀ w', Below wr.heap.size wr w' → w'.cell? ⟨V0.heap.size, 5, none⟩ = some (.slice Am j cm) := fun w' hb => (hb.cell (p := ⟨V0.heap.size, 5, none⟩) hOr.lt).trans y5
              have f5n : ∀ w', Below wr.heap.size wr w' → w'.frozen? ⟨V0.heap.size, 5, none⟩ = false := fun w' hb => (hb.frozen (p := ⟨V0.heap.size, 5, none⟩) hOr.lt).trans f5
              have q24n := fun w' (hb : Below wr.heap.size wr w') => p24 w' (hbr.trans (hb.mono hbr.size))
              have hAm : ∀ b, (Value.slice Am j cm).ownBlock = some b → V0.heap.size + 1 ≤ b ∧ b < wr.heap.size := fun b e => hrow.lt b e
              have hrr := Below.refl wr.heap.size wr
              have hm63 : j + 1 ≤ maxLen := by simp only [maxLen]; omega
              have hmby : (j + 1) * 24 ≤ 140737488355328 := by omega
              have hOl := hOr.lt
              have HR := Lib.hid (And.intro hrow (And.intro hfm hOr))
              have HB := Lib.hid hbk
              clear hrow hfm hOr hit hFj y0 y1 y2 y3 y4 y5 f0 f1 f2 f3 f4 f5 p1 p24 p25 p27 p28 p29 p30 p31 hY hbk
              go_upto_region 11 with fail
              clear q25 q24
              go_region_law
                (first
                  | (go_simp; refine (hcall _ (by first | exact hbr | exact hbr.drew)).mono ?_; unfold ItemsOk; rintro e w5 ⟨hb5, Ai, ci, di, rfl, hia, hib⟩; have hb5r : Below wr.heap.size wr w5 := (by first | exact hb5 | exact (Below.refl wr.heap.size wr).drew.trans hb5))
                  | (refine step_append_x rfl (.tmp 64) (.tmp 71) 25 rfl (V0.heap.size + 1) 30 i30 (.slice none 0 0) 1 24 Try.underlying25 hi30 hq0 hq1 hq2 rfl (by decide) Am j cm (slicesV sv (E.maps.take j) 0) rfl ?_ (w5.heap.size + 1) (some ⟨w5.heap.size, 0, none⟩) 1 1 [.slice Ai Y.length ci] rfl (sat_new w5 30 #[.slice Ai Y.length ci] 1 1 rfl) (by decide) ?_ hm63 hmby ?_ ?_; (refine own_kept HR.out.1 (Kept.of (X := fun _ => False) (B := wr.heap.size) ?_ (Nat.le_refl _)) (fun _ _ => id); (repeat (first | assumption | exact Below.refl _ _ | refine sbelow_drew ?_ | refine sbelow_alloc ?_ (Nat.le_refl _)))); (intro u hu; simp at hu; subst hu; rfl); (refine Nat.le_trans hsz (Below.size (B := wr.heap.size) (w := wr) ?_); (repeat (first | assumption | exact Below.refl _ _ | refine sbelow_drew ?_ | refine sbelow_alloc ?_ (Nat.le_refl _)))); (intro A8 c8 w8 ho8 hg8 hor8; have p5 : w8.cell? ⟨V0.heap.size, 5, none⟩ = some (.slice Am j cm) := (far5 hg8 hAm hOl (by (repeat (first | assumption | exact Below.refl _ _ | refine sbelow_drew ?_ | refine sbelow_alloc ?_ (Nat.le_refl _)))) y5n f5n).1; have g5 : w8.frozen? ⟨V0.heap.size, 5, none⟩ = false := (far5 hg8 hAm hOl (by (repeat (first | assumption | exact Below.refl _ _ | refine sbelow_drew ?_ | refine sbelow_alloc ?_ (Nat.le_refl _)))) y5n f5n).2)))
              all_goals
                have hbg : Below wr.heap.size wr (w5.alloc (.cells #[.slice Ai Y.length ci] 30)) := hb5r.alloc hb5r.size _
                have hb8 : Below V0.heap.size V0 w8 := (hbr.trans (hbg.mono hbr.size)).trans (below_of_grown hg8 (Nat.le_trans hbr.size hbg.size) (fun k e => by have := (hAm k e).1; omega))
                have hj8 := map_join (W1 := w5) (Wg := w5.alloc (.cells #[.slice Ai Y.length ci] 30)) (F := fun i => E.maps.getD i []) (sv := sv) (dd := dd) (c8 := c8) (ci := ci) hb5r HR.out.2.1 hsz (fun b e => (hAm b e).2) (Ai := Ai) (d := di) (by rw [HY.out]; exact hia) (by rw [HY.out]; exact hib) (below_boxes1 w5 _) hg8 (by rcases hor8 with h | h; exact .inl h; exact .inr h)
                simp only [HY.out] at hj8
                have hrow8 := slicesV_join (sv := sv) (Ys := E.maps) (j := j) hjm (.slice Ai Y.length ci)
                rw [← hrow8] at ho8
                have hk8 : Kept (fun b => (Value.slice Am j cm).ownBlock = some b) (w5.alloc (.cells #[.slice Ai Y.length ci] 30)) w8 := grown_kept hg8 (fun _ h => h)
                have hO8 : Blk w8 V0.heap.size [.int .i64 E.code, .int .i64 M.place, .int .u64 E.r0, .int .i64 M.steps, .slice Ac M.calls.length cc, .slice Am j cm] := (HR.out.2.2.kept (X := fun _ => False) (Kept.of hbg (Nat.le_refl _)) id).kept hk8 (fun e => by have := (hAm _ e).1; omega)
                have hO9 := hO8.set (k := 5) (by simp) (.slice A8 (j + 1) c8)
                have hks : Kept (fun b => b = V0.heap.size) w8 (w8.setCell ⟨V0.heap.size, 5, none⟩ (.slice A8 (j + 1) c8)) := Kept.set Kept.refl rfl
                have hrow9 := own_kept ho8 hks (fun b e f => by have := (ho8.lt b e).1; omega)
                have hb9 := hb8.setCell (p := ⟨V0.heap.size, 5, none⟩) (Nat.le_refl _) (.slice A8 (j + 1) c8)
                have hfm9 : ∀ i, i < j + 1 → MapFar (w8.setCell ⟨V0.heap.size, 5, none⟩ (.slice A8 (j + 1) c8)) (V0.heap.size + 1) (Value.slice A8 (j + 1) c8).ownBlock (if i = j then .slice Ai Y.length ci else sv i) (E.maps.getD i []) (if i = j then di else dd i) := fun i hi => by
                  obtain ⟨A, c, e1, s1, s2, s3⟩ := (hj8 i hi).at_
                  exact ⟨A, c, e1, s1.kept2 (X := fun b => b = V0.heap.size) (s2.off (fun b e => by omega)) hks, s2, s3⟩
                have hsz9 : V0.heap.size + 1 ≤ (w8.setCell ⟨V0.heap.size, 5, none⟩ (.slice A8 (j + 1) c8)).heap.size := by
                  have h1 := hbg.size
                  have h2 := hk8.size
                  simp only [World.size_setCell]
                  omega
                have HJ := Lib.hid (And.intro hb9 (And.intro hO9 (And.intro hrow9 (And.intro hfm9 hsz9))))
                clear hb9 hO9 hrow9 hfm9 hsz9 hj8 hrow8 hk8 hO8 hks ho8 hg8 hor8 hbg hb8 hia hib p5 g5
                go_wp2_with fail
                go_roundw
                case rel => exact ⟨j + 1, A8, c8, _, _, by omega, by go_num, HJ.out.1, HJ.out.2.1, HJ.out.2.2.1, HJ.out.2.2.2.1, HJ.out.2.2.2.2⟩
                all_goals (simp [intOf]; omega)
            · have hji : ¬ (j : Int) < (defs.length : Int) := by omega
              have hjl : j = defs.length := by omega
              have hRC := hbk.below hbr
              obtain ⟨⟨t0, t1, t2, t3, t4, t5⟩, e0, e1, e2, e3, e4, e5⟩ := Blk.six hRC
              have hfin := hRC.put6 (.int .i64 E.code) (.int .i64 M.place) (.int .u64 E.r0) (.int .i64 M.steps) (.slice Ac M.calls.length cc) (.slice Am j cm)
              have HP := Lib.hid (And.intro hfin (And.intro hrow (And.intro hfm hbr)))
              have HX := Lib.hid hbk
              clear hfin hrow hfm hRC hOr hbk hit
              go_wp2_with fail
              have hfin2 := HP.out.1
              rw [hjl] at hfin2
              obtain ⟨⟨g0, g1', g2, g3, g4, g5⟩, -⟩ := Blk.six hfin2
              have hkf : Kept (fun b => b = w.heap.size) wr ((((((wr.setCell ⟨w.heap.size, 0, none⟩ (.int .i64 E.code)).setCell ⟨w.heap.size, 1, none⟩ (.int .i64 M.place)).setCell ⟨w.heap.size, 2, none⟩ (.int .u64 E.r0)).setCell ⟨w.heap.size, 3, none⟩ (.int .i64 M.steps)).setCell ⟨w.heap.size, 4, none⟩ (.slice Ac M.calls.length cc)).setCell ⟨w.heap.size, 5, none⟩ (.slice Am defs.length cm)) := Kept.set (Kept.set (Kept.set (Kept.set (Kept.set (Kept.set Kept.refl rfl) rfl) rfl) rfl) rfl) rfl
              clear hfin2
              generalize ((((((wr.setCell ⟨w.heap.size, 0, none⟩ (.int .i64 E.code)).setCell ⟨w.heap.size, 1, none⟩ (.int .i64 M.place)).setCell ⟨w.heap.size, 2, none⟩ (.int .u64 E.r0)).setCell ⟨w.heap.size, 3, none⟩ (.int .i64 M.steps)).setCell ⟨w.heap.size, 4, none⟩ (.slice Ac M.calls.length cc)).setCell ⟨w.heap.size, 5, none⟩ (.slice Am defs.length cm)) = wf at *
              refine bodyPost_ret (v := .agg #[.int .i64 E.code, .int .i64 M.place, .int .u64 E.r0, .int .i64 M.steps, .slice Ac M.calls.length cc, .slice Am defs.length cm]) ?_ rfl ?_
              · simp [results, Try.results10, go_sem, g0, g1', g2, g3, g4, g5]
              · obtain ⟨hm1, hk1, hR1, hEo, hcl, hlw⟩ := HM.out
                obtain ⟨e6, e7, e8, e9⟩ := HE.out
                obtain ⟨hfin, hrow, hfm, hbr2⟩ := HP.out
                have hRl := HX.out.lt
                rw [hjl] at hrow hfm
                have hkV : Kept (fun b => b = w.heap.size) V0 wf := (Kept.of (X := fun b => b = w.heap.size) hbr2 (Nat.le_refl _)).trans hkf (fun _ _ e => e)
                unfold RunOk
                rw [HEE.out]
                refine ⟨hk1.trans hkV (fun i hi e => by omega), Ac, cc, g1.cd, Am, cm, sv, dd, ?_, ?_, ?_, ?_, hEo⟩
                · unfold endVal
                  rw [e6, e7, e8, hEl]
                · intro w'' X hX hk
                  have hkX : Kept (fun b => b = w.heap.size ∨ X b) V0 w'' := ((Kept.refl (X := fun b => b = w.heap.size ∨ X b)).trans hkV (fun _ _ e => .inl e)).trans hk (fun _ _ e => .inr e)
                  have hkX2 : Kept (fun b => b = w.heap.size ∨ X b) wr w'' := ((Kept.refl (X := fun b => b = w.heap.size ∨ X b)).trans hkf (fun _ _ e => .inl e)).trans hk (fun _ _ e => .inr e)
                  have hsm : ∀ b, (b = w.heap.size ∨ X b) → b < V0.heap.size + 1 := fun b e => by
                    rcases e with e | e
                    · omega
                    · have := (hX b e).1; omega
                  refine ⟨?_, ?_, fun i hi => ?_⟩
                  · rw [e8]
                    exact hm1.callsKept hkX (fun b e => by
                      rcases e with e | e
                      · rw [e]; exact hz1
                      · rw [hlw b (hX b e).1]; exact (hX b e).2) hcl
                  · have h1 := own_sat hrow
                    have h2 : E.maps.take defs.length = E.maps := List.take_of_length_le (by omega)
                    rw [h2] at h1
                    rw [hEl]
                    exact sat_of_kept h1 hkX2 (fun h0 b o e f => by
                      have h3 := (hrow.lt b (by rw [e]; rfl)).1
                      have h4 := hsm b f
                      omega)
                  · obtain ⟨A, c, e1, s1, s2, -⟩ := (hfm i (by omega)).at_
                    have h5 : E.maps.getD i [] = E.maps[i] := by simp [List.getD_eq_getElem?_getD, hi]
                    rw [h5] at e1 s1 s2
                    exact ⟨A, c, e1, s1.kept2 (s2.off hsm) hkX2⟩
                · rw [e8]; exact hR1.ok
                · rw [e8]; exact hR1.calls
theorem RunOk.own_eq {own own' : Own} {w : World} {defs : List DefM} {m' : MchM} {e : Ending} {w' : World} (h : RunOk own' w defs m' e w') (ho : ∀ b, b < w.heap.size → own' b = own b) : RunOk own w defs m' e w' := by
  obtain ⟨h1, A, c, cx, M, k, sx, dx, h2, h3, h4⟩ := h
  exact ⟨(Kept.refl (X := fun b => own b ≠ none)).trans h1 (fun i hi e => by rw [← ho i hi]; exact e), A, c, cx, M, k, sx, dx, h2, fun w'' X hX hk => h3 w'' X (fun b hb => ⟨(hX b hb).1, (ho b (hX b hb).1).trans (hX b hb).2⟩) hk, h4⟩
/-- Run, whatever comes of it. -/
theorem rrun11 {own : Own} {w : World} {pM : Nat} {g : Gh} {l : List Insn} {defs : List DefM} {m : MchM} (hp : Prog l) (hl : ∀ y ∈ l, y.Ok) (h : MchIn own w pM g l defs m) (hv : Runs l m) (hs0 : m.steps = 0) (hdl : defs.length ≤ 1000) (hdf : ∀ d ∈ defs, defOk d = true) :
    Calls Try.prog 10 #[.pointer (some ⟨pM, 0, none⟩), .int .i64 600] w (RunOk own w defs (runK l defs 600 600 m)) := by
  generalize hO : ((fun b => if b < w.heap.size then own b else none) : Own) = O
  have ho : ∀ b, b < w.heap.size → O b = own b := fun b hb => by rw [← hO]; exact if_pos hb
  have hfar : ∀ b, w.heap.size ≤ b → O b = none := fun b hb => by rw [← hO]; exact if_neg (by omega)
  refine (rrun11R hfar hp hl (h.own_eq ho) hv hs0 hdl hdf).mono ?_
  rintro e w' h2
  exact h2.own_eq ho
end
end Go.Proofs.Ytncogaikiceidaa
