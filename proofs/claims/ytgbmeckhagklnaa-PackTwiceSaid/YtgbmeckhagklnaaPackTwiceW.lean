/- The law PackTwice, walked. No statement is proved here. -/
import Derived.Test.YtgbmeckhagklnaaPackD
import Derived.Test.YtgbmeckhagklnaaPackT
import Derived.Deep.AppendLies
import Derived.Deep.RegionHeld3
import Derived.Deep.CutRange
namespace Go.Proofs.Ytgbmeckhagklnaa
open Go.RowKit
set_option linter.unusedSimpArgs false
set_option linter.unusedVariables false
set_option linter.unnecessarySimpa false
/-- Rows of what is told, each a slice of the call's own, no two in one block. -/
def Book (base : Nat) (W : World) (L : List (Value × Nat × List Value)) : Prop :=
  (∀ (i : Nat) (r : Value × Nat × List Value), L[i]? = some r → W.ownsRow base 71 7 r.1 r.2.1 r.2.2) ∧
  (∀ (i j : Nat) (r s : Value × Nat × List Value), i ≠ j → L[i]? = some r → L[j]? = some s → ∀ k, r.1.ownBlock = some k → s.1.ownBlock ≠ some k)
section
variable {base : Nat} {W W' : World} {L : List (Value × Nat × List Value)}
theorem Book.own (h : Book base W L) (i : Nat) {r : Value × Nat × List Value} (hi : L[i]? = some r) : W.ownsRow base 71 7 r.1 r.2.1 r.2.2 := h.1 i r hi
theorem Book.empty : Book base W [(.slice none 0 0, 0, []), (.slice none 0 0, 0, []), (.slice none 0 0, 0, [])] := by
  refine ⟨fun i r hi => ?_, fun i j r s hne hi hj k hk => ?_⟩
  · have : r ∈ [((Value.slice none 0 0, 0, []) : Value × Nat × List Value), (.slice none 0 0, 0, []), (.slice none 0 0, 0, [])] := List.mem_of_getElem? hi
    simp at this
    subst this
    exact World.ownsRow_nil _ _ _ _
  · have : r ∈ [((Value.slice none 0 0, 0, []) : Value × Nat × List Value), (.slice none 0 0, 0, []), (.slice none 0 0, 0, [])] := List.mem_of_getElem? hi
    simp at this
    subst this
    simp [Value.ownBlock] at hk
theorem Book.keep (h : Book base W L) (hb : Below W.heap.size W W') : Book base W' L := ⟨fun i r hi => own_keep (h.1 i r hi) hb, h.2⟩
theorem Book.drew (h : Book base W L) : Book base W.drew L := ⟨fun i r hi => h.1 i r hi, h.2⟩
theorem Book.alloc (h : Book base W L) (o : Obj) : Book base (W.alloc o) L := ⟨fun i r hi => (h.1 i r hi).alloc o, h.2⟩
theorem Book.take (h : Book base W L) (n : Nat) : Book base W (L.take n) := by
  have e : ∀ i r, (L.take n)[i]? = some r → L[i]? = some r := fun i r hi => by
    rw [List.getElem?_take] at hi
    split at hi
    · exact hi
    · cases hi
  exact ⟨fun i r hi => h.1 i r (e i r hi), fun i j r s hne hi hj => h.2 i j r s hne (e i r hi) (e j s hj)⟩
/-- A slice that is built is a row of its own. -/
theorem Book.build (h : Book base W L) (hbase : base ≤ W.heap.size) {g : Nat} (hg : W.heap.size = g) (cs : Array Value) (hcs : cs.size = 7) : Book base (W.alloc (.cells cs 71)) (L ++ [(.slice (some ⟨g, 0, none⟩) 1 1, 1, cs.toList)]) := by
  subst hg
  have key : ∀ i r, (L ++ [((.slice (some ⟨W.heap.size, 0, none⟩) 1 1, 1, cs.toList) : Value × Nat × List Value)])[i]? = some r → (L[i]? = some r ∧ ∀ k, r.1.ownBlock = some k → k < W.heap.size) ∨ (i = L.length ∧ r = (.slice (some ⟨W.heap.size, 0, none⟩) 1 1, 1, cs.toList)) := by
    intro i r hi
    rcases Nat.lt_or_ge i L.length with hlt | hge
    · rw [List.getElem?_append_left hlt] at hi
      exact .inl ⟨hi, fun k hk => ((h.1 i r hi).lt k hk).2⟩
    · rw [List.getElem?_append_right hge] at hi
      rcases Nat.eq_or_lt_of_le hge with he | hl
      · subst he
        simp at hi
        exact .inr ⟨rfl, hi.symm⟩
      · rw [List.getElem?_eq_none (by simp; omega)] at hi
        cases hi
  refine ⟨fun i r hi => ?_, fun i j r s hne hi hj k hk => ?_⟩
  · rcases key i r hi with ⟨h1, _⟩ | ⟨_, rfl⟩
    · exact (h.1 i r h1).alloc _
    · refine ⟨by simp [hcs], .inr ⟨W.heap.size, 1, cs, rfl, hbase, heap_alloc_new _ _, Nat.le_refl _, by simp [maxLen], by omega, ?_⟩⟩
      exact List.take_of_length_le (by simp [hcs])
  · rcases key i r hi with ⟨h1, h2⟩ | ⟨h1, rfl⟩
    · rcases key j s hj with ⟨g1, g2⟩ | ⟨g1, rfl⟩
      · exact h.2 i j r s hne h1 g1 k hk
      · have := h2 k hk
        intro he
        simp [Value.ownBlock] at he
        omega
    · rcases key j s hj with ⟨g1, g2⟩ | ⟨g1, rfl⟩
      · intro he
        have := g2 k he
        simp [Value.ownBlock] at hk
        omega
      · omega
/-- What such a row holds. -/
theorem Book.box (h : Book base W L) (i : Nat) {g : Nat} {v0 v1 v2 v3 v4 v5 v6 : Value} (hi : L[i]? = some (.slice (some ⟨g, 0, none⟩) 1 1, 1, [v0, v1, v2, v3, v4, v5, v6])) :
    W.cell? ⟨g, 0, none⟩ = some v0 ∧ W.cell? ⟨g, 1, none⟩ = some v1 ∧ W.cell? ⟨g, 2, none⟩ = some v2 ∧ W.cell? ⟨g, 3, none⟩ = some v3 ∧ W.cell? ⟨g, 4, none⟩ = some v4 ∧ W.cell? ⟨g, 5, none⟩ = some v5 ∧ W.cell? ⟨g, 6, none⟩ = some v6 := by
  obtain ⟨b, o, e, _, hc⟩ := (SAt.own (h.own i hi)).2 (by omega)
  simp only [Option.some.injEq, Addr.mk.injEq, and_true] at e
  obtain ⟨rfl, rfl⟩ := e
  have k : ∀ j u, [v0, v1, v2, v3, v4, v5, v6][j]? = some u → W.cell? ⟨g, j, none⟩ = some u := fun j u hu => by
    have := hc j u hu
    rwa [Nat.zero_add] at this
  exact ⟨k 0 _ rfl, k 1 _ rfl, k 2 _ rfl, k 3 _ rfl, k 4 _ rfl, k 5 _ rfl, k 6 _ rfl⟩
end
section
variable {P : Program} {base : Nat} {w : World} {L : List (Value × Nat × List Value)}
/-- One row appended to another. -/
theorem run_append_book (t ty : TypeId) (i : TypeInfo) (z : Value) (ht : P.underlying t = some (.slice 71)) (hi : P.info? 71 = some i) (hz : i.zero = some z)
    (hsize : i.size = 7) (hby : i.bytes = 24) (hzs : z.cells.size = 7) (hb : Book base w L) (hbase : base ≤ w.heap.size)
    (p q : Nat) (hpq : p ≠ q) {A : Option Addr} {n c : Nat} {xs : List Value} (hp : L[p]? = some (.slice A n c, n, xs))
    {Ax : Option Addr} {m cx : Nat} {news : List Value} (hq : L[q]? = some (.slice Ax m cx, m, news)) (hm : 0 < m) (h1 : ∀ u ∈ news, u.oneCell' = true) (hnm : n + m ≤ 100000) :
    ∃ A' c' w1, (Builtin.append_ #[t, t] ty #[.slice A n c, .slice Ax m cx]).run P w = .ok (.slice A' (n + m) c') w1 ∧
      Book base w1 (L.set p (.slice A' (n + m) c', n + m, xs ++ news)) ∧ Below base w w1 ∧ base ≤ w1.heap.size := by
  have hop := hb.1 p _ hp
  have hoq := hb.1 q _ hq
  simp only at hop hoq
  obtain ⟨g, cap, e, hg1, hg2⟩ := hoq.form hm
  injection e with e1 _ e2
  subst e1 e2
  obtain ⟨v', w1, hrun, h2, h3, _, h5⟩ := run_append_own_at (P := P) w base t ty 71 i z 7 24 ht hi hz hsize hby hzs (by decide) _ n xs hop ⟨g, 0, none⟩ m cx news hoq.1
    (hoq.cells rfl) h1 (by simp only [maxLen]; omega) (by omega) hbase
  obtain ⟨A', c', rfl⟩ := own_slice h2
  refine ⟨A', c', w1, hrun, ⟨fun j r hj => ?_, fun j k r s hne hj hk o ho => ?_⟩, below_of_grown h3 hbase fun k hk => (hop.lt k hk).1, Nat.le_trans hbase (below_of_grown h3 hbase fun k hk => (hop.lt k hk).1).size⟩
  · rw [List.getElem?_set] at hj
    split at hj
    · split at hj
      · injection hj with hj
        subst hj
        exact h2
      · cases hj
    · rename_i hne
      refine (hb.1 j r hj).kept h3 ?_
      cases hv : r.1.ownBlock with
      | none => exact .inl rfl
      | some b => exact .inr (fun he => hb.2 j p r _ (Ne.symm hne) hj hp b hv he.symm)
  · have old : ∀ j r, L[j]? = some r → j ≠ p → ∀ o, r.1.ownBlock = some o → (Value.slice A' (n + m) c').ownBlock ≠ some o := by
      intro j r hj hjp o ho he
      rcases h5 with h5 | h5
      · rw [h5] at he
        exact hb.2 j p r _ hjp hj hp o ho he
      · rw [h5] at he
        have := ((hb.1 j r hj).lt o ho).2
        injection he with he
        omega
    rw [List.getElem?_set] at hj hk
    by_cases ej : p = j
    · subst ej
      rw [if_pos rfl] at hj
      rw [if_neg hne] at hk
      split at hj
      · injection hj with hj
        subst hj
        intro he
        exact old k s hk (Ne.symm hne) o he ho
      · cases hj
    · rw [if_neg ej] at hj
      by_cases ek : p = k
      · subst ek
        rw [if_pos rfl] at hk
        split at hk
        · injection hk with hk
          subst hk
          exact old j r hj hne o ho
        · cases hk
      · rw [if_neg ek] at hk
        exact hb.2 j k r s hne hj hk o ho
variable {o : Oper} {a : Act}
theorem wp_append_book {K : Act → World → Prop} {Q : Exit → Act → World → Prop} (s x : Operand) (t : TypeId)
    (ho : o.op = .call { callee := .builtin .append, args := #[s, x], argTypes := #[t, t] })
    (i : TypeInfo) (z : Value) (ht : P.underlying t = some (.slice 71)) (hi : P.info? 71 = some i) (hz : i.zero = some z)
    (hsize : i.size = 7) (hby : i.bytes = 24) (hzs : z.cells.size = 7) (hb : Book base w L) (hbase : base ≤ w.heap.size)
    (p q : Nat) (hpq : p ≠ q) {A : Option Addr} {n c : Nat} {xs : List Value} (hs : a.eval s = .slice A n c) (hp : L[p]? = some (.slice A n c, n, xs))
    {Ax : Option Addr} {m cx : Nat} {news : List Value} (hx : a.eval x = .slice Ax m cx) (hq : L[q]? = some (.slice Ax m cx, m, news)) (hm : 0 < m) (h1 : ∀ u ∈ news, u.oneCell' = true) (hnm : n + m ≤ 100000)
    (h : ∀ A' c' w1, Book base w1 (L.set p (.slice A' (n + m) c', n + m, xs ++ news)) → Below base w w1 → base ≤ w1.heap.size → K (a.put o.dst (.slice A' (n + m) c')) w1) : o.wp P a w K Q := by
  obtain ⟨A', c', w1, hrun, h2, h3, h4⟩ := run_append_book (P := P) t o.type i z ht hi hz hsize hby hzs hb hbase p q hpq hp hq hm h1 hnm
  unfold Oper.wp execOp
  simp only [ho, resolve, invoke, builtin, Sem.run_bind, Sem.run_pure, Result.andThen_ok, List.map_toArray, List.map_cons, List.map_nil, hs, hx, hrun]
  exact h A' c' w1 h2 h3 h4
theorem step_append_book {ops : Array Oper} {K : Act → World → Prop} {Q : Exit → Act → World → Prop} {E : Prop} (hgd : o.guard = none) (s x : Operand) (t : TypeId)
    (ho : o.op = .call { callee := .builtin .append, args := #[s, x], argTypes := #[t, t] })
    (i : TypeInfo) (z : Value) (ht : P.underlying t = some (.slice 71)) (hi : P.info? 71 = some i) (hz : i.zero = some z)
    (hsize : i.size = 7) (hby : i.bytes = 24) (hzs : z.cells.size = 7) (hb : Book base w L) (hbase : base ≤ w.heap.size)
    (p q : Nat) (hpq : p ≠ q) {A : Option Addr} {n c : Nat} {xs : List Value} (hs : a.eval s = .slice A n c) (hp : L[p]? = some (.slice A n c, n, xs))
    {Ax : Option Addr} {m cx : Nat} {news : List Value} (hx : a.eval x = .slice Ax m cx) (hq : L[q]? = some (.slice Ax m cx, m, news)) (hm : 0 < m) (h1 : ∀ u ∈ news, u.oneCell' = true) (hnm : n + m ≤ 100000)
    (h : ∀ A' c' w1, Book base w1 (L.set p (.slice A' (n + m) c', n + m, xs ++ news)) → Below base w w1 → base ≤ w1.heap.size → K (a.put o.dst (.slice A' (n + m) c')) w1) :
    if Region.wanted o (yielded ops a.tmps) = true then Oper.wp P o a w K Q else E := by
  have hw : Region.wanted o (yielded ops a.tmps) = true := by simp [Region.wanted, hgd]
  rw [if_pos hw]
  exact wp_append_book s x t ho i z ht hi hz hsize hby hzs hb hbase p q hpq hs hp hx hq hm h1 hnm h
theorem wpList_append_book {ops : Array Oper} {rest : List Oper} {Q : Exit → Act → World → Prop} (hgd : o.guard = none) (s x : Operand) (t : TypeId)
    (ho : o.op = .call { callee := .builtin .append, args := #[s, x], argTypes := #[t, t] })
    (i : TypeInfo) (z : Value) (ht : P.underlying t = some (.slice 71)) (hi : P.info? 71 = some i) (hz : i.zero = some z)
    (hsize : i.size = 7) (hby : i.bytes = 24) (hzs : z.cells.size = 7) (hb : Book base w L) (hbase : base ≤ w.heap.size)
    (p q : Nat) (hpq : p ≠ q) {A : Option Addr} {n c : Nat} {xs : List Value} (hs : a.eval s = .slice A n c) (hp : L[p]? = some (.slice A n c, n, xs))
    {Ax : Option Addr} {m cx : Nat} {news : List Value} (hx : a.eval x = .slice Ax m cx) (hq : L[q]? = some (.slice Ax m cx, m, news)) (hm : 0 < m) (h1 : ∀ u ∈ news, u.oneCell' = true) (hnm : n + m ≤ 100000)
    (h : ∀ A' c' w1, Book base w1 (L.set p (.slice A' (n + m) c', n + m, xs ++ news)) → Below base w w1 → base ≤ w1.heap.size → wpList P ops Q rest (a.put o.dst (.slice A' (n + m) c')) w1) : wpList P ops Q (o :: rest) a w :=
  wpList_plain hgd fun _ hK => wp_append_book s x t ho i z ht hi hz hsize hby hzs hb hbase p q hpq hs hp hx hq hm h1 hnm fun A' c' w1 h2 h3 h4 => hK _ _ (h A' c' w1 h2 h3 h4)
end
theorem below_bk1 {W T w6 w7 : World} {X Y : Obj} (h : Below W.heap.size W T) (h6 : Below W.heap.size (T.drew.alloc X) w6) (h7 : Below W.heap.size (w6.alloc Y) w7) : Below W.heap.size W w7 := by
  have h1 := ((h.drew).alloc h.size X).trans h6
  exact (h1.alloc h1.size Y).trans h7
theorem below_bk2 {W T w6 w7 : World} {X Y : Obj} (h : Below W.heap.size W T) (h6 : Below W.heap.size ((T.drew.alloc X).alloc Y) w6) (h7 : Below W.heap.size w6 w7) : Below W.heap.size W w7 := by
  have h1 := (h.drew).alloc h.size X
  exact ((h1.alloc h1.size Y).trans h6).trans h7
def oneP (f : Nat → Bool) (j : Nat) : List Edit := (List.range j).map fun i => dropE (f i)
theorem oneP_len (f : Nat → Bool) (j : Nat) : (oneP f j).length = j := by simp [oneP]
theorem oneP_one (l : List Insn) (f : Nat → Bool) : oneP f l.length = oneE l f := rfl
theorem oneP_next (f : Nat → Bool) (j : Nat) : editsV (oneP f (j + 1)) = editsV (oneP f j) ++ (dropE (f j)).cells := by
  unfold oneP
  rw [List.range_succ, List.map_append, editsV_append]
  simp [editsV]
theorem dropE_ok (b : Bool) : (dropE b).x.Ok ∧ -9223372036854775808 ≤ (dropE b).to ∧ (dropE b).to ≤ 9223372036854775807 := by
  cases b
  · exact edit_ok_none
  · exact edit_ok_drop
theorem oneP_ok (f : Nat → Bool) (j : Nat) : EOk (oneP f j) := by
  intro x hx
  obtain ⟨i, _, rfl⟩ := List.mem_map.1 hx
  exact dropE_ok _
theorem restE_ok (l : List Insn) (f g : Nat → Bool) : ∀ i, EOk (restE l f g i)
  | 0 => fun x hx => absurd hx (List.not_mem_nil)
  | i + 1 => fun x hx => by
    rw [restE] at hx
    rcases List.mem_append.1 hx with h | h
    · exact restE_ok l f g i x h
    · split at h
      · rcases List.mem_cons.1 h with rfl | h
        · exact dropE_ok _
        · split at h
          · rw [List.mem_singleton] at h
            subst h
            exact edit_ok_none
          · exact absurd h (List.not_mem_nil)
      · exact absurd h (List.not_mem_nil)
theorem restE_skip {l : List Insn} {f g : Nat → Bool} {j : Nat} (h : f j = true ∨ SB l j = false) : restE l f g (j + 1) = restE l f g j := by
  rw [restE, if_neg, List.append_nil]
  rintro ⟨h1, h2⟩
  rcases h with h | h
  · rw [h] at h1; cases h1
  · rw [h] at h2; cases h2
theorem restE_put {l : List Insn} {f g : Nat → Bool} {j : Nat} (h : f j = false) (hs : SB l j = true) (hw : ¬ (at' l j).op = 24) : editsV (restE l f g (j + 1)) = editsV (restE l f g j) ++ (dropE (g j)).cells := by
  rw [restE, if_pos ⟨h, hs⟩, if_neg hw, editsV_append]
  simp [editsV]
theorem restE_wide {l : List Insn} {f g : Nat → Bool} {j : Nat} (h : f j = false) (hs : SB l j = true) (hw : (at' l j).op = 24) : editsV (restE l f g (j + 1)) = editsV (restE l f g j) ++ (dropE (g j)).cells ++ Edit.none.cells := by
  rw [restE, if_pos ⟨h, hs⟩, if_pos hw, editsV_append]
  simp [editsV]
theorem bool_at {w : World} {B : Nat} {A : Option Addr} {fs : List Bool} (h : SAt w B 1 A fs.length (boolsV fs)) {k : Nat} (hk : k < fs.length) :
    ∃ b o, A = some ⟨b, o, none⟩ ∧ b < B ∧ ∀ w', Below B w w' → w'.cell? ⟨b, o + k, none⟩ = some (.bool (fs.getD k false)) := by
  obtain ⟨b, o, rfl, hb, hc⟩ := h.2 (by omega)
  refine ⟨b, o, rfl, hb, fun w' hw => ?_⟩
  rw [hw.cell hb]
  exact hc k _ (by simp [boolsV, List.getD_eq_getElem?_getD, List.getElem?_eq_getElem hk])
def kb (b : Bool) : Int := if b then 1 else 0
theorem dropE_cells (b : Bool) : (dropE b).cells = [.int .u8 (kb b), .int .u8 0, .int .u8 0, .int .u8 0, .int .i16 0, .int .i32 0, .int .i64 0] := by cases b <;> rfl
theorem none_cells : Edit.none.cells = [.int .u8 0, .int .u8 0, .int .u8 0, .int .u8 0, .int .i16 0, .int .i32 0, .int .i64 0] := rfl
theorem seven_one {n0 n1 n2 n3 n4 n5 n6 : Int} : ∀ u ∈ [Value.int .u8 n0, .int .u8 n1, .int .u8 n2, .int .u8 n3, .int .i16 n4, .int .i32 n5, .int .i64 n6], u.oneCell' = true := by
  intro u hu
  simp at hu
  rcases hu with rfl | rfl | rfl | rfl | rfl | rfl | rfl <;> rfl
theorem rwM_ok {l : List Insn} (hl : ∀ x ∈ l, x.Ok) (hn : l.length ≤ 5000) {es : List Edit} (h : EOk es) : ∀ x ∈ (rwM l es).1, x.Ok := by
  unfold rwM
  split
  · intro x hx; cases hx
  · split
    · intro x hx; cases hx
    · rename_i out e
      split
      · exact rwA_ok hl hn h _ (Nat.le_refl _) e
      · intro x hx; cases hx
theorem rwM_len {l : List Insn} {es : List Edit} : (rwM l es).1.length ≤ 2 * l.length := by
  cases hr : (rwM l es).2
  · rw [rwM_no hr]; simp
  · rw [(rwM_yes hr).2.2]; have := plN_le l es l.length; omega
set_option maxRecDepth 100000 in
set_option maxHeartbeats 8000000 in
theorem packTwice_walk (l : List Insn) (hl : ∀ x ∈ l, x.Ok) (A : Option Addr) (c : Nat) (hc : l.length ≤ c) (hc' : c ≤ maxLen) (fs : List Bool) (F : Option Addr) (fd : Nat) (hfd : fd ≤ maxLen) (gs : List Bool) (G : Option Addr) (gd : Nat) (hgd : gd ≤ maxLen) (w : World) (h : SAt w w.heap.size 5 A l.length (insnsV l)) (hF : SAt w w.heap.size 1 F fs.length (boolsV fs)) (hG : SAt w w.heap.size 1 G gs.length (boolsV gs)) :
    Calls Try.prog 23 #[.slice A l.length c, .slice F fs.length fd, .slice G gs.length gd] w fun e w' => e = .returned (.bool true) ∧ Below w.heap.size w w' := by
  obtain ⟨i0, hinf, hz0, hz1, hz2⟩ := info_parts info71
  have hf := few18_is l A c hc hc'
  have hm := h.few 150
  have hml : ∀ x ∈ l.take 150, x.Ok := fun x hx => hl x (List.mem_of_mem_take hx)
  have hmn : (l.take 150).length ≤ 150 := by simp; omega
  have hmc : (l.take 150).length ≤ c := by simp; omega
  replace hf := fun w1 (hb : Below w.heap.size w w1) => hf w1 ((h.below hb).more hb.size)
  generalize l.take 150 = m at *
  obtain ⟨f, hFat, hFno⟩ : ∃ f : Nat → Bool, (∀ j, j < fs.length → ∃ b o, F = some ⟨b, o, none⟩ ∧ b < w.heap.size ∧ ∀ w', Below w.heap.size w w' → w'.cell? ⟨b, o + j, none⟩ = some (.bool (f j))) ∧ (∀ j, ¬ j < fs.length → f j = false) :=
    ⟨fun j => fs.getD j false, fun j hj => bool_at hF hj, fun j hj => by simp [List.getD_eq_getElem?_getD, List.getElem?_eq_none (show fs.length ≤ j by omega)]⟩
  obtain ⟨g, hGat, hGno⟩ : ∃ g : Nat → Bool, (∀ j, j < gs.length → ∃ b o, G = some ⟨b, o, none⟩ ∧ b < w.heap.size ∧ ∀ w', Below w.heap.size w w' → w'.cell? ⟨b, o + j, none⟩ = some (.bool (g j))) ∧ (∀ j, ¬ j < gs.length → g j = false) :=
    ⟨fun j => gs.getD j false, fun j hj => bool_at hG hj, fun j hj => by simp [List.getD_eq_getElem?_getD, List.getElem?_eq_none (show gs.length ≤ j by omega)]⟩
  clear h hl hc hF hG
  generalize fs.length = fn at *
  generalize gs.length = gn at *
  have hrw := fun (es : List Edit) (hes : EOk es) (E : Option Addr) (d : Nat) (hd : es.length ≤ 100000) w1 (hb : Below w.heap.size w w1) he => rewrite_any m hml A c hmc hc' (by omega) es hes E d hd w1 ((hm.below hb).more hb.size) he
  have hst := fun w1 (hb : Below w.heap.size w w1) => rstarts_any m A c (by omega) w1 ((hm.below hb).more hb.size)
  have hnx := fun (j : Nat) (hj : j < m.length) w1 (hb : Below w.heap.size w w1) => rnext_at m A c j (by omega) hj w w1 hm hb
  have hok1 : ∀ x ∈ (rwM m (oneE m f)).1, x.Ok := rwM_ok hml (by omega) (oneP_ok f m.length)
  have hln1 : (rwM m (oneE m f)).1.length ≤ 300 := by have := rwM_len (l := m) (es := oneE m f); omega
  have hln2 : (rwM m (oneE m fun i => f i || g i)).1.length ≤ 300 := by have := rwM_len (l := m) (es := oneE m fun i => f i || g i); omega
  go_enter Try.func23, Try.ntmps23
  go_wp2_with fail
  refine (shown18_any _).mono ?_
  rintro e w1 ⟨rfl, hb1⟩
  go_wp2_with fail
  refine (hf _ hb1).mono ?_
  rintro e w1' ⟨rfl, rfl⟩
  clear hf
  go_wp2_with fail
  refine (hst _ hb1).mono ?_
  rintro e w2 ⟨SA, sc, rfl, hss, hb12⟩
  clear hst
  have hb2 := hb1.trans (hb12.mono hb1.size)
  go_wp2_with fail
  go_loopw [32, 9, 10, 11] (fun k va vb ve wr => ∃ (j : Nat) (A1 : Option Addr) (c1 : Nat) (B1 : Option Addr) (nb b1 : Nat) (E1 : Option Addr) (e1 : Nat), j ≤ m.length ∧ nb ≤ 2 * j ∧ k = .int .i64 j ∧ va = .slice A1 j c1 ∧ vb = .slice B1 nb b1 ∧ ve = .slice E1 j e1 ∧ Book w2.heap.size wr [(.slice A1 j c1, j, editsV (oneP f j)), (.slice B1 nb b1, nb, editsV (restE m f g j)), (.slice E1 j e1, j, editsV (oneP (fun i => f i || g i) j))] ∧ Below w2.heap.size w2 wr) (fun k _ _ _ _ => m.length - (intOf k).toNat)
  case atStart => exact ⟨0, none, 0, none, 0, 0, none, 0, by omega, by omega, rfl, rfl, rfl, rfl, Book.empty, Below.refl _ _⟩
  case round =>
    obtain ⟨j, A1, c1, B1, nb, b1, E1, e1, hj, hnb, rfl, rfl, rfl, rfl, hbook, hbr⟩ := hrel
    have hbw := hb2.trans (hbr.mono hb2.size)
    by_cases hlt : j < m.length
    · have hnj := hnx j hlt
      obtain ⟨sb, so, rfl, hsb, hfl⟩ := hss.flag (by omega)
      have hfl' := hfl j hlt
      have HP1 : RowKit.Hid (editsV (oneP f (j + 1)) = editsV (oneP f j) ++ [.int .u8 (kb (f j)), .int .u8 0, .int .u8 0, .int .u8 0, .int .i16 0, .int .i32 0, .int .i64 0]) := Lib.hid (by rw [oneP_next, dropE_cells])
      have HP2 : RowKit.Hid (editsV (oneP (fun i => f i || g i) (j + 1)) = editsV (oneP (fun i => f i || g i) j) ++ [.int .u8 (kb (f j || g j)), .int .u8 0, .int .u8 0, .int .u8 0, .int .i16 0, .int .i32 0, .int .i64 0]) := Lib.hid (by rw [oneP_next, dropE_cells])
      have HS : RowKit.Hid (f j = true ∨ SB m j = false → restE m f g (j + 1) = restE m f g j) := Lib.hid (fun h => restE_skip h)
      have HR : RowKit.Hid (f j = false → SB m j = true → ¬ (at' m j).op = 24 → editsV (restE m f g (j + 1)) = editsV (restE m f g j) ++ [.int .u8 (kb (g j)), .int .u8 0, .int .u8 0, .int .u8 0, .int .i16 0, .int .i32 0, .int .i64 0]) := Lib.hid (fun h hs hw => by rw [restE_put h hs hw, dropE_cells])
      have HW : RowKit.Hid (f j = false → SB m j = true → (at' m j).op = 24 → editsV (restE m f g (j + 1)) = editsV (restE m f g j) ++ [.int .u8 (kb (g j)), .int .u8 0, .int .u8 0, .int .u8 0, .int .i16 0, .int .i32 0, .int .i64 0] ++ [.int .u8 (kb false), .int .u8 0, .int .u8 0, .int .u8 0, .int .i16 0, .int .i32 0, .int .i64 0]) := Lib.hid (fun h hs hw => by rw [restE_wide h hs hw, dropE_cells]; rfl)
      have hFj := hFat j
      have hFn := hFno j
      have hGj := hGat j
      have hGn := hGno j
      clear hFat hFno hGat hGno hnx hfl hss hrw hok1 hln1 hln2
      generalize f j = o at *
      generalize g j = t at *
      generalize SB m j = sj at *
      have hjm : (j : Int) < (m.length : Int) := by omega
      go_upto_region 8 with fail
      go_cut [14, 15, 32] from 32 to 97 (fun v14 v15 v32 wx => v14 = .bool o ∧ v15 = .bool t ∧ v32 = .int .i64 j ∧ Below wr.heap.size wr wx)
      case first =>
        by_cases hjf : j < fn
        · obtain ⟨fb, fo, rfl, hfb, hfc⟩ := hFj hjf
          have hc1 := hfc _ hbw
          have hjf' : (j : Int) < (fn : Int) := by omega
          clear hFn
          by_cases hjg : j < gn
          · obtain ⟨gb, go, rfl, hgb, hgc⟩ := hGj hjg
            have hc2 := hgc _ hbw
            have hjg' : (j : Int) < (gn : Int) := by omega
            clear hGn hjf hjg
            go_quiet (fail)
            go_wp2_with fail
            go_meet
            case rel => exact ⟨rfl, rfl, rfl, below_drewN (Below.refl _ _) _⟩
          · have := hGn hjg
            subst this
            have hjg' : ¬ (j : Int) < (gn : Int) := by omega
            clear hGj hGn hjf hjg
            go_quiet (fail)
            go_wp2_with fail
            go_meet
            case rel => exact ⟨rfl, rfl, rfl, below_drewN (Below.refl _ _) _⟩
        · have := hFn hjf
          subst this
          have hjf' : ¬ (j : Int) < (fn : Int) := by omega
          by_cases hjg : j < gn
          · obtain ⟨gb, go, rfl, hgb, hgc⟩ := hGj hjg
            have hc2 := hgc _ hbw
            have hjg' : (j : Int) < (gn : Int) := by omega
            clear hFj hFn hGn hjf hjg
            go_quiet (fail)
            go_wp2_with fail
            go_meet
            case rel => exact ⟨rfl, rfl, rfl, below_drewN (Below.refl _ _) _⟩
          · have := hGn hjg
            subst this
            have hjg' : ¬ (j : Int) < (gn : Int) := by omega
            clear hFj hFn hGj hGn hjf hjg
            go_quiet (fail)
            go_wp2_with fail
            go_meet
            case rel => exact ⟨rfl, rfl, rfl, below_drewN (Below.refl _ _) _⟩
      case rest =>
        obtain ⟨rfl, rfl, rfl, hbx⟩ := hcut
        clear hFj hGj hFn hGn
        have hbr2 := hbr.trans (hbx.mono hbr.size)
        have hbw2 := hb2.trans (hbr2.mono hb2.size)
        have hbook2 : Book w2.heap.size wc _ := hbook.keep hbx
        clear hbook hbr hbw hbx
        obtain ⟨wa, hwa⟩ : ∃ v, v = wc := ⟨_, rfl⟩
        subst hwa
        go_upto_if 58 with fail
        go_cut [32] from 32 to 97 (fun v32 wx => v32 = .int .i64 j ∧ wx = ((wa.alloc (.cells #[.int .u8 (kb o), .int .u8 0, .int .u8 0, .int .u8 0, .int .i16 0, .int .i32 0, .int .i64 0] 71)).alloc (.cells #[.int .u8 (kb false), .int .u8 0, .int .u8 0, .int .u8 0, .int .i16 0, .int .i32 0, .int .i64 0] 71)).alloc (.cells #[.int .u8 (kb false), .int .u8 0, .int .u8 0, .int .u8 0, .int .i16 0, .int .i32 0, .int .i64 0] 71))
        case first =>
          cases o <;>
          · go_wp2_with fail
            go_meet
            case rel => exact ⟨rfl, rfl⟩
        case rest =>
          obtain ⟨rfl, rfl⟩ := hcut
          go_upto_if 60 with fail
          go_cut [32] from 32 to 97 (fun v32 wx => v32 = .int .i64 j ∧ wx = ((wa.alloc (.cells #[.int .u8 (kb o), .int .u8 0, .int .u8 0, .int .u8 0, .int .i16 0, .int .i32 0, .int .i64 0] 71)).alloc (.cells #[.int .u8 (kb t), .int .u8 0, .int .u8 0, .int .u8 0, .int .i16 0, .int .i32 0, .int .i64 0] 71)).alloc (.cells #[.int .u8 (kb false), .int .u8 0, .int .u8 0, .int .u8 0, .int .i16 0, .int .i32 0, .int .i64 0] 71))
          case first =>
            cases t <;>
            · go_wp2_with fail
              go_meet
              case rel => exact ⟨rfl, rfl⟩
          case rest =>
            obtain ⟨rfl, rfl⟩ := hcut
            go_upto_region 14 with fail
            go_cut [65, 32] from 32 to 97 (fun v65 v32 wx => v65 = .bool (o || t) ∧ v32 = .int .i64 j ∧ wx = ((wa.alloc (.cells #[.int .u8 (kb o), .int .u8 0, .int .u8 0, .int .u8 0, .int .i16 0, .int .i32 0, .int .i64 0] 71)).alloc (.cells #[.int .u8 (kb t), .int .u8 0, .int .u8 0, .int .u8 0, .int .i16 0, .int .i32 0, .int .i64 0] 71)).alloc (.cells #[.int .u8 (kb false), .int .u8 0, .int .u8 0, .int .u8 0, .int .i16 0, .int .i32 0, .int .i64 0] 71))
            case first =>
              cases o <;>
              · go_wp2_with fail
                go_meet
                case rel => exact ⟨rfl, rfl, rfl⟩
            case rest =>
              obtain ⟨rfl, rfl, rfl⟩ := hcut
              generalize (o || t) = b at *
              go_upto_if 65 with fail
              go_cut [32] from 32 to 97 (fun v32 wx => v32 = .int .i64 j ∧ wx = ((wa.alloc (.cells #[.int .u8 (kb o), .int .u8 0, .int .u8 0, .int .u8 0, .int .i16 0, .int .i32 0, .int .i64 0] 71)).alloc (.cells #[.int .u8 (kb t), .int .u8 0, .int .u8 0, .int .u8 0, .int .i16 0, .int .i32 0, .int .i64 0] 71)).alloc (.cells #[.int .u8 (kb b), .int .u8 0, .int .u8 0, .int .u8 0, .int .i16 0, .int .i32 0, .int .i64 0] 71))
              case first =>
                cases b <;>
                · go_wp2_with fail
                  go_meet
                  case rel => exact ⟨rfl, rfl⟩
              case rest =>
                obtain ⟨rfl, rfl⟩ := hcut
                have hg7 : ((wa.alloc (.cells #[.int .u8 (kb o), .int .u8 0, .int .u8 0, .int .u8 0, .int .i16 0, .int .i32 0, .int .i64 0] 71)).heap.size) = wa.heap.size + 1 := by simp
                have hbT := (((hbook2.build hbr2.size rfl #[.int .u8 (kb o), .int .u8 0, .int .u8 0, .int .u8 0, .int .i16 0, .int .i32 0, .int .i64 0] rfl).build (by simp; have := hbr2.size; omega) (g := wa.heap.size + 1) (by simp) #[.int .u8 (kb t), .int .u8 0, .int .u8 0, .int .u8 0, .int .i16 0, .int .i32 0, .int .i64 0] rfl).build (by simp; have := hbr2.size; omega) (g := wa.heap.size + 1 + 1) (by simp) #[.int .u8 (kb b), .int .u8 0, .int .u8 0, .int .u8 0, .int .i16 0, .int .i32 0, .int .i64 0] rfl)
                have hbwT : Below w2.heap.size w2 (((wa.alloc (.cells #[.int .u8 (kb o), .int .u8 0, .int .u8 0, .int .u8 0, .int .i16 0, .int .i32 0, .int .i64 0] 71)).alloc (.cells #[.int .u8 (kb t), .int .u8 0, .int .u8 0, .int .u8 0, .int .i16 0, .int .i32 0, .int .i64 0] 71)).alloc (.cells #[.int .u8 (kb b), .int .u8 0, .int .u8 0, .int .u8 0, .int .i16 0, .int .i32 0, .int .i64 0] 71)) := ((hbr2.alloc hbr2.size _).alloc (by simp; have := hbr2.size; omega) _).alloc (by simp; have := hbr2.size; omega) _
                have hTb := hbwT.size
                clear hbook2 hg7 hbr2 hbw2
                go_upto_region 16 with fail
                generalize ((wa.alloc (.cells #[.int .u8 (kb o), .int .u8 0, .int .u8 0, .int .u8 0, .int .i16 0, .int .i32 0, .int .i64 0] 71)).alloc (.cells #[.int .u8 (kb t), .int .u8 0, .int .u8 0, .int .u8 0, .int .i16 0, .int .i32 0, .int .i64 0] 71)).alloc (.cells #[.int .u8 (kb b), .int .u8 0, .int .u8 0, .int .u8 0, .int .i16 0, .int .i32 0, .int .i64 0] 71) = T at *
                generalize wa.heap.size = g6 at *
                go_cut [9, 11, 32] from 32 to 97 (fun va ve vk wx => ∃ (A2 : Option Addr) (c2 : Nat) (E2 : Option Addr) (e2 : Nat), va = .slice A2 (j + 1) c2 ∧ ve = .slice E2 (j + 1) e2 ∧ vk = .int .i64 j ∧ Book w2.heap.size wx [(.slice A2 (j + 1) c2, j + 1, editsV (oneP f (j + 1))), (.slice B1 nb b1, nb, editsV (restE m f g j)), (.slice E2 (j + 1) e2, j + 1, editsV (oneP (fun i => f i || g i) (j + 1))), (.slice (some ⟨g6, 0, none⟩) 1 1, 1, [.int .u8 (kb o), .int .u8 0, .int .u8 0, .int .u8 0, .int .i16 0, .int .i32 0, .int .i64 0]), (.slice (some ⟨g6 + 1, 0, none⟩) 1 1, 1, [.int .u8 (kb t), .int .u8 0, .int .u8 0, .int .u8 0, .int .i16 0, .int .i32 0, .int .i64 0]), (.slice (some ⟨g6 + 1 + 1, 0, none⟩) 1 1, 1, [.int .u8 (kb b), .int .u8 0, .int .u8 0, .int .u8 0, .int .i16 0, .int .i32 0, .int .i64 0])] ∧ Below w2.heap.size w2 wx)
                case first =>
                  clear HS HR HW hnj hfl'
                  go_region_held3 (fun w' => (w'.cell? ⟨g6, 0, none⟩ = some (.int .u8 (kb o)) ∧ w'.cell? ⟨g6, 1, none⟩ = some (.int .u8 0) ∧ w'.cell? ⟨g6, 2, none⟩ = some (.int .u8 0) ∧ w'.cell? ⟨g6, 3, none⟩ = some (.int .u8 0) ∧ w'.cell? ⟨g6, 4, none⟩ = some (.int .i16 0) ∧ w'.cell? ⟨g6, 5, none⟩ = some (.int .i32 0) ∧ w'.cell? ⟨g6, 6, none⟩ = some (.int .i64 0)) ∧ (w'.cell? ⟨g6 + 1 + 1, 0, none⟩ = some (.int .u8 (kb b)) ∧ w'.cell? ⟨g6 + 1 + 1, 1, none⟩ = some (.int .u8 0) ∧ w'.cell? ⟨g6 + 1 + 1, 2, none⟩ = some (.int .u8 0) ∧ w'.cell? ⟨g6 + 1 + 1, 3, none⟩ = some (.int .u8 0) ∧ w'.cell? ⟨g6 + 1 + 1, 4, none⟩ = some (.int .i16 0) ∧ w'.cell? ⟨g6 + 1 + 1, 5, none⟩ = some (.int .i32 0) ∧ w'.cell? ⟨g6 + 1 + 1, 6, none⟩ = some (.int .i64 0))) (first | exact ⟨(hB7).box 3 rfl, (hB7).box 5 rfl⟩ | exact ⟨(hB6).box 3 rfl, (hB6).box 5 rfl⟩ | exact ⟨((hB6.build hs6 (g := w6.heap.size) rfl #[.int .u8 (kb o), .int .u8 0, .int .u8 0, .int .u8 0, .int .i16 0, .int .i32 0, .int .i64 0] rfl)).box 3 rfl, ((hB6.build hs6 (g := w6.heap.size) rfl #[.int .u8 (kb o), .int .u8 0, .int .u8 0, .int .u8 0, .int .i16 0, .int .i32 0, .int .i64 0] rfl)).box 5 rfl⟩ | exact ⟨((hB6.build hs6 (g := w6.heap.size) rfl #[.int .u8 (kb b), .int .u8 0, .int .u8 0, .int .u8 0, .int .i16 0, .int .i32 0, .int .i64 0] rfl)).box 3 rfl, ((hB6.build hs6 (g := w6.heap.size) rfl #[.int .u8 (kb b), .int .u8 0, .int .u8 0, .int .u8 0, .int .i16 0, .int .i32 0, .int .i64 0] rfl)).box 5 rfl⟩ | exact ⟨(hbT.drew).box 3 rfl, (hbT.drew).box 5 rfl⟩ | exact ⟨((hbT.drew.build hTb (g := T.heap.size) rfl #[.int .u8 (kb o), .int .u8 0, .int .u8 0, .int .u8 0, .int .i16 0, .int .i32 0, .int .i64 0] rfl)).box 3 rfl, ((hbT.drew.build hTb (g := T.heap.size) rfl #[.int .u8 (kb o), .int .u8 0, .int .u8 0, .int .u8 0, .int .i16 0, .int .i32 0, .int .i64 0] rfl)).box 5 rfl⟩ | exact ⟨((hbT.drew.build hTb (g := T.heap.size) rfl #[.int .u8 (kb b), .int .u8 0, .int .u8 0, .int .u8 0, .int .i16 0, .int .i32 0, .int .i64 0] rfl)).box 3 rfl, ((hbT.drew.build hTb (g := T.heap.size) rfl #[.int .u8 (kb b), .int .u8 0, .int .u8 0, .int .u8 0, .int .i16 0, .int .i32 0, .int .i64 0] rfl)).box 5 rfl⟩ | exact ⟨(((hbT.drew.build hTb (g := T.heap.size) rfl #[.int .u8 (kb o), .int .u8 0, .int .u8 0, .int .u8 0, .int .i16 0, .int .i32 0, .int .i64 0] rfl).build (by simp; omega) (g := T.heap.size + 1) (by simp) #[.int .u8 (kb b), .int .u8 0, .int .u8 0, .int .u8 0, .int .i16 0, .int .i32 0, .int .i64 0] rfl)).box 3 rfl, (((hbT.drew.build hTb (g := T.heap.size) rfl #[.int .u8 (kb o), .int .u8 0, .int .u8 0, .int .u8 0, .int .i16 0, .int .i32 0, .int .i64 0] rfl).build (by simp; omega) (g := T.heap.size + 1) (by simp) #[.int .u8 (kb b), .int .u8 0, .int .u8 0, .int .u8 0, .int .i16 0, .int .i32 0, .int .i64 0] rfl)).box 5 rfl⟩ | exact ⟨(((hbT.drew.build hTb (g := T.heap.size) rfl #[.int .u8 (kb b), .int .u8 0, .int .u8 0, .int .u8 0, .int .i16 0, .int .i32 0, .int .i64 0] rfl).build (by simp; omega) (g := T.heap.size + 1) (by simp) #[.int .u8 (kb o), .int .u8 0, .int .u8 0, .int .u8 0, .int .i16 0, .int .i32 0, .int .i64 0] rfl)).box 3 rfl, (((hbT.drew.build hTb (g := T.heap.size) rfl #[.int .u8 (kb b), .int .u8 0, .int .u8 0, .int .u8 0, .int .i16 0, .int .i32 0, .int .i64 0] rfl).build (by simp; omega) (g := T.heap.size + 1) (by simp) #[.int .u8 (kb o), .int .u8 0, .int .u8 0, .int .u8 0, .int .i16 0, .int .i32 0, .int .i64 0] rfl)).box 5 rfl⟩) (first | (refine step_append_book rfl (.tmp 67) (.tmp 69) 68 rfl i0 Edit.none.val Try.underlying68 hinf hz0 hz1 hz2 rfl (hB6) ?_ 0 6 (by decide) rfl rfl rfl rfl (by omega) ?_ (by omega) ?_; (exact hs6); (exact seven_one); intro A3 c3 w7 hB7 hb7 hs7) | (refine step_append_book rfl (.tmp 67) (.tmp 69) 68 rfl i0 Edit.none.val Try.underlying68 hinf hz0 hz1 hz2 rfl (hB6) ?_ 0 7 (by decide) rfl rfl rfl rfl (by omega) ?_ (by omega) ?_; (exact hs6); (exact seven_one); intro A3 c3 w7 hB7 hb7 hs7) | (refine step_append_book rfl (.tmp 67) (.tmp 69) 68 rfl i0 Edit.none.val Try.underlying68 hinf hz0 hz1 hz2 rfl ((hB6.build hs6 (g := w6.heap.size) rfl #[.int .u8 (kb o), .int .u8 0, .int .u8 0, .int .u8 0, .int .i16 0, .int .i32 0, .int .i64 0] rfl)) ?_ 0 7 (by decide) rfl rfl rfl rfl (by omega) ?_ (by omega) ?_; (exact Nat.le_trans hs6 (by simp)); (exact seven_one); intro A3 c3 w7 hB7 hb7 hs7) | (refine step_append_book rfl (.tmp 67) (.tmp 69) 68 rfl i0 Edit.none.val Try.underlying68 hinf hz0 hz1 hz2 rfl ((hbT.drew.build hTb (g := T.heap.size) rfl #[.int .u8 (kb o), .int .u8 0, .int .u8 0, .int .u8 0, .int .i16 0, .int .i32 0, .int .i64 0] rfl)) ?_ 0 6 (by decide) rfl rfl rfl rfl (by omega) ?_ (by omega) ?_; ((simp; omega)); (exact seven_one); intro A2 c2 w6 hB6 hb6 hs6) | (refine step_append_book rfl (.tmp 67) (.tmp 69) 68 rfl i0 Edit.none.val Try.underlying68 hinf hz0 hz1 hz2 rfl (((hbT.drew.build hTb (g := T.heap.size) rfl #[.int .u8 (kb o), .int .u8 0, .int .u8 0, .int .u8 0, .int .i16 0, .int .i32 0, .int .i64 0] rfl).build (by simp; omega) (g := T.heap.size + 1) (by simp) #[.int .u8 (kb b), .int .u8 0, .int .u8 0, .int .u8 0, .int .i16 0, .int .i32 0, .int .i64 0] rfl)) ?_ 0 6 (by decide) rfl rfl rfl rfl (by omega) ?_ (by omega) ?_; ((simp; omega)); (exact seven_one); intro A2 c2 w6 hB6 hb6 hs6) | (refine step_append_book rfl (.tmp 67) (.tmp 69) 68 rfl i0 Edit.none.val Try.underlying68 hinf hz0 hz1 hz2 rfl (((hbT.drew.build hTb (g := T.heap.size) rfl #[.int .u8 (kb b), .int .u8 0, .int .u8 0, .int .u8 0, .int .i16 0, .int .i32 0, .int .i64 0] rfl).build (by simp; omega) (g := T.heap.size + 1) (by simp) #[.int .u8 (kb o), .int .u8 0, .int .u8 0, .int .u8 0, .int .i16 0, .int .i32 0, .int .i64 0] rfl)) ?_ 0 7 (by decide) rfl rfl rfl rfl (by omega) ?_ (by omega) ?_; ((simp; omega)); (exact seven_one); intro A2 c2 w6 hB6 hb6 hs6) | (refine step_append_book rfl (.tmp 71) (.tmp 73) 68 rfl i0 Edit.none.val Try.underlying68 hinf hz0 hz1 hz2 rfl (hB6) ?_ 2 6 (by decide) rfl rfl rfl rfl (by omega) ?_ (by omega) ?_; (exact hs6); (exact seven_one); intro A3 c3 w7 hB7 hb7 hs7) | (refine step_append_book rfl (.tmp 71) (.tmp 73) 68 rfl i0 Edit.none.val Try.underlying68 hinf hz0 hz1 hz2 rfl (hB6) ?_ 2 7 (by decide) rfl rfl rfl rfl (by omega) ?_ (by omega) ?_; (exact hs6); (exact seven_one); intro A3 c3 w7 hB7 hb7 hs7) | (refine step_append_book rfl (.tmp 71) (.tmp 73) 68 rfl i0 Edit.none.val Try.underlying68 hinf hz0 hz1 hz2 rfl ((hB6.build hs6 (g := w6.heap.size) rfl #[.int .u8 (kb b), .int .u8 0, .int .u8 0, .int .u8 0, .int .i16 0, .int .i32 0, .int .i64 0] rfl)) ?_ 2 7 (by decide) rfl rfl rfl rfl (by omega) ?_ (by omega) ?_; (exact Nat.le_trans hs6 (by simp)); (exact seven_one); intro A3 c3 w7 hB7 hb7 hs7) | (refine step_append_book rfl (.tmp 71) (.tmp 73) 68 rfl i0 Edit.none.val Try.underlying68 hinf hz0 hz1 hz2 rfl ((hbT.drew.build hTb (g := T.heap.size) rfl #[.int .u8 (kb b), .int .u8 0, .int .u8 0, .int .u8 0, .int .i16 0, .int .i32 0, .int .i64 0] rfl)) ?_ 2 6 (by decide) rfl rfl rfl rfl (by omega) ?_ (by omega) ?_; ((simp; omega)); (exact seven_one); intro A2 c2 w6 hB6 hb6 hs6) | (refine step_append_book rfl (.tmp 71) (.tmp 73) 68 rfl i0 Edit.none.val Try.underlying68 hinf hz0 hz1 hz2 rfl (((hbT.drew.build hTb (g := T.heap.size) rfl #[.int .u8 (kb b), .int .u8 0, .int .u8 0, .int .u8 0, .int .i16 0, .int .i32 0, .int .i64 0] rfl).build (by simp; omega) (g := T.heap.size + 1) (by simp) #[.int .u8 (kb o), .int .u8 0, .int .u8 0, .int .u8 0, .int .i16 0, .int .i32 0, .int .i64 0] rfl)) ?_ 2 6 (by decide) rfl rfl rfl rfl (by omega) ?_ (by omega) ?_; ((simp; omega)); (exact seven_one); intro A2 c2 w6 hB6 hb6 hs6) | (refine step_append_book rfl (.tmp 71) (.tmp 73) 68 rfl i0 Edit.none.val Try.underlying68 hinf hz0 hz1 hz2 rfl (((hbT.drew.build hTb (g := T.heap.size) rfl #[.int .u8 (kb o), .int .u8 0, .int .u8 0, .int .u8 0, .int .i16 0, .int .i32 0, .int .i64 0] rfl).build (by simp; omega) (g := T.heap.size + 1) (by simp) #[.int .u8 (kb b), .int .u8 0, .int .u8 0, .int .u8 0, .int .i16 0, .int .i32 0, .int .i64 0] rfl)) ?_ 2 7 (by decide) rfl rfl rfl rfl (by omega) ?_ (by omega) ?_; ((simp; omega)); (exact seven_one); intro A2 c2 w6 hB6 hb6 hs6))
                  all_goals
                    go_wp2_with fail
                    go_meet
                    case rel =>
                      rw [HP1.out, HP2.out]
                      first
                      | exact ⟨A2, c2, A3, c3, rfl, rfl, rfl, hB7.take 6, below_bk1 hbwT hb6 hb7⟩
                      | exact ⟨A2, c2, A3, c3, rfl, rfl, rfl, hB7.take 6, below_bk2 hbwT hb6 hb7⟩
                      | exact ⟨A3, c3, A2, c2, rfl, rfl, rfl, hB7.take 6, below_bk1 hbwT hb6 hb7⟩
                      | exact ⟨A3, c3, A2, c2, rfl, rfl, rfl, hB7.take 6, below_bk2 hbwT hb6 hb7⟩
                case rest =>
                  obtain ⟨A2, c2, E2, e2, rfl, rfl, rfl, hbk, hbc⟩ := hcut
                  have hbwc := hb2.trans (hbc.mono hb2.size)
                  clear hbT hbwT hTb HP1 HP2
                  cases o
                  case true =>
                    clear HR HW hnj
                    go_wp2_with fail
                    go_roundw
                    case rel =>
                      refine ⟨j + 1, A2, c2, B1, nb, b1, E2, e2, by omega, by omega, by go_num, rfl, rfl, rfl, ?_, hbc⟩
                      rw [HS.out (.inl rfl)]
                      exact hbk.take 3
                    case measure => simp [intOf]; omega
                  case false =>
                    have hfc := hfl' _ hbc
                    cases sj
                    case false =>
                      clear HR HW hnj
                      go_wp2_with fail
                      go_roundw
                      case rel =>
                        refine ⟨j + 1, A2, c2, B1, nb, b1, E2, e2, by omega, by omega, by go_num, rfl, rfl, rfl, ?_, hbc⟩
                        rw [HS.out (.inr rfl)]
                        exact hbk.take 3
                      case measure => simp [intOf]; omega
                    case true =>
                      obtain ⟨s0, s1, s2, s3, s4, s5, s6⟩ := hbk.box 4 rfl
                      have hbk' := hbk.build hbc.size (g := wc.heap.size) rfl #[.int .u8 (kb t), .int .u8 0, .int .u8 0, .int .u8 0, .int .i16 0, .int .i32 0, .int .i64 0] rfl
                      go_wp2_with (at_builtin; refine wpList_append_book rfl (.tmp 83) (.tmp 85) 68 rfl i0 Edit.none.val Try.underlying68 hinf hz0 hz1 hz2 rfl hbk' ?c0 1 6 (by decide) rfl rfl rfl rfl (by omega) ?c1 (by omega) ?c2)
                      case c0 => first | exact Nat.le_trans hbc.size (Nat.le_succ _) | exact hbc.size | (have := hbc.size; simp; omega)
                      case c1 => first | exact seven_one | exact ⟨rfl, rfl, rfl, rfl, rfl⟩ | trivial | decide | simp
                      case c2 =>
                        intro A3 c3 w8 hB8 hb8 hs8
                        have hbc8 : Below w2.heap.size w2 w8 := (hbc.alloc hbc.size _).trans hb8
                        have hbw8 := hb2.trans (hbc8.mono hb2.size)
                        have hcall := hnj _ hbw8
                        clear s0 s1 s2 s3 s4 s5 s6 hbk hbk' hfc
                        by_cases hw : (at' m j).op = 24
                        · have hsn : ((stepN m j : Nat) : Int) = (j : Int) + 2 := by unfold stepN; rw [if_pos hw]; omega
                          rw [hsn] at hcall
                          have HWW := Lib.hid (HW.out (by trivial) (by trivial) hw)
                          clear hsn HS HR HW hw hnj
                          go_wp2_with fail
                          refine hcall.mono ?_
                          rintro e w9 ⟨rfl, hb9⟩
                          clear hcall
                          have hB9 := hB8.keep hb9
                          have hbc9 := hbc8.trans (hb9.mono hbc8.size)
                          have hB9' := hB9.build hbc9.size (g := w9.heap.size) rfl #[.int .u8 (kb false), .int .u8 0, .int .u8 0, .int .u8 0, .int .i16 0, .int .i32 0, .int .i64 0] rfl
                          go_wp2_with (at_builtin; refine wpList_append_book rfl (.tmp 93) (.tmp 95) 68 rfl i0 Edit.none.val Try.underlying68 hinf hz0 hz1 hz2 rfl hB9' ?c0 1 7 (by decide) rfl rfl rfl rfl (by omega) ?c1 (by omega) ?c2)
                          case c0 => first | exact Nat.le_trans hbc9.size (Nat.le_succ _) | exact hbc9.size | (have := hbc9.size; simp; omega)
                          case c1 => first | exact seven_one | exact ⟨rfl, rfl, rfl, rfl, rfl⟩ | trivial | decide | simp
                          case c2 =>
                            intro A4 c4 w10 hB10 hb10 hs10
                            have hbc10 : Below w2.heap.size w2 w10 := (hbc9.alloc hbc9.size _).trans hb10
                            go_wp2_with fail
                            go_roundw
                            case rel =>
                              refine ⟨j + 1, A2, c2, A4, nb + 1 + 1, c4, E2, e2, by omega, by omega, by go_num, rfl, rfl, rfl, ?_, hbc10⟩
                              rw [HWW.out, List.append_assoc]
                              exact hB10.take 3
                            case measure => simp [intOf]; omega
                        · have hsn : ((stepN m j : Nat) : Int) = (j : Int) + 1 := by unfold stepN; rw [if_neg hw]; omega
                          rw [hsn] at hcall
                          have HWW := Lib.hid (HR.out (by trivial) (by trivial) hw)
                          have hq : ((j : Int) + 1 == (j : Int) + 2) = false := by simp
                          clear hsn HS HR HW hw hnj
                          go_wp2_with fail
                          refine hcall.mono ?_
                          rintro e w9 ⟨rfl, hb9⟩
                          clear hcall
                          have hB9 := hB8.keep hb9
                          have hbc9 := hbc8.trans (hb9.mono hbc8.size)
                          go_wp2_with fail
                          go_roundw
                          case rel =>
                            refine ⟨j + 1, A2, c2, A3, nb + 1, c3, E2, e2, by omega, by omega, by go_num, rfl, rfl, rfl, ?_, hbc9⟩
                            rw [HWW.out]
                            exact hB9.take 3
                          case measure => simp [intOf]; omega
    · obtain rfl : j = m.length := by omega
      clear hFat hGat hFno hGno hnx hss
      have hnbl : nb = (restE m f g m.length).length := by
        have := (hbook.own 1 rfl).1
        rw [editsV_length] at this
        simp only at this
        omega
      have e1l : (oneE m f).length = m.length := oneP_len f m.length
      have e2l : (oneE m fun i => f i || g i).length = m.length := oneP_len _ m.length
      have hsa := SAt.own (hbook.own 0 rfl)
      have hsb := SAt.own (hbook.own 1 rfl)
      have hse := SAt.own (hbook.own 2 rfl)
      simp only [oneP_one] at hsa hsb hse
      have hr1 := hrw (oneE m f) (oneP_ok f m.length) A1 c1 (by rw [e1l]; omega) wr hbw (by rw [e1l]; exact hsa)
      have hr2 := fun w4 (hb : Below wr.heap.size wr w4) => hrw (oneE m fun i => f i || g i) (oneP_ok _ m.length) E1 e1 (by rw [e2l]; omega) w4 (hbw.trans (hb.mono hbw.size)) (by rw [e2l]; exact (hse.below hb).more hb.size)
      rw [e1l] at hr1
      rw [e2l] at hr2
      have hsb' := fun w4 (hb : Below wr.heap.size wr w4) => (hsb.below hb).more hb.size
      clear hrw hsa hse hbook hsb
      have htw := fun y (hy : rwM m (oneE m f) = (y, true)) => twice g hy
      have hrok := restE_ok m f g m.length
      have hno := rwM_no (l := m) (es := oneE m f)
      generalize restE m f g m.length = rs at *
      subst hnbl
      generalize rwM m (oneE m f) = r1 at *
      generalize rwM m (oneE m fun i => f i || g i) = r2 at *
      obtain ⟨y, ok⟩ := r1
      obtain ⟨z, is⟩ := r2
      simp only at hok1 hln1 hln2 hno
      try simp only at hr1 hr2
      go_wp2_with fail
      refine hr1.mono ?_
      rintro e w3 ⟨Y, yc, rfl, hy1, hy2, hy3, hb3⟩
      clear hr1
      simp only at hy1 hy2 ⊢
      have hbw3 := hbw.trans (hb3.mono hbw.size)
      go_wp2_with fail
      refine (hr2 _ hb3).mono ?_
      rintro e w4 ⟨Z, zc, rfl, hz1', hz2', hz3', hb4⟩
      clear hr2
      simp only at hz1' hz2' ⊢
      have hb34 := hb3.trans (hb4.mono hb3.size)
      have hbw4 := hbw3.trans (hb4.mono hbw3.size)
      have hy4 := (hy1.below hb4).more hb4.size
      have hs4 := hsb' _ hb34
      cases ok
      · clear hsb' hy1 hy4 hs4 hz1'
        go_wp2_with fail
        go_ret
        exact ⟨rfl, hbw4⟩
      · have hr3 := rewrite_any y hok1 Y yc hy2 hy3 (by omega) rs hrok B1 b1 (by omega) w4 hy4 hs4
        rw [htw y rfl] at hr3
        clear hsb' hy1 hy4 hs4 htw
        try simp only at hr3
        go_wp2_with fail
        refine hr3.mono ?_
        rintro e w5 ⟨V, vc, rfl, hv1, hv2, hv3, hb5⟩
        clear hr3
        simp only at hv1 hv2 ⊢
        have hbw5 := hbw4.trans (hb5.mono hbw4.size)
        have hsm := same_any z z Z V zc vc (by omega) (by omega) w5 ((hz1'.below hb5).more hb5.size) hv1
        rw [decide_eq_true rfl] at hsm
        cases is <;>
        · go_wp2_with fail
          refine hsm.mono ?_
          rintro e w6 ⟨rfl, hb6⟩
          have hbw6 := hbw5.trans (hb6.mono hbw5.size)
          go_wp2_with fail
          go_ret
          exact ⟨rfl, hbw6⟩
end Go.Proofs.Ytgbmeckhagklnaa
