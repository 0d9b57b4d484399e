/- A program rewritten, by the program. No statement is proved here. -/
import Derived.Test.YtncogaikiceidaaHopC
import Derived.Deep.RegionLaw
namespace Go.Proofs.Ytncogaikiceidaa
open Go.RowKit
set_option linter.unusedSimpArgs false
set_option linter.unusedVariables false
set_option linter.unnecessarySimpa false
section
variable {P : Program} {ops : Array Oper} {o : Oper} {a : Act} {K : Act → World → Prop} {Q : Exit → Act → World → Prop} {E : Prop}
/-- 'v = append(v, xs...)' as a step of a region that draws its order. -/
theorem step_append_sat (hgd : o.guard = none) (s x : Operand) (t : TypeId)
    (ho : o.op = .call { callee := .builtin .append, args := #[s, x], argTypes := #[t, t] })
    (base : Nat) (e : TypeId) (i : TypeInfo) (z : Value) (size bytes : Nat) (ht : P.underlying t = some (.slice e)) (hi : P.info? e = some i) (hz : i.zero = some z)
    (hsize : i.size = size) (hby : i.bytes = bytes) (hzs : z.cells.size = size) (hsz : 0 < size)
    {w : World} (A : Option Addr) (n c : Nat) (xs : List Value) (hs : a.eval s = .slice A n c) (hown : w.ownsRow base e size (.slice A n c) n xs)
    (B : Nat) (Ax : Option Addr) (m cx : Nat) (news : List Value) (hx : a.eval x = .slice Ax m cx) (hat : SAt w B size Ax m news) (h1 : ∀ u ∈ news, u.oneCell' = true)
    (h63 : n + m ≤ maxLen) (hbytes : (n + m) * bytes ≤ 140737488355328) (hbase : base ≤ w.heap.size)
    (h : ∀ A' c' w1, w1.ownsRow base e size (.slice A' (n + m) c') (n + m) (xs ++ news) → Below base w w1 → K (a.put o.dst (.slice A' (n + m) c')) w1) :
    if Region.wanted o (yielded ops a.tmps) = true then Oper.wp P o a w K Q else E := by
  have hw : Region.wanted o (yielded ops a.tmps) = true := by simp [Region.wanted, hgd]
  rw [if_pos hw]
  have hlt := hown.lt
  rcases Nat.eq_zero_or_pos m with hm | hm
  · subst hm
    have hn : news = [] := List.eq_nil_of_length_eq_zero (by simpa using hat.1)
    subst hn
    have hrun : (Builtin.append_ #[t, t] o.type #[.slice A n c, .slice Ax 0 cx]).run P w = .ok (.slice A n c) w := by
      rcases hown.2 with ⟨hv, rfl⟩ | ⟨g, cap, cur, hv, _, _, hnc, _⟩
      · injection hv with hA _ hc
        subst hA hc
        cases Ax <;> simp [Builtin.append_, run_underlying ht, sizeOf, typeInfo, hi, Builtin.lenOf, Builtin.firstCells, loadCells, loadCellsFrom]
      · injection hv with hA _ hc
        subst hA hc
        cases Ax <;> simp [Builtin.append_, run_underlying ht, sizeOf, typeInfo, hi, Builtin.lenOf, Builtin.firstCells, hnc, storeCells, loadCells, loadCellsFrom]
    unfold Oper.wp execOp
    simp only [ho, resolve, invoke, builtin, Sem.run_bind, Sem.run_pure, Result.andThen_ok, List.map_toArray, List.map_cons, List.map_nil, hs, hx, hrun]
    exact h A c w (by simpa using hown) (Below.refl _ _)
  · obtain ⟨b, off, rfl, hb, hc⟩ := hat.2 hm
    obtain ⟨v', w1, hrun, h2, h3, _, h5⟩ := run_append_own_at (P := P) w base t o.type e i z size bytes ht hi hz hsize hby hzs hsz _ n xs hown ⟨b, off, none⟩ m cx news hat.1
      (fun j u hu => by rw [addr_add]; exact hc j u hu) h1 h63 hbytes hbase
    obtain ⟨A', c', rfl⟩ := own_slice h2
    unfold Oper.wp execOp
    simp only [ho, resolve, invoke, builtin, Sem.run_bind, Sem.run_pure, Result.andThen_ok, List.map_toArray, List.map_cons, List.map_nil, hs, hx, hrun]
    exact h A' c' w1 h2 (below_of_grown h3 hbase fun k hk => (hlt k hk).1)
end
theorem insnsV_ones (l : List Insn) : ∀ u ∈ insnsV l, u.oneCell' = true := by
  intro u hu
  simp only [insnsV, List.mem_flatten, List.mem_map] at hu
  obtain ⟨_, ⟨x, _, rfl⟩, hu⟩ := hu
  simp [Insn.cells] at hu
  rcases hu with rfl | rfl | rfl | rfl | rfl <;> rfl
theorem rest_at {w : World} {B b o : Nat} {x : Insn} {r : List Insn} (h : SAt w B 5 (some ⟨b, o, none⟩) (r.length + 1) (insnsV (x :: r))) : SAt w B 5 (some ⟨b, o + 5, none⟩) r.length (insnsV r) := by
  cases r with
  | nil => exact ⟨by simp [insnsV], fun h => absurd h (by simp)⟩
  | cons y r =>
    obtain ⟨b', o', e, hb, hp⟩ := SAt.insns_part (l := x :: y :: r) h (i := 1) (m := r.length + 1) (by simp; omega) (by omega)
    simp only [Option.some.injEq, Addr.mk.injEq, and_true] at e
    obtain ⟨rfl, rfl⟩ := e
    have e2 : ((x :: y :: r).drop 1).take (r.length + 1) = y :: r := by simp
    rw [e2] at hp
    exact hp
theorem own_far {w : World} {base e size n c H : Nat} {A : Option Addr} {xs : List Value} (_h : w.ownsRow base e size (.slice A n c) n xs) (hlt : ∀ k, (Value.slice A n c).ownBlock = some k → k < H) : (Value.slice A n c).ownBlock ≠ some H := fun he => absurd (hlt H he) (by omega)
theorem own_set_far {w : World} {base e size n c : Nat} {A : Option Addr} {xs : List Value} (h : w.ownsRow base e size (.slice A n c) n xs) {p : Addr} (hp : (Value.slice A n c).ownBlock ≠ some p.block) (v : Value) : (w.setCell p v).ownsRow base e size (.slice A n c) n xs := by
  refine ⟨h.1, ?_⟩
  rcases h.2 with h0 | ⟨g', cap', cur, hv, hb', hh, r⟩
  · exact .inl h0
  · refine .inr ⟨g', cap', cur, hv, hb', ?_, r⟩
    rw [heap_setCell_other w p g' v (fun e => hp (by rw [hv, ← e]; rfl)), hh]
theorem own_seven {w : World} {base e size n c g : Nat} {A : Option Addr} {xs : List Value} (h : w.ownsRow base e size (.slice A n c) n xs) (hp : (Value.slice A n c).ownBlock ≠ some g) (n0 n1 n2 n3 n4 : Int) :
    (((((w.setCell ⟨g, 0, none⟩ (.int .u8 n0)).setCell ⟨g, 1, none⟩ (.int .u8 n1)).setCell ⟨g, 2, none⟩ (.int .u8 n2)).setCell ⟨g, 3, none⟩ (.int .i16 n3)).setCell ⟨g, 4, none⟩ (.int .i32 n4)).ownsRow base e size (.slice A n c) n xs :=
  own_set_far (own_set_far (own_set_far (own_set_far (own_set_far h hp _) hp _) hp _) hp _) hp _
theorem below_five {B : Nat} {W w : World} (h : Below B W w) {g : Nat} (hg : B ≤ g) (n0 n1 n2 n3 n4 : Int) : Below B W (((((w.setCell ⟨g, 0, none⟩ (.int .u8 n0)).setCell ⟨g, 1, none⟩ (.int .u8 n1)).setCell ⟨g, 2, none⟩ (.int .u8 n2)).setCell ⟨g, 3, none⟩ (.int .i16 n3)).setCell ⟨g, 4, none⟩ (.int .i32 n4)) :=
  (((((h.setCell (p := ⟨g, 0, none⟩) hg _).setCell (p := ⟨g, 1, none⟩) hg _).setCell (p := ⟨g, 2, none⟩) hg _).setCell (p := ⟨g, 3, none⟩) hg _).setCell (p := ⟨g, 4, none⟩) hg _)
theorem cells_five {w : World} {g : Nat} {u0 u1 u2 u3 u4 : Value} (h0 : w.cell? ⟨g, 0, none⟩ = some u0) (h1 : w.cell? ⟨g, 1, none⟩ = some u1) (h2 : w.cell? ⟨g, 2, none⟩ = some u2) (h3 : w.cell? ⟨g, 3, none⟩ = some u3) (h4 : w.cell? ⟨g, 4, none⟩ = some u4) (n0 n1 n2 n3 n4 : Int) :
    (((((w.setCell ⟨g, 0, none⟩ (.int .u8 n0)).setCell ⟨g, 1, none⟩ (.int .u8 n1)).setCell ⟨g, 2, none⟩ (.int .u8 n2)).setCell ⟨g, 3, none⟩ (.int .i16 n3)).setCell ⟨g, 4, none⟩ (.int .i32 n4)).cell? ⟨g, 0, none⟩ = some (.int .u8 n0) ∧ (((((w.setCell ⟨g, 0, none⟩ (.int .u8 n0)).setCell ⟨g, 1, none⟩ (.int .u8 n1)).setCell ⟨g, 2, none⟩ (.int .u8 n2)).setCell ⟨g, 3, none⟩ (.int .i16 n3)).setCell ⟨g, 4, none⟩ (.int .i32 n4)).cell? ⟨g, 1, none⟩ = some (.int .u8 n1) ∧ (((((w.setCell ⟨g, 0, none⟩ (.int .u8 n0)).setCell ⟨g, 1, none⟩ (.int .u8 n1)).setCell ⟨g, 2, none⟩ (.int .u8 n2)).setCell ⟨g, 3, none⟩ (.int .i16 n3)).setCell ⟨g, 4, none⟩ (.int .i32 n4)).cell? ⟨g, 2, none⟩ = some (.int .u8 n2) ∧ (((((w.setCell ⟨g, 0, none⟩ (.int .u8 n0)).setCell ⟨g, 1, none⟩ (.int .u8 n1)).setCell ⟨g, 2, none⟩ (.int .u8 n2)).setCell ⟨g, 3, none⟩ (.int .i16 n3)).setCell ⟨g, 4, none⟩ (.int .i32 n4)).cell? ⟨g, 3, none⟩ = some (.int .i16 n3) ∧ (((((w.setCell ⟨g, 0, none⟩ (.int .u8 n0)).setCell ⟨g, 1, none⟩ (.int .u8 n1)).setCell ⟨g, 2, none⟩ (.int .u8 n2)).setCell ⟨g, 3, none⟩ (.int .i16 n3)).setCell ⟨g, 4, none⟩ (.int .i32 n4)).cell? ⟨g, 4, none⟩ = some (.int .i32 n4) := by
  refine ⟨?_, ?_, ?_, ?_, ?_⟩ <;> simp [go_sem, h0, h1, h2, h3, h4]
theorem below_drew_on {B : Nat} {V T w9 : World} (h : Below B V T) (hb : Below T.drew.heap.size T.drew w9) (hB : B ≤ V.heap.size) : Below B V w9 := (h.drew).trans (hb.mono (Nat.le_trans hB h.size))
theorem below_drew_on2 {W T w9 : World} (h : Below W.heap.size W T) (hb : Below T.drew.heap.size T.drew w9) : Below W.heap.size W w9 := (h.drew).trans (hb.mono h.size)
theorem below_step1 {W U w6 : World} {o : Obj} (h : Below W.heap.size W U) (h6 : Below W.heap.size (U.drew.alloc o) w6) : Below W.heap.size W w6 :=
  ((h.drew).alloc h.size o).trans h6
theorem below_step2 {W U w6 w7 : World} {o : Obj} (h : Below W.heap.size W U) (h6 : Below W.heap.size (U.drew.alloc o) w6) (h7 : Below W.heap.size w6 w7) : Below W.heap.size W w7 :=
  (below_step1 h h6).trans h7
theorem below_size2 {W U w6 : World} {o : Obj} (h : Below W.heap.size W U) (h6 : Below W.heap.size (U.drew.alloc o) w6) : W.heap.size ≤ w6.heap.size := (below_step1 h h6).size
theorem far_at {W w3 w7 : World} {B B3 b o n : Nat} {xs : List Value} (h : SAt w3 B3 5 (some ⟨b, o, none⟩) n xs) (hb : b < B) (h3 : Below B W w3) (h7 : Below B W w7) : SAt w7 B 5 (some ⟨b, o, none⟩) n xs := by
  refine ⟨h.1, fun hn => ⟨b, o, rfl, hb, fun j u hu => ?_⟩⟩
  obtain ⟨b', o', e, hb', hc⟩ := h.2 hn
  simp only [Option.some.injEq, Addr.mk.injEq, and_true] at e
  obtain ⟨rfl, rfl⟩ := e
  rw [h7.cell (p := ⟨b, o + j, none⟩) hb, ← h3.cell (p := ⟨b, o + j, none⟩) hb]
  exact hc j u hu
theorem size_alloc_drew (w : World) (o : Obj) : (w.drew.alloc o).heap.size = w.heap.size + 1 := by simp
/-- Behind Rewrite. -/
def RwOk (W : World) (r : List Insn × Bool) (e : Ending) (w' : World) : Prop :=
  ∃ X c, e = .returned (.tuple #[.slice X r.1.length c, .bool r.2]) ∧ SAt w' w'.heap.size 5 X r.1.length (insnsV r.1) ∧ r.1.length ≤ c ∧ c ≤ maxLen ∧ Below W.heap.size W w' ∧ (∀ b o, X = some ⟨b, o, none⟩ → W.heap.size ≤ b)
set_option maxRecDepth 100000 in
set_option maxHeartbeats 16000000 in
theorem rewrite_any (l : List Insn) (hl : ∀ x ∈ l, x.Ok) (A : Option Addr) (c : Nat) (hc : l.length ≤ c) (hc' : c ≤ maxLen) (hn : l.length ≤ 5000) (es : List Edit) (hes : EOk es) (E : Option Addr) (d : Nat) (hm : es.length ≤ 100000) (w : World) (h : SAt w w.heap.size 5 A l.length (insnsV l)) (he : SAt w w.heap.size 7 E es.length (editsV es)) :
    Calls Try.prog 9 #[.slice A l.length c, .slice E es.length d] w (RwOk w (rwM l es)) := by
  obtain ⟨i0, hinf, hz0, hz1, hz2⟩ := info_parts info24
  have hr := right_any l hl A c (by omega) w h
  by_cases hz : (checkM l).2 = 0
  case neg =>
    have HM := Lib.hid (rwM_not (es := es) hz)
    have hz' : ((checkM l).2 == 0) = false := by simp [hz]
    rw [hz'] at hr
    clear hz hz'
    go_enter Try.func9, Try.ntmps9
    go_wp2_with fail
    refine hr.mono ?_
    rintro e w1 ⟨rfl, hb1⟩
    go_wp2_with fail
    go_ret2
    exact ⟨none, 0, by rw [HM.out]; rfl, by rw [HM.out]; exact SAt.nil_, by rw [HM.out]; exact Nat.le_refl _, by simp [maxLen], hb1, (fun b o e => absurd e (by simp))⟩
  have hp := check_prog hz
  have hz' : ((checkM l).2 == 0) = true := by simp [hz]
  rw [hz'] at hr
  have hpl := fun w1 (hb : Below w.heap.size w w1) => places_any l hl hp A c hc hc' (by omega) es E d hm w1 ((h.below hb).more hb.size) ((he.below hb).more hb.size)
  have hbec := fun (j : Nat) (hj : j < l.length) (hs : SB l j = true) w1 (hb : Below w.heap.size w w1) => becomes_any l hl hp A c hc hc' (by omega) es E d hm j hj hs w1 ((h.below hb).more hb.size) ((he.below hb).more hb.size)
  have hnx := fun (j : Nat) (hj : j < l.length) w1 (hb : Below w.heap.size w w1) => next_at l A c j (by omega) hj w w1 h hb
  have HZ := Lib.hid hz
  clear hz hz'
  go_enter Try.func9, Try.ntmps9
  go_wp2_with fail
  refine hr.mono ?_
  rintro e w1 ⟨rfl, hb1⟩
  clear hr
  go_wp2_with fail
  refine (hpl _ hb1).mono ?_
  rintro e w2 ⟨g, rfl, hg, hgw, hcell, hb2⟩
  clear hpl
  have hb12 := hb1.trans (hb2.mono hb1.size)
  go_wp2_with fail
  go_loopw [8, 7] (fun k v wr => ∃ (j : Nat) (acc : List Insn) (B : Option Addr) (b : Nat), SB l j = true ∧ j ≤ l.length ∧ k = .int .i64 j ∧ v = .slice B acc.length b ∧ rwA l es j = some acc ∧ wr.ownsRow w2.heap.size 40 5 (.slice B acc.length b) acc.length (insnsV acc) ∧ Below w2.heap.size w2 wr) (fun k _ _ => l.length - (intOf k).toNat)
  case atStart => exact ⟨0, [], none, 0, rfl, by omega, rfl, rfl, rfl, World.ownsRow_nil _ _ _ _, Below.refl _ _⟩
  case round =>
    obtain ⟨j, acc, B, b, hs, hj, rfl, rfl, hacc, hown, hbr⟩ := hrel
    have hbw := hb12.trans (hbr.mono hb12.size)
    have hal := rwA_len j hacc
    have hpj := plN_le l es j
    have haok := rwA_ok hl hn hes j hj hacc
    by_cases hlt : j < l.length
    · have hbj := hbec j hlt hs _ hbw
      have hgt := step_gt l j
      have hle := hp.step_le hlt hs
      have hbok := becL_ok hl hes j
      have hbl := becL_le l es j
      have HACC := Lib.hid hacc
      have HAL := Lib.hid hal
      have hal2 : acc.length ≤ 10000 := by omega
      clear hal hpj
      have HS := Lib.hid (SB_step hs)
      go_wp2_with fail
      refine hbj.mono ?_
      rintro e w3 ⟨X, xc, rfl, hxs, hxc, hxm, hxk, hb3⟩
      clear hbj hbec
      have hbr3 := hbr.trans (hb3.mono hbr.size)
      have hbw3 := hbw.trans (hb3.mono hbw.size)
      have hown3 := own_keep hown hb3
      have HGB := Lib.hid (fun (k : Nat) hk => (hown3.lt k hk).2)
      have HNIL := Lib.hid (fun hb => rwA_nil (es := es) hs hacc hb)
      have HPL := Lib.hid (fun x r (hb : becL l es j = x :: r) hg => rwA_plain (es := es) hs hacc hb hg)
      have HHOP := Lib.hid (fun x r t (hb : becL l es j = x :: r) hg ht hle => rwA_hop (t := t) (es := es) hs hacc hb hg ht hle)
      have HFAR := Lib.hid (fun x r (hb : becL l es j = x :: r) hg ht => rwA_far (es := es) hlt hs hacc hb hg ht)
      clear hacc hown
      have HBE := Lib.hid (rfl : becL l es j = becL l es j)
      generalize hbe : becL l es j = xs at *
      have HBT := Lib.hid (rfl : becT l es j = becT l es j)
      generalize hbt : becT l es j = tt at *
      have hb2' : (xs, tt).1 = xs := rfl
      simp only at hxs hxc hxk ⊢
      cases xs with
      | nil =>
        have hnew := HNIL.out rfl
        have HN := Lib.hid hnew
        have hnj := hnx j hlt _ hbw3
        clear hnx hnew HNIL HPL HHOP HFAR HBE HBT hbe hbt hb2' hxs hxc hxk
        simp only [List.length_nil]
        go_wp2_with fail
        refine hnj.mono ?_
        rintro e w4 ⟨rfl, hb4⟩
        clear hnj
        have hbr4 := hbr3.trans (hb4.mono hbr3.size)
        have hown4 := own_keep hown3 hb4
        go_wp2_with fail
        go_roundw
        case rel => exact ⟨stepN l j, acc, B, b, HS.out, hle, rfl, rfl, HN.out, hown4, hbr4⟩
        case measure => simp [intOf]; omega
      | cons x r =>
        obtain ⟨xb, xo, rfl, hxb, q0, q1, q2, q3, q4⟩ := hxs.insn (k := 0) (by simp)
        have q0' := q0 _ (Below.refl _ _)
        have q1' := q1 _ (Below.refl _ _)
        have q2' := q2 _ (Below.refl _ _)
        have q3' := q3 _ (Below.refl _ _)
        have q4' := q4 _ (Below.refl _ _)
        have hat0 : at' (x :: r) 0 = x := rfl
        rw [hat0] at q0' q1' q2' q3' q4'
        simp only [Nat.zero_mul, Nat.add_zero] at q0' q1' q2' q3' q4'
        have hx := hbok x (by simp)
        have hsem := fun w => sem_any x hx w
        have hgo : goesB x = ((sem x).1.kind == 9 || (sem x).1.kind == 10) := rfl
        generalize sem x = v at *
        obtain ⟨⟨r0, r1, r2, r3, r4, r5⟩, rb⟩ := v
        simp only at hgo
        clear q0 q1 q2 q3 q4 hat0 HBE HBT hb2' HNIL
        have hlc : ¬ ((r.length : Int) + 1 = 0) := by omega
        have hl0 : (0 : Int) < (r.length : Int) + 1 := by omega
        obtain ⟨x0, x1, x2, x3, x4⟩ := x
        simp only at q0' q1' q2' q3' q4'
        simp only [List.length_cons, Insn.val] at hsem ⊢
        go_wp2_with fail
        have hbr3' := hbr3.alloc hbr3.size (.cells #[.int .u8 x0, .int .u8 x1, .int .u8 x2, .int .i16 x3, .int .i32 x4] 40)
        have hbw3' := hbw3.alloc hbw3.size (.cells #[.int .u8 x0, .int .u8 x1, .int .u8 x2, .int .i16 x3, .int .i32 x4] 40)
        have hown3' := hown3.alloc (.cells #[.int .u8 x0, .int .u8 x1, .int .u8 x2, .int .i16 x3, .int .i32 x4] 40)
        have hone := heap_alloc_new w3 (.cells #[.int .u8 x0, .int .u8 x1, .int .u8 x2, .int .i16 x3, .int .i32 x4] 40)
        obtain ⟨f0, f1, f2, f3, f4⟩ := box24 (W := w3.alloc (.cells #[.int .u8 x0, .int .u8 x1, .int .u8 x2, .int .i16 x3, .int .i32 x4] 40)) (g := w3.heap.size) (B := w3.heap.size + 1) ⟨x0, x1, x2, x3, x4⟩ (by omega) hone
        have hfx := thaw24 (W := w3.alloc (.cells #[.int .u8 x0, .int .u8 x1, .int .u8 x2, .int .i16 x3, .int .i32 x4] 40)) (g := w3.heap.size) (B := w3.heap.size + 1) ⟨x0, x1, x2, x3, x4⟩ (by omega) hone
        simp only at f0 f1 f2 f3 f4
        have hsz : w3.heap.size + 1 = (w3.alloc (.cells #[.int .u8 x0, .int .u8 x1, .int .u8 x2, .int .i16 x3, .int .i32 x4] 40)).heap.size := by simp
        have HV := Lib.hid hsz
        clear hsz hone q0' q1' q2' q3' q4' hown3
        have hxs' := hxs.below (Below.refl _ _ |>.alloc (Nat.le_refl _) (.cells #[.int .u8 x0, .int .u8 x1, .int .u8 x2, .int .i16 x3, .int .i32 x4] 40))
        generalize hV : w3.alloc (.cells #[.int .u8 x0, .int .u8 x1, .int .u8 x2, .int .i16 x3, .int .i32 x4] 40) = V at *
        clear hV
        refine (hsem _).mono ?_
        rintro e w4 ⟨rfl, hb4⟩
        clear hsem
        have hbr4 := hbr3'.trans (hb4.mono hbr3'.size)
        have hbw4 := hbw3'.trans (hb4.mono hbw3'.size)
        have hown4 := own_keep hown3' hb4
        have hbV4 : Below (w3.heap.size + 1) V w4 := hb4.mono (by rw [HV.out]; exact Nat.le_refl _)
        have hbr5 := hbr4.alloc hbr4.size (.cells #[.int .u8 r0, .int .u8 r1, .bool r2, .bool r3, .bool r4, .int .i64 r5] 42)
        have hbw5 := hbw4.alloc hbw4.size (.cells #[.int .u8 r0, .int .u8 r1, .bool r2, .bool r3, .bool r4, .int .i64 r5] 42)
        have hown5 := hown4.alloc (.cells #[.int .u8 r0, .int .u8 r1, .bool r2, .bool r3, .bool r4, .int .i64 r5] 42)
        have hbV5 := hbV4.alloc (Nat.le_trans (by rw [HV.out]; exact Nat.le_refl _) hb4.size) (.cells #[.int .u8 r0, .int .u8 r1, .bool r2, .bool r3, .bool r4, .int .i64 r5] 42)
        obtain ⟨g0, -, -, -, -, -⟩ := box44 (W := w4.alloc (.cells #[.int .u8 r0, .int .u8 r1, .bool r2, .bool r3, .bool r4, .int .i64 r5] 42)) (g := w4.heap.size) (B := w4.heap.size + 1) ⟨r0, r1, r2, r3, r4, r5⟩ (by omega) (heap_alloc_new _ _)
        have g0' := g0 _ (Below.refl _ _)
        simp only at g0'
        clear g0 hown3' hown4
        have f0p := f0 _ hbV5
        have f1p := f1 _ hbV5
        have f2p := f2 _ hbV5
        have f3p := f3 _ hbV5
        have f4p := f4 _ hbV5
        have hfk := fun k => hfx k _ hbV5
        cases hg : goesB ⟨x0, x1, x2, x3, x4⟩
        · rw [hg] at hgo
          have k9 : (r0 == 9) = false := by
            cases h9 : (r0 == 9)
            · rfl
            · rw [h9] at hgo; simp at hgo
          have k10 : (r0 == 10) = false := by
            cases h9 : (r0 == 10)
            · rfl
            · rw [h9] at hgo; simp at hgo
          clear hgo
          have HN := Lib.hid (HPL.out _ _ rfl hg)
          clear HPL HHOP HFAR hbe hbt hg f0 f1 f2 f3 f4 hfx
          have HXB := Lib.hid hxk
          clear hxk
          have hone1 : (1 : Int) ≤ (r.length : Int) + 1 := by omega
          cases r with
          | nil =>
            simp only [List.length_nil] at *
            have hone2 : (1 : Int) ≤ ((0 : Nat) : Int) + 1 := by omega
            by_cases hxc1 : xc = 1
            · subst hxc1
              go_wp2_with fail
              generalize hU : w4.alloc (.cells #[.int .u8 r0, .int .u8 r1, .bool r2, .bool r3, .bool r4, .int .i64 r5] 42) = U at *
              have hbrU := hbr5
              have hownU := hown5
              clear hU
              go_region_law (first | (refine step_append_sat rfl (.tmp 78) (.tmp 80) 22 rfl w2.heap.size 40 i0 Insn.zero.val 5 12 Try.underlying22 hinf hz0 hz1 hz2 rfl ?_ B acc.length b (insnsV acc) rfl ?_ (U.heap.size + 1) (some ⟨U.heap.size, 0, none⟩) 1 1 [.int .u8 x0, .int .u8 x1, .int .u8 x2, .int .i16 x3, .int .i32 x4] rfl ?_ ?_ ?_ ?_ ?_ ?_; (decide); (exact hownU.alloc _); (exact sat_new U 40 #[.int .u8 x0, .int .u8 x1, .int .u8 x2, .int .i16 x3, .int .i32 x4] 5 1 rfl); ((intro u hu; simp at hu; rcases hu with rfl | rfl | rfl | rfl | rfl <;> rfl)); ((simp only [maxLen]; omega)); (omega); ((refine Nat.le_trans hbrU.size (Nat.le_trans (Nat.le_succ _) (Nat.le_of_eq ?_)); symm; exact size_alloc_drew U _)); intro A1 c1 w6 hown6 hb6) | (refine step_append_sat rfl (.tmp 81) (.tmp 83) 22 rfl w2.heap.size 40 i0 Insn.zero.val 5 12 Try.underlying22 hinf hz0 hz1 hz2 rfl ?_ A1 (acc.length + 1) c1 (insnsV acc ++ [.int .u8 x0, .int .u8 x1, .int .u8 x2, .int .i16 x3, .int .i32 x4]) rfl ?_ w6.heap.size (some ⟨xb, xo, none⟩) 0 0 (insnsV []) rfl ?_ ?_ ?_ ?_ ?_ ?_; (decide); (exact hown6); (exact ⟨by simp [insnsV], fun h => absurd h (by omega)⟩); (exact insnsV_ones _); ((simp only [maxLen]; omega)); (omega); (exact below_size2 hbrU hb6); intro A2 c2 w7 hown7 hb7))
              all_goals
                have hbr7 := below_step2 hbrU hb6 hb7
                have hbw7 := hb12.trans (hbr7.mono hb12.size)
                have hnj := hnx j hlt _ hbw7
                clear hnx
                go_wp2_with fail
                refine hnj.mono ?_
                rintro e w8 ⟨rfl, hb8⟩
                clear hnj
                have hown8 := own_keep hown7 hb8
                have hbr8 := hbr7.trans (hb8.mono hbr7.size)
                go_wp2_with fail
                go_roundw
                case rel =>
                  refine ⟨stepN l j, acc ++ [(⟨x0, x1, x2, x3, x4⟩ : Insn)] ++ [], A2, c2, HS.out, hle, rfl, ?_, HN.out, ?_, hbr8⟩
                  · simp
                  · have e1 : (acc ++ [(⟨x0, x1, x2, x3, x4⟩ : Insn)] ++ []).length = acc.length + 1 + 0 := by simp
                    rw [e1, insnsV_append, insnsV_append, insnsV_single]
                    exact hown8
                case measure => simp [intOf]; omega
            · go_wp2_with fail
              generalize hU : w4.alloc (.cells #[.int .u8 r0, .int .u8 r1, .bool r2, .bool r3, .bool r4, .int .i64 r5] 42) = U at *
              have hbrU := hbr5
              have hownU := hown5
              clear hU
              go_region_law (first | (refine step_append_sat rfl (.tmp 78) (.tmp 80) 22 rfl w2.heap.size 40 i0 Insn.zero.val 5 12 Try.underlying22 hinf hz0 hz1 hz2 rfl ?_ B acc.length b (insnsV acc) rfl ?_ (U.heap.size + 1) (some ⟨U.heap.size, 0, none⟩) 1 1 [.int .u8 x0, .int .u8 x1, .int .u8 x2, .int .i16 x3, .int .i32 x4] rfl ?_ ?_ ?_ ?_ ?_ ?_; (decide); (exact hownU.alloc _); (exact sat_new U 40 #[.int .u8 x0, .int .u8 x1, .int .u8 x2, .int .i16 x3, .int .i32 x4] 5 1 rfl); ((intro u hu; simp at hu; rcases hu with rfl | rfl | rfl | rfl | rfl <;> rfl)); ((simp only [maxLen]; omega)); (omega); ((refine Nat.le_trans hbrU.size (Nat.le_trans (Nat.le_succ _) (Nat.le_of_eq ?_)); symm; exact size_alloc_drew U _)); intro A1 c1 w6 hown6 hb6) | (refine step_append_sat rfl (.tmp 81) (.tmp 83) 22 rfl w2.heap.size 40 i0 Insn.zero.val 5 12 Try.underlying22 hinf hz0 hz1 hz2 rfl ?_ A1 (acc.length + 1) c1 (insnsV acc ++ [.int .u8 x0, .int .u8 x1, .int .u8 x2, .int .i16 x3, .int .i32 x4]) rfl ?_ w6.heap.size (some ⟨xb, xo + 5, none⟩) 0 (xc - 1) (insnsV []) rfl ?_ ?_ ?_ ?_ ?_ ?_; (decide); (exact hown6); (exact ⟨by simp [insnsV], fun h => absurd h (by omega)⟩); (exact insnsV_ones _); ((simp only [maxLen]; omega)); (omega); (exact below_size2 hbrU hb6); intro A2 c2 w7 hown7 hb7))
              all_goals
                have hbr7 := below_step2 hbrU hb6 hb7
                have hbw7 := hb12.trans (hbr7.mono hb12.size)
                have hnj := hnx j hlt _ hbw7
                clear hnx
                go_wp2_with fail
                refine hnj.mono ?_
                rintro e w8 ⟨rfl, hb8⟩
                clear hnj
                have hown8 := own_keep hown7 hb8
                have hbr8 := hbr7.trans (hb8.mono hbr7.size)
                go_wp2_with fail
                go_roundw
                case rel =>
                  refine ⟨stepN l j, acc ++ [(⟨x0, x1, x2, x3, x4⟩ : Insn)] ++ [], A2, c2, HS.out, hle, rfl, ?_, HN.out, ?_, hbr8⟩
                  · simp
                  · have e1 : (acc ++ [(⟨x0, x1, x2, x3, x4⟩ : Insn)] ++ []).length = acc.length + 1 + 0 := by simp
                    rw [e1, insnsV_append, insnsV_append, insnsV_single]
                    exact hown8
                case measure => simp [intOf]; omega
          | cons y r =>
            have hr0 : r = [] := by simpa using hbl
            subst hr0
            obtain ⟨kb, ko, hA, hX⟩ := HXB.out rfl
            subst hA
            simp only [Option.some.injEq, Addr.mk.injEq, and_true] at hX
            obtain ⟨b', o', hA2, hxblt, -⟩ := h.2 (by omega)
            simp only [Option.some.injEq, Addr.mk.injEq, and_true] at hA2
            obtain ⟨rfl, rfl⟩ := hA2
            obtain ⟨rfl, rfl⟩ := hX
            have hxc1 : ¬ xc = 1 := by simp at hxc; omega
            simp only [List.length_cons, List.length_nil, Nat.zero_add] at *
            have hone2 : (1 : Int) ≤ ((1 : Nat) : Int) + 1 := by omega
            go_wp2_with fail
            generalize hU : w4.alloc (.cells #[.int .u8 r0, .int .u8 r1, .bool r2, .bool r3, .bool r4, .int .i64 r5] 42) = U at *
            have hbrU := hbr5
            have hownU := hown5
            clear hU
            go_region_law (first | (refine step_append_sat rfl (.tmp 78) (.tmp 80) 22 rfl w2.heap.size 40 i0 Insn.zero.val 5 12 Try.underlying22 hinf hz0 hz1 hz2 rfl ?_ B acc.length b (insnsV acc) rfl ?_ (U.heap.size + 1) (some ⟨U.heap.size, 0, none⟩) 1 1 [.int .u8 x0, .int .u8 x1, .int .u8 x2, .int .i16 x3, .int .i32 x4] rfl ?_ ?_ ?_ ?_ ?_ ?_; (decide); (exact hownU.alloc _); (exact sat_new U 40 #[.int .u8 x0, .int .u8 x1, .int .u8 x2, .int .i16 x3, .int .i32 x4] 5 1 rfl); ((intro u hu; simp at hu; rcases hu with rfl | rfl | rfl | rfl | rfl <;> rfl)); ((simp only [maxLen]; omega)); (omega); ((refine Nat.le_trans hbrU.size (Nat.le_trans (Nat.le_succ _) (Nat.le_of_eq ?_)); symm; exact size_alloc_drew U _)); intro A1 c1 w6 hown6 hb6) | (refine step_append_sat rfl (.tmp 81) (.tmp 83) 22 rfl w2.heap.size 40 i0 Insn.zero.val 5 12 Try.underlying22 hinf hz0 hz1 hz2 rfl ?_ A1 (acc.length + 1) c1 (insnsV acc ++ [.int .u8 x0, .int .u8 x1, .int .u8 x2, .int .i16 x3, .int .i32 x4]) rfl ?_ w.heap.size (some ⟨xb, ko + j * 5 + 5, none⟩) 1 (xc - 1) (insnsV [y]) rfl ?_ ?_ ?_ ?_ ?_ ?_; (decide); (exact hown6); (exact rest_at (r := [y]) (far_at hxs' hxblt hbw3' (hb12.trans ((below_step1 hbrU hb6).mono hb12.size)))); (exact insnsV_ones _); ((simp only [maxLen]; omega)); (omega); (exact below_size2 hbrU hb6); intro A2 c2 w7 hown7 hb7))
            all_goals
              have hbr7 := below_step2 hbrU hb6 hb7
              have hbw7 := hb12.trans (hbr7.mono hb12.size)
              have hnj := hnx j hlt _ hbw7
              clear hnx
              go_wp2_with fail
              refine hnj.mono ?_
              rintro e w8 ⟨rfl, hb8⟩
              clear hnj
              have hown8 := own_keep hown7 hb8
              have hbr8 := hbr7.trans (hb8.mono hbr7.size)
              go_wp2_with fail
              go_roundw
              case rel =>
                refine ⟨stepN l j, acc ++ [(⟨x0, x1, x2, x3, x4⟩ : Insn)] ++ [y], A2, c2, HS.out, hle, rfl, ?_, HN.out, ?_, hbr8⟩
                · simp
                · have e1 : (acc ++ [(⟨x0, x1, x2, x3, x4⟩ : Insn)] ++ [y]).length = acc.length + 1 + 1 := by simp
                  rw [e1, insnsV_append, insnsV_append, insnsV_single]
                  exact hown8
              case measure => simp [intOf]; omega
        · rw [hg] at hgo
          have hk : r0 = 9 ∨ r0 = 10 := by
            symm at hgo
            simpa using hgo
          clear hgo HPL
          by_cases hok : 0 ≤ tt ∧ tt ≤ l.length
          case neg =>
            have HF := Lib.hid (HFAR.out _ _ rfl hg hok)
            clear HFAR HHOP hbe hbt hg hnx hxk
            by_cases t0 : 0 ≤ tt
            · have t4 : decide (tt < (l.length : Int) + 1) = false := decide_eq_false (by omega)
              rcases hk with rfl | rfl
              all_goals
                go_wp2_with fail
                go_ret2
                exact ⟨none, 0, by rw [HF.out]; rfl, by rw [HF.out]; exact SAt.nil_, by rw [HF.out]; exact Nat.le_refl _, by simp [maxLen], hbw5, (fun b o e => absurd e (by simp))⟩
            · rcases hk with rfl | rfl
              all_goals
                go_wp2_with fail
                go_ret2
                exact ⟨none, 0, by rw [HF.out]; rfl, by rw [HF.out]; exact SAt.nil_, by rw [HF.out]; exact Nat.le_refl _, by simp [maxLen], hbw5, (fun b o e => absurd e (by simp))⟩
          obtain ⟨tn, htn⟩ := Int.eq_ofNat_of_zero_le hok.1
          have htl : tn ≤ l.length := by omega
          have HN := Lib.hid (HHOP.out _ _ tn rfl hg htn htl)
          clear HFAR HHOP hbe hbt hg hok
          subst htn
          have hwt := hcell tn htl
          have hpt := plN_le l es tn
          have b0 : -30000 ≤ (plN l es tn : Int) - acc.length - 1 := by omega
          have b1 : (plN l es tn : Int) - acc.length - 1 ≤ 30000 := by omega
          have hhop := fun w => hop_any ⟨x0, x1, x2, x3, x4⟩ _ b0 b1 w
          have t1 : (tn : Int) < (l.length : Int) + 1 := by omega
          have hw1 : IntKind.i64.wrap ((plN l es tn : Int) - acc.length) = (plN l es tn : Int) - acc.length := by rw [IntKind.wrap_i64]; omega
          have hw2 : IntKind.i64.wrap ((plN l es tn : Int) - acc.length - 1) = (plN l es tn : Int) - acc.length - 1 := by rw [IntKind.wrap_i64]; omega
          have hhop2 : ∀ w, Calls Try.prog 27 #[.agg #[.int .u8 x0, .int .u8 x1, .int .u8 x2, .int .i16 x3, .int .i32 x4], .int .i64 (IntKind.i64.wrap (IntKind.i64.wrap ((plN l es tn : Int) - acc.length) - 1))] w fun e w' => e = .returned (.tuple #[(hopX ⟨x0, x1, x2, x3, x4⟩ ((plN l es tn : Int) - acc.length - 1)).val, .bool true]) ∧ Below w.heap.size w w' := fun w => by
            rw [hw1, hw2]
            exact hhop w
          clear b0 b1 hw1 hw2 hhop
          generalize hxn : hopX ⟨x0, x1, x2, x3, x4⟩ ((plN l es tn : Int) - acc.length - 1) = xn at *
          clear hxn
          obtain ⟨n0, n1, n2, n3, n4⟩ := xn
          replace hwt := hwt _ hbr5
          have HXB := Lib.hid hxk
          have hgb := own_far hown5 HGB.out
          have hVle : w3.heap.size + 1 ≤ V.heap.size := by rw [HV.out]; exact Nat.le_refl _
          clear hxk hcell
          rcases hk with rfl | rfl
          all_goals
            go_wp2_with fail
            generalize hT : w4.alloc _ = T at *
            clear hT
            go_region_with (go_at_call 27; refine (hhop2 _).mono ?_; rintro e w9 ⟨rfl, hb9⟩; have hS := below_drew_on hbV5 hb9 hVle)
            all_goals
              have hown9 := own_seven (own_keep (w := T.drew) hown5 hb9) hgb n0 n1 n2 n3 n4
              have hbr9 := below_five (below_drew_on2 hbr5 hb9) (g := w3.heap.size) (by have := hbr3.size; omega) n0 n1 n2 n3 n4
              obtain ⟨v0, v1, v2, v3, v4⟩ := cells_five (f0 _ hS) (f1 _ hS) (f2 _ hS) (f3 _ hS) (f4 _ hS) n0 n1 n2 n3 n4
              clear hwt hhop2 hown5 hfk f0p f1p f2p f3p f4p f0 f1 f2 f3 f4 hfx
              have hone1 : (1 : Int) ≤ (r.length : Int) + 1 := by omega
              cases r with
              | nil =>
                simp only [List.length_nil] at *
                have hone2 : (1 : Int) ≤ ((0 : Nat) : Int) + 1 := by omega
                by_cases hxc1 : xc = 1
                · subst hxc1
                  go_wp2_with fail
                  generalize hU : ((((w9.setCell ⟨w3.heap.size, 0, none⟩ (.int .u8 n0)).setCell ⟨w3.heap.size, 1, none⟩ (.int .u8 n1)).setCell ⟨w3.heap.size, 2, none⟩ (.int .u8 n2)).setCell ⟨w3.heap.size, 3, none⟩ (.int .i16 n3)).setCell ⟨w3.heap.size, 4, none⟩ (.int .i32 n4) = U at *
                  have hbrU := hbr9
                  have hownU := hown9
                  clear hU
                  go_region_law (first | (refine step_append_sat rfl (.tmp 78) (.tmp 80) 22 rfl w2.heap.size 40 i0 Insn.zero.val 5 12 Try.underlying22 hinf hz0 hz1 hz2 rfl ?_ B acc.length b (insnsV acc) rfl ?_ (U.heap.size + 1) (some ⟨U.heap.size, 0, none⟩) 1 1 [.int .u8 n0, .int .u8 n1, .int .u8 n2, .int .i16 n3, .int .i32 n4] rfl ?_ ?_ ?_ ?_ ?_ ?_; (decide); (exact hownU.alloc _); (exact sat_new U 40 #[.int .u8 n0, .int .u8 n1, .int .u8 n2, .int .i16 n3, .int .i32 n4] 5 1 rfl); ((intro u hu; simp at hu; rcases hu with rfl | rfl | rfl | rfl | rfl <;> rfl)); ((simp only [maxLen]; omega)); (omega); ((refine Nat.le_trans hbrU.size (Nat.le_trans (Nat.le_succ _) (Nat.le_of_eq ?_)); symm; exact size_alloc_drew U _)); intro A1 c1 w6 hown6 hb6) | (refine step_append_sat rfl (.tmp 81) (.tmp 83) 22 rfl w2.heap.size 40 i0 Insn.zero.val 5 12 Try.underlying22 hinf hz0 hz1 hz2 rfl ?_ A1 (acc.length + 1) c1 (insnsV acc ++ [.int .u8 n0, .int .u8 n1, .int .u8 n2, .int .i16 n3, .int .i32 n4]) rfl ?_ w6.heap.size (some ⟨xb, xo, none⟩) 0 0 (insnsV []) rfl ?_ ?_ ?_ ?_ ?_ ?_; (decide); (exact hown6); (exact ⟨by simp [insnsV], fun h => absurd h (by omega)⟩); (exact insnsV_ones _); ((simp only [maxLen]; omega)); (omega); (exact below_size2 hbrU hb6); intro A2 c2 w7 hown7 hb7))
                  all_goals
                    have hbr7 := below_step2 hbrU hb6 hb7
                    have hbw7 := hb12.trans (hbr7.mono hb12.size)
                    have hnj := hnx j hlt _ hbw7
                    clear hnx
                    go_wp2_with fail
                    refine hnj.mono ?_
                    rintro e w8 ⟨rfl, hb8⟩
                    clear hnj
                    have hown8 := own_keep hown7 hb8
                    have hbr8 := hbr7.trans (hb8.mono hbr7.size)
                    go_wp2_with fail
                    go_roundw
                    case rel =>
                      refine ⟨stepN l j, acc ++ [(⟨n0, n1, n2, n3, n4⟩ : Insn)] ++ [], A2, c2, HS.out, hle, rfl, ?_, HN.out, ?_, hbr8⟩
                      · simp
                      · have e1 : (acc ++ [(⟨n0, n1, n2, n3, n4⟩ : Insn)] ++ []).length = acc.length + 1 + 0 := by simp
                        rw [e1, insnsV_append, insnsV_append, insnsV_single]
                        exact hown8
                    case measure => simp [intOf]; omega
                · go_wp2_with fail
                  generalize hU : ((((w9.setCell ⟨w3.heap.size, 0, none⟩ (.int .u8 n0)).setCell ⟨w3.heap.size, 1, none⟩ (.int .u8 n1)).setCell ⟨w3.heap.size, 2, none⟩ (.int .u8 n2)).setCell ⟨w3.heap.size, 3, none⟩ (.int .i16 n3)).setCell ⟨w3.heap.size, 4, none⟩ (.int .i32 n4) = U at *
                  have hbrU := hbr9
                  have hownU := hown9
                  clear hU
                  go_region_law (first | (refine step_append_sat rfl (.tmp 78) (.tmp 80) 22 rfl w2.heap.size 40 i0 Insn.zero.val 5 12 Try.underlying22 hinf hz0 hz1 hz2 rfl ?_ B acc.length b (insnsV acc) rfl ?_ (U.heap.size + 1) (some ⟨U.heap.size, 0, none⟩) 1 1 [.int .u8 n0, .int .u8 n1, .int .u8 n2, .int .i16 n3, .int .i32 n4] rfl ?_ ?_ ?_ ?_ ?_ ?_; (decide); (exact hownU.alloc _); (exact sat_new U 40 #[.int .u8 n0, .int .u8 n1, .int .u8 n2, .int .i16 n3, .int .i32 n4] 5 1 rfl); ((intro u hu; simp at hu; rcases hu with rfl | rfl | rfl | rfl | rfl <;> rfl)); ((simp only [maxLen]; omega)); (omega); ((refine Nat.le_trans hbrU.size (Nat.le_trans (Nat.le_succ _) (Nat.le_of_eq ?_)); symm; exact size_alloc_drew U _)); intro A1 c1 w6 hown6 hb6) | (refine step_append_sat rfl (.tmp 81) (.tmp 83) 22 rfl w2.heap.size 40 i0 Insn.zero.val 5 12 Try.underlying22 hinf hz0 hz1 hz2 rfl ?_ A1 (acc.length + 1) c1 (insnsV acc ++ [.int .u8 n0, .int .u8 n1, .int .u8 n2, .int .i16 n3, .int .i32 n4]) rfl ?_ w6.heap.size (some ⟨xb, xo + 5, none⟩) 0 (xc - 1) (insnsV []) rfl ?_ ?_ ?_ ?_ ?_ ?_; (decide); (exact hown6); (exact ⟨by simp [insnsV], fun h => absurd h (by omega)⟩); (exact insnsV_ones _); ((simp only [maxLen]; omega)); (omega); (exact below_size2 hbrU hb6); intro A2 c2 w7 hown7 hb7))
                  all_goals
                    have hbr7 := below_step2 hbrU hb6 hb7
                    have hbw7 := hb12.trans (hbr7.mono hb12.size)
                    have hnj := hnx j hlt _ hbw7
                    clear hnx
                    go_wp2_with fail
                    refine hnj.mono ?_
                    rintro e w8 ⟨rfl, hb8⟩
                    clear hnj
                    have hown8 := own_keep hown7 hb8
                    have hbr8 := hbr7.trans (hb8.mono hbr7.size)
                    go_wp2_with fail
                    go_roundw
                    case rel =>
                      refine ⟨stepN l j, acc ++ [(⟨n0, n1, n2, n3, n4⟩ : Insn)] ++ [], A2, c2, HS.out, hle, rfl, ?_, HN.out, ?_, hbr8⟩
                      · simp
                      · have e1 : (acc ++ [(⟨n0, n1, n2, n3, n4⟩ : Insn)] ++ []).length = acc.length + 1 + 0 := by simp
                        rw [e1, insnsV_append, insnsV_append, insnsV_single]
                        exact hown8
                    case measure => simp [intOf]; omega
              | cons y r =>
                have hr0 : r = [] := by simpa using hbl
                subst hr0
                obtain ⟨kb, ko, hA, hX⟩ := HXB.out rfl
                subst hA
                simp only [Option.some.injEq, Addr.mk.injEq, and_true] at hX
                obtain ⟨b', o', hA2, hxblt, -⟩ := h.2 (by omega)
                simp only [Option.some.injEq, Addr.mk.injEq, and_true] at hA2
                obtain ⟨rfl, rfl⟩ := hA2
                obtain ⟨rfl, rfl⟩ := hX
                have hxc1 : ¬ xc = 1 := by simp at hxc; omega
                simp only [List.length_cons, List.length_nil, Nat.zero_add] at *
                have hone2 : (1 : Int) ≤ ((1 : Nat) : Int) + 1 := by omega
                go_wp2_with fail
                generalize hU : ((((w9.setCell ⟨w3.heap.size, 0, none⟩ (.int .u8 n0)).setCell ⟨w3.heap.size, 1, none⟩ (.int .u8 n1)).setCell ⟨w3.heap.size, 2, none⟩ (.int .u8 n2)).setCell ⟨w3.heap.size, 3, none⟩ (.int .i16 n3)).setCell ⟨w3.heap.size, 4, none⟩ (.int .i32 n4) = U at *
                have hbrU := hbr9
                have hownU := hown9
                clear hU
                go_region_law (first | (refine step_append_sat rfl (.tmp 78) (.tmp 80) 22 rfl w2.heap.size 40 i0 Insn.zero.val 5 12 Try.underlying22 hinf hz0 hz1 hz2 rfl ?_ B acc.length b (insnsV acc) rfl ?_ (U.heap.size + 1) (some ⟨U.heap.size, 0, none⟩) 1 1 [.int .u8 n0, .int .u8 n1, .int .u8 n2, .int .i16 n3, .int .i32 n4] rfl ?_ ?_ ?_ ?_ ?_ ?_; (decide); (exact hownU.alloc _); (exact sat_new U 40 #[.int .u8 n0, .int .u8 n1, .int .u8 n2, .int .i16 n3, .int .i32 n4] 5 1 rfl); ((intro u hu; simp at hu; rcases hu with rfl | rfl | rfl | rfl | rfl <;> rfl)); ((simp only [maxLen]; omega)); (omega); ((refine Nat.le_trans hbrU.size (Nat.le_trans (Nat.le_succ _) (Nat.le_of_eq ?_)); symm; exact size_alloc_drew U _)); intro A1 c1 w6 hown6 hb6) | (refine step_append_sat rfl (.tmp 81) (.tmp 83) 22 rfl w2.heap.size 40 i0 Insn.zero.val 5 12 Try.underlying22 hinf hz0 hz1 hz2 rfl ?_ A1 (acc.length + 1) c1 (insnsV acc ++ [.int .u8 n0, .int .u8 n1, .int .u8 n2, .int .i16 n3, .int .i32 n4]) rfl ?_ w.heap.size (some ⟨xb, ko + j * 5 + 5, none⟩) 1 (xc - 1) (insnsV [y]) rfl ?_ ?_ ?_ ?_ ?_ ?_; (decide); (exact hown6); (exact rest_at (r := [y]) (far_at hxs' hxblt hbw3' (hb12.trans ((below_step1 hbrU hb6).mono hb12.size)))); (exact insnsV_ones _); ((simp only [maxLen]; omega)); (omega); (exact below_size2 hbrU hb6); intro A2 c2 w7 hown7 hb7))
                all_goals
                  have hbr7 := below_step2 hbrU hb6 hb7
                  have hbw7 := hb12.trans (hbr7.mono hb12.size)
                  have hnj := hnx j hlt _ hbw7
                  clear hnx
                  go_wp2_with fail
                  refine hnj.mono ?_
                  rintro e w8 ⟨rfl, hb8⟩
                  clear hnj
                  have hown8 := own_keep hown7 hb8
                  have hbr8 := hbr7.trans (hb8.mono hbr7.size)
                  go_wp2_with fail
                  go_roundw
                  case rel =>
                    refine ⟨stepN l j, acc ++ [(⟨n0, n1, n2, n3, n4⟩ : Insn)] ++ [y], A2, c2, HS.out, hle, rfl, ?_, HN.out, ?_, hbr8⟩
                    · simp
                    · have e1 : (acc ++ [(⟨n0, n1, n2, n3, n4⟩ : Insn)] ++ [y]).length = acc.length + 1 + 1 := by simp
                      rw [e1, insnsV_append, insnsV_append, insnsV_single]
                      exact hown8
                  case measure => simp [intOf]; omega
    · obtain rfl : j = l.length := by omega
      have hri := right_any acc haok B b (by have := plN_le l es l.length; omega) _ ((SAt.own hown))
      have HM := Lib.hid (rwM_end HZ.out hacc)
      have hcap := own_cap hown
      have hmax := own_max hown
      have hsat := SAt.own hown
      have hlowB : ∀ b' o', B = some ⟨b', o', none⟩ → w.heap.size ≤ b' := fun b' o' e => Nat.le_trans hb12.size (hown.lt b' (by rw [e]; rfl)).1
      have HAL2 := Lib.hid hal
      clear hacc hown hnx hbec hcell hal hpj haok
      go_wp2_with fail
      refine hri.mono ?_
      rintro e w4 ⟨rfl, hb4⟩
      have hbw4 := hbw.trans (hb4.mono hbw.size)
      clear hri
      by_cases hc0 : (checkM acc).2 = 0
      · have q : ((checkM acc).2 == 0) = true := by simp [hc0]
        rw [if_pos hc0] at HM
        clear hc0
        go_wp2_with fail
        go_ret2
        exact ⟨B, b, by rw [HM.out]; rfl, by rw [HM.out]; exact (hsat.below hb4).more hb4.size, by rw [HM.out]; exact hcap, hmax, hbw4, hlowB⟩
      · have q : ((checkM acc).2 == 0) = false := by simp [hc0]
        rw [if_neg hc0] at HM
        clear hc0
        go_wp2_with fail
        go_ret2
        exact ⟨none, 0, by rw [HM.out]; rfl, by rw [HM.out]; exact SAt.nil_, by rw [HM.out]; exact Nat.le_refl _, by simp [maxLen], hbw4, (fun b o e => absurd e (by simp))⟩
end Go.Proofs.Ytncogaikiceidaa
