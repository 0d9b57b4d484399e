/- The program's walks over instructions answer as the plain ones do. No statement is proved here. -/
import Derived.Test.YtgbmeckhagklnaaList
import Derived.Test.YtgbmeckhagklnaaSem
import Derived.Deep.OwnRows
import Derived.Test.YtgbmeckhagklnaaInsnEq
import Derived.Test.YtgbmeckhagklnaaInsnTakesW

section
/- Next, Starts, to, Target, whole, of the program. No statement is proved here. -/
namespace Go.Proofs.Ytgbmeckhagklnaa
open Go.RowKit
set_option linter.unusedSimpArgs false
set_option linter.unusedVariables false
set_option maxRecDepth 100000 in
theorem next_any (l : List Insn) (A : Option Addr) (c : Nat) (i : Int) (hn : l.length ≤ 100000) (hi0 : -9223372036854775808 ≤ i) (hi1 : i ≤ 9223372036854775807) (w : World) (h : SAt w w.heap.size 5 A l.length (insnsV l)) :
    Calls Try.prog 41 #[.slice A l.length c, .int .i64 i] w fun e w' => e = .returned (.int .i64 (nextI l i)) ∧ Below w.heap.size w w' := by
  by_cases h0 : i < 0
  · go_enter Try.func41, Try.ntmps41
    go_wp2_with fail
    go_ret
    exact ⟨by simp [nextI, h0], Below.refl _ _⟩
  by_cases h1 : (l.length : Int) ≤ i
  · go_enter Try.func41, Try.ntmps41
    go_wp2_with fail
    go_ret
    exact ⟨by simp [nextI, h1], Below.refl _ _⟩
  obtain ⟨n, rfl⟩ := Int.eq_ofNat_of_zero_le (show 0 ≤ i by omega)
  have hlt : n < l.length := by omega
  obtain ⟨b, o, rfl, hb, c0, c1, c2, c3, c4⟩ := h.insn hlt
  have hB : Below w.heap.size w w := Below.refl _ _
  have hw := fun w => wide_any (at' l n) w
  have hr := nextI_at hlt
  cases ho : ((at' l n).op == 24)
  all_goals
    go_enter Try.func41, Try.ntmps41
    go_wp2_with fail
    refine (hw _).mono ?_
    rintro e w1 ⟨rfl, hb1⟩
    go_wp2_with fail
    go_ret
    exact ⟨by rw [hr, stepN]; simp at ho; simp [ho], hb1⟩
theorem info4 : (Try.prog.info? 4).map (fun i => (i.zero, i.size, i.bytes)) = some (some (.bool false), 1, 1) := by kernel_rfl
def boolsV (l : List Bool) : List Value := l.map Value.bool
def marks (l : List Insn) (j : Nat) : List Value := (List.range l.length).map fun k => Value.bool (decide (k < j) && SB l k)
theorem marks_length (l : List Insn) (j : Nat) : (marks l j).length = l.length := by simp [marks]
theorem marks_get {l : List Insn} {j k : Nat} (h : k < l.length) : (marks l j)[k]? = some (.bool (decide (k < j) && SB l k)) := by
  simp [marks, List.getElem?_map, List.getElem?_range h]
theorem marks_all {l : List Insn} {j : Nat} (h : l.length ≤ j) : marks l j = boolsV (startsL l) := by
  apply List.ext_getElem?
  intro k
  rcases Nat.lt_or_ge k l.length with hk | hk
  · rw [marks_get hk]
    simp [boolsV, startsL, List.getElem?_range hk, show k < j by omega]
  · rw [List.getElem?_eq_none (by rw [marks_length]; exact hk), List.getElem?_eq_none (by simp [boolsV, startsL]; exact hk)]
theorem marks_set {l : List Insn} {j : Nat} (hj : j < l.length) (hs : SB l j = true) : (marks l j).set j (.bool true) = marks l (stepN l j) := by
  apply List.ext_getElem?
  intro k
  rcases Nat.lt_or_ge k l.length with hk | hk
  · rw [marks_get hk, List.getElem?_set]
    have h1 := step_gt l j
    split
    · rename_i e
      subst e
      rw [if_pos (by rw [marks_length]; exact hj)]
      simp [hs, h1]
    · rename_i e
      rw [marks_get hk]
      congr 2
      rcases Nat.lt_or_ge k j with h2 | h2
      · rw [decide_eq_true h2, decide_eq_true (show k < stepN l j by omega)]
      · rw [decide_eq_false (show ¬ k < j by omega)]
        rcases Nat.lt_or_ge k (stepN l j) with h3 | h3
        · rw [SB_between hs (by omega) h3]; simp
        · rw [decide_eq_false (show ¬ k < stepN l j by omega)]
  · rw [List.getElem?_eq_none (by rw [List.length_set, marks_length]; exact hk), List.getElem?_eq_none (by rw [marks_length]; exact hk)]
theorem own_below {w w' : World} {base e size g n cap B : Nat} {xs : List Value} (h : w.ownsRow base e size (.slice (some ⟨g, 0, none⟩) n cap) n xs) (hb : Below B w w') (hg : g < B) : w'.ownsRow base e size (.slice (some ⟨g, 0, none⟩) n cap) n xs := by
  refine ⟨h.1, ?_⟩
  rcases h.2 with ⟨hv, _⟩ | ⟨g', cap', cur, hv, hb', hh, r⟩
  · cases hv
  · refine .inr ⟨g', cap', cur, hv, hb', ?_, r⟩
    injection hv with hA
    injection hA with hA
    injection hA with hA
    subst hA
    rw [hb.block _ hg, hh]
/-- Behind Starts. -/
def StartsOk (W : World) (l : List Insn) (e : Ending) (w' : World) : Prop :=
  ∃ A c, e = .returned (.slice A l.length c) ∧ SAt w' w'.heap.size 1 A l.length (boolsV (startsL l)) ∧ Below W.heap.size W w'
theorem next_at (l : List Insn) (A : Option Addr) (c : Nat) (j : Nat) (hn : l.length ≤ 100000) (hj : j < l.length) (w w' : World) (h : SAt w w.heap.size 5 A l.length (insnsV l)) (hb : Below w.heap.size w w') :
    Calls Try.prog 41 #[.slice A l.length c, .int .i64 j] w' fun e w'' => e = .returned (.int .i64 (stepN l j : Nat)) ∧ Below w'.heap.size w' w'' := by
  have := next_any l A c j hn (by omega) (by omega) w' ((h.below hb).more hb.size)
  rwa [nextI_at hj] at this
set_option maxRecDepth 100000 in
theorem starts_any (l : List Insn) (A : Option Addr) (c : Nat) (hn : l.length ≤ 100000) (w : World) (h : SAt w w.heap.size 5 A l.length (insnsV l)) : Calls Try.prog 42 #[.slice A l.length c] w (StartsOk w l) := by
  have hmk := run_make_row' (P := Try.prog) 52 4 (.bool false) 1 Try.underlying52 info4 rfl .i64 .i64 l.length (by omega) (by omega)
  have hown0 := own_new w w.heap.size (madeCells #[.bool false] l.length) 4 1 l.length l.length w.heap.size rfl (Nat.le_refl _) (Nat.le_refl _) (by simp only [maxLen]; omega) (by simp [madeCells])
  have hm0 : ((madeCells #[Value.bool false] l.length).toList.take (l.length * 1)) = marks l 0 := by
    rw [toList_madeCells_one, Nat.mul_one, List.take_of_length_le (by simp)]
    apply List.ext_getElem?
    intro k
    rcases Nat.lt_or_ge k l.length with hk | hk
    · rw [marks_get hk, List.getElem?_replicate, if_pos hk]
      simp
    · rw [List.getElem?_eq_none (by simpa using hk), List.getElem?_eq_none (by rw [marks_length]; exact hk)]
  rw [hm0] at hown0
  have hb0 : Below w.heap.size w (w.alloc (.cells (madeCells #[.bool false] l.length) 4)) := (Below.refl _ _).alloc (Nat.le_refl _) _
  go_enter Try.func42, Try.ntmps42
  go_wp2_with fail
  generalize madeCells #[Value.bool false] l.length = mc at *
  go_loopw [4] (fun k wr => ∃ j : Nat, SB l j = true ∧ j ≤ l.length + 1 ∧ k = .int .i64 j ∧ wr.ownsRow w.heap.size 4 1 (.slice (some ⟨w.heap.size, 0, none⟩) l.length l.length) l.length (marks l j) ∧ w.heap.size < wr.heap.size ∧ Below w.heap.size w wr) (fun k _ => l.length + 2 - (intOf k).toNat)
  case atStart => exact ⟨0, rfl, by omega, rfl, hown0, by simp, hb0⟩
  case round =>
    obtain ⟨j, hs, hj, rfl, hown, hsz, hb⟩ := hrel
    rcases Nat.lt_or_ge j l.length with hlt | hge
    · have hc := hown.cellAt j (by omega)
      rw [marks_get hlt] at hc
      have hf := hown.frozenAt j
      obtain ⟨hst, -⟩ := hown.stored j (.bool true)
      rw [marks_set hlt hs] at hst
      have hb2 : Below w.heap.size w (wr.setCell ⟨w.heap.size, j, none⟩ (.bool true)) := hb.setCell (Nat.le_refl _) _
      have hnx := next_at l A c j hn hlt w _ h hb2
      have hgt := step_gt l j
      have hle := step_le l j
      clear hown hmk hown0
      go_wp2_with fail
      refine hnx.mono ?_
      rintro e w2 ⟨rfl, hb3⟩
      go_wp2_with fail
      go_roundw
      case rel => exact ⟨stepN l j, SB_step hs, by omega, rfl, own_below hst hb3 (by simpa using hsz), Nat.lt_of_lt_of_le hsz (by simpa using hb3.size), hb2.trans (hb3.mono (by simpa using Nat.le_of_lt hsz))⟩
      case measure => simp [intOf]; omega
    · go_wp2_with fail
      go_ret
      refine ⟨_, _, rfl, ?_, hb⟩
      rw [← marks_all hge]
      exact SAt.own hown
set_option maxRecDepth 100000 in
theorem to_any (l : List Insn) (hl : ∀ x ∈ l, x.Ok) (A : Option Addr) (c : Nat) (hn : l.length ≤ 100000) (n : Nat) (hlt : n < l.length) (w : World) (h : SAt w w.heap.size 5 A l.length (insnsV l)) :
    Calls Try.prog 72 #[.slice A l.length c, .int .i64 n] w fun e w' => e = .returned (.tuple #[.int .i64 (toM l n).1, .bool (toM l n).2]) ∧ Below w.heap.size w w' := by
  obtain ⟨b, o, rfl, hb, c0, c1, c2, c3, c4⟩ := h.insn hlt
  have hok := at_ok hl n
  obtain ⟨-, -, -, -, -, -, o0, o1, i0, i1⟩ := hok
  have hs := fun w => sem_any (at' l n) (at_ok hl n) w
  have hB : Below w.heap.size w w := Below.refl _ _
  have hr : toM l n = if (sem (at' l n)).1.kind ≠ 9 ∧ (sem (at' l n)).1.kind ≠ 10 then (0, false)
    else if (at' l n).op = 6 then ((n : Int) + 1 + (at' l n).imm, true) else ((n : Int) + 1 + (at' l n).off, true) := rfl
  have HR := Lib.hid hr
  clear hr
  go_enter Try.func72, Try.ntmps72
  go_wp2_with fail
  refine (hs _).mono ?_
  rintro e w1 ⟨rfl, hb1⟩
  generalize sem (at' l n) = r at *
  obtain ⟨⟨r0, r1, r2, r3, r4, r5⟩, rb⟩ := r
  simp only at *
  have hs1 := hb1.size
  have hfin : Below w.heap.size w (w1.alloc (.cells #[.int .u8 r0, .int .u8 r1, .bool r2, .bool r3, .bool r4, .int .i64 r5] 44)) := hb1.alloc hs1 _
  by_cases h9 : r0 = 9
  · subst h9
    cases ho : ((at' l n).op == 6)
    · go_wp2_with fail
      go_ret2
      have ho' : ¬ (at' l n).op = 6 := by simpa using ho
      refine ⟨?_, hfin⟩
      rw [HR.out]
      simp [ho']
    · go_wp2_with fail
      go_ret2
      have ho' : (at' l n).op = 6 := by simpa using ho
      refine ⟨?_, hfin⟩
      rw [HR.out]
      simp [ho']
  by_cases h10 : r0 = 10
  · subst h10
    cases ho : ((at' l n).op == 6)
    · go_wp2_with fail
      go_ret2
      have ho' : ¬ (at' l n).op = 6 := by simpa using ho
      refine ⟨?_, hfin⟩
      rw [HR.out]
      simp [ho']
    · go_wp2_with fail
      go_ret2
      have ho' : (at' l n).op = 6 := by simpa using ho
      refine ⟨?_, hfin⟩
      rw [HR.out]
      simp [ho']
  · have q9 : (r0 != 9) = true := by simp [h9]
    have q10 : (r0 != 10) = true := by simp [h10]
    go_wp2_with fail
    all_goals
      go_ret2
      refine ⟨?_, hfin⟩
      rw [HR.out]
      simp [h9, h10]
theorem toM_bound (l : List Insn) (hl : ∀ x ∈ l, x.Ok) (hn : l.length ≤ 100000) (n : Nat) (hlt : n < l.length) : -3000000000 ≤ (toM l n).1 ∧ (toM l n).1 ≤ 3000000000 := by
  obtain ⟨-, -, -, -, -, -, o0, o1, i0, i1⟩ := at_ok hl n
  unfold toM
  split
  · simp
  split <;> simp only <;> omega
set_option maxRecDepth 100000 in
theorem target_any (l : List Insn) (hl : ∀ x ∈ l, x.Ok) (A : Option Addr) (c : Nat) (hn : l.length ≤ 100000) (i : Int) (hi0 : -9223372036854775808 ≤ i) (hi1 : i ≤ 9223372036854775807) (w : World) (h : SAt w w.heap.size 5 A l.length (insnsV l)) :
    Calls Try.prog 46 #[.slice A l.length c, .int .i64 i] w fun e w' => e = .returned (.tuple #[.int .i64 (targetM l i).1, .bool (targetM l i).2]) ∧ Below w.heap.size w w' := by
  by_cases h0 : i < 0
  · go_enter Try.func46, Try.ntmps46
    go_wp2_with fail
    go_ret2
    exact ⟨by simp [targetM, h0], Below.refl _ _⟩
  by_cases h1 : (l.length : Int) ≤ i
  · go_enter Try.func46, Try.ntmps46
    go_wp2_with fail
    go_ret2
    exact ⟨by simp [targetM, h1], Below.refl _ _⟩
  obtain ⟨n, rfl⟩ := Int.eq_ofNat_of_zero_le (show 0 ≤ i by omega)
  have hlt : n < l.length := by omega
  have ht := to_any l hl A c hn n hlt w h
  have hr : targetM l (n : Int) = if (toM l n).2 = false ∨ (toM l n).1 < 0 ∨ (l.length : Int) ≤ (toM l n).1 then (0, false) else ((toM l n).1, true) := by
    unfold targetM
    rw [if_neg (by omega)]
    simp
  have HR := Lib.hid hr
  clear hr
  go_enter Try.func46, Try.ntmps46
  go_wp2_with fail
  refine ht.mono ?_
  rintro e w1 ⟨rfl, hb1⟩
  clear ht
  generalize toM l n = r at *
  obtain ⟨t, rb⟩ := r
  simp only at *
  cases rb
  · go_wp2_with fail
    go_ret2
    exact ⟨by rw [HR.out]; simp, hb1⟩
  by_cases h2 : t < 0
  · go_wp2_with fail
    go_ret2
    exact ⟨by rw [HR.out]; simp [h2], hb1⟩
  by_cases h3 : (l.length : Int) ≤ t
  · go_wp2_with fail
    go_ret2
    exact ⟨by rw [HR.out]; simp [h3], hb1⟩
  · go_wp2_with fail
    go_ret2
    exact ⟨by rw [HR.out]; simp [show ¬ t < 0 by omega, show ¬ (l.length : Int) ≤ t by omega], hb1⟩
set_option maxRecDepth 100000 in
theorem whole_any (l : List Insn) (hl : ∀ x ∈ l, x.Ok) (A : Option Addr) (c : Nat) (hn : l.length ≤ 100000) (n : Nat) (hlt : n < l.length) (w : World) (h : SAt w w.heap.size 5 A l.length (insnsV l)) :
    Calls Try.prog 71 #[.slice A l.length c, .int .i64 n] w fun e w' => e = .returned (.bool (wholeB l n)) ∧ Below w.heap.size w w' := by
  have h' := h
  obtain ⟨b, o, rfl, hb, c0, c1, c2, c3, c4⟩ := h.insn hlt
  have hs := fun w => sem_any (at' l n) (at_ok hl n) w
  have hwd := fun w => wide_any (at' l n) w
  have hB : Below w.heap.size w w := Below.refl _ _
  have hr : wholeB l n = ((sem (at' l n)).2 && (!((at' l n).op == 24) || decide (n + 1 < l.length) && decide ((if (sem (at' l n)).1.kind = 3 then noImm (at' l (n + 1)) else at' l (n + 1)) = Insn.zero))) := rfl
  have HR := Lib.hid hr
  clear hr
  go_enter Try.func71, Try.ntmps71
  go_wp2_with fail
  refine (hs _).mono ?_
  rintro e w1 ⟨rfl, hb1⟩
  generalize sem (at' l n) = r at *
  obtain ⟨⟨r0, r1, r2, r3, r4, r5⟩, rb⟩ := r
  simp only at *
  have hs1 := hb1.size
  have hfin : Below w.heap.size w (w1.alloc (.cells #[.int .u8 r0, .int .u8 r1, .bool r2, .bool r3, .bool r4, .int .i64 r5] 44)) := hb1.alloc hs1 _
  cases rb
  · go_wp2_with fail
    go_ret
    exact ⟨by rw [HR.out]; rfl, hfin⟩
  go_wp2_with fail
  refine (hwd _).mono ?_
  rintro e w2 ⟨rfl, hb2⟩
  have hs2 := hb2.size
  simp at hs2
  have hfin2 : Below w.heap.size w w2 := hfin.trans (hb2.mono (by simp; omega))
  have g0 : w2.cell? ⟨w1.heap.size, 0, none⟩ = some (.int .u8 r0) := by
    rw [hb2.cell (by simp)]
    simp [go_sem]
  have g0' : ∀ w', Below w2.heap.size w2 w' → w'.cell? ⟨w1.heap.size, 0, none⟩ = some (.int .u8 r0) := fun w' hb => (hb.cell (p := ⟨w1.heap.size, 0, none⟩) (by simp; omega)).trans g0
  have hB2 : Below w2.heap.size w2 w2 := Below.refl _ _
  clear g0
  cases ho : ((at' l n).op == 24)
  · go_wp2_with fail
    go_ret
    exact ⟨by rw [HR.out, ho]; rfl, hfin2⟩
  rw [ho] at HR
  by_cases h1 : n + 1 < l.length
  · obtain ⟨b', o', e', hb', d0, d1, d2, d3, d4⟩ := h'.insn h1
    simp only [Option.some.injEq, Addr.mk.injEq, and_true] at e'
    obtain ⟨rfl, rfl⟩ := e'
    have heq := eq_insn
    have hi1 : ((n : Int) + 1).toNat = n + 1 := by omega
    by_cases h3 : r0 = 3
    · subst h3
      have e1 := fun w => eq_insn (noImm (at' l (n + 1))) Insn.zero w
      simp only [noImm, Insn.zero] at e1
      go_wp2_with fail
      go_ret
      exact ⟨by rw [HR.out]; simp [h1, noImm, Insn.zero], hfin2.alloc (by omega) _⟩
    · have e1 := fun w => eq_insn (at' l (n + 1)) Insn.zero w
      simp only [Insn.zero] at e1
      go_wp2_with fail
      go_ret
      exact ⟨by rw [HR.out]; simp [h1, h3, Insn.zero]; exact decide_eq_decide.2 Iff.rfl, hfin2.alloc (by omega) _⟩
  · go_wp2_with fail
    go_ret
    exact ⟨by rw [HR.out]; simp [h1], hfin2⟩
end Go.Proofs.Ytgbmeckhagklnaa
end

section
/- Check, of the program. No statement is proved here. -/
namespace Go.Proofs.Ytgbmeckhagklnaa
open Go.RowKit
set_option linter.unusedSimpArgs false
set_option linter.unusedVariables false
theorem SAt.flag {w : World} {B : Nat} {A : Option Addr} {l : List Insn} (h : SAt w B 1 A l.length (boolsV (startsL l))) (h0 : 0 < l.length) :
    ∃ b o, A = some ⟨b, o, none⟩ ∧ b < B ∧ ∀ k, k < l.length → ∀ w', Below B w w' → w'.cell? ⟨b, o + k, none⟩ = some (.bool (SB l k)) := by
  obtain ⟨b, o, rfl, hb, hc⟩ := h.2 h0
  refine ⟨b, o, rfl, hb, fun k hk w' hw => ?_⟩
  rw [hw.cell hb]
  exact hc k _ (by simp [boolsV, startsL, List.getElem?_range hk])
theorem checkM_I {l : List Insn} {j : Nat} (h0 : 1 ≤ l.length) (h1 : l.length ≤ 512) (hj : j < l.length) (hb : badI l j = true) (hne : ∀ i, i < j → badI l i = false) : checkM l = ((j : Int), 71) := by
  unfold checkM
  rw [if_neg (by omega), firstB_some hj hb hne]
theorem checkM_J {l : List Insn} {j : Nat} (h0 : 1 ≤ l.length) (h1 : l.length ≤ 512) (hI : ∀ i, i < l.length → badI l i = false) (hj : j < l.length) (hb : badJ l j = true) (hne : ∀ i, i < j → badJ l i = false) : checkM l = ((j : Int), 72) := by
  unfold checkM
  rw [if_neg (by omega), firstB_none hI]
  simp only
  rw [firstB_some hj hb hne]
theorem checkM_E {l : List Insn} (h0 : 1 ≤ l.length) (h1 : l.length ≤ 512) (hI : ∀ i, i < l.length → badI l i = false) (hJ : ∀ i, i < l.length → badJ l i = false) : checkM l = if endB l then (0, 0) else ((lastN l : Int), 73) := by
  unfold checkM
  rw [if_neg (by omega), firstB_none hI]
  simp only
  rw [firstB_none hJ]
theorem lt_step {p : Nat → Bool} {j : Nat} (h : ∀ i, i < j → p i = false) (hj : p j = false) : ∀ i, i < j + 1 → p i = false := by
  intro i hi
  rcases Nat.lt_or_ge i j with h1 | h1
  · exact h i h1
  · obtain rfl : i = j := by omega
    exact hj
theorem lastN_lt {l : List Insn} (h : 1 ≤ l.length) : lastN l < l.length := by unfold lastN; split <;> omega
/-- Behind Check. -/
def TwoInts (W : World) (r : Int × Int) (e : Ending) (w' : World) : Prop := e = .returned (.tuple #[.int .i64 r.1, .int .i64 r.2]) ∧ Below W.heap.size W w'
set_option maxRecDepth 100000 in
set_option maxHeartbeats 4000000 in
theorem check_any (l : List Insn) (hl : ∀ x ∈ l, x.Ok) (A : Option Addr) (c : Nat) (hn : l.length ≤ 100000) (w : World) (h : SAt w w.heap.size 5 A l.length (insnsV l)) :
    Calls Try.prog 44 #[.slice A l.length c] w (TwoInts w (checkM l)) := by
  by_cases h1 : l.length < 1
  · go_enter Try.func44, Try.ntmps44
    go_wp2_with fail
    go_ret2
    exact ⟨by unfold checkM; rw [if_pos (.inl h1)]; rfl, Below.refl _ _⟩
  by_cases h512 : 512 < l.length
  · go_enter Try.func44, Try.ntmps44
    go_wp2_with fail
    go_ret2
    exact ⟨by unfold checkM; rw [if_pos (.inr h512)]; rfl, Below.refl _ _⟩
  have h1' : 1 ≤ l.length := by omega
  have h512' : l.length ≤ 512 := by omega
  go_enter Try.func44, Try.ntmps44
  go_wp2_with fail
  refine (starts_any l A c hn w h).mono ?_
  rintro e w2 ⟨A', c', rfl, hst, hb2⟩
  obtain ⟨b', o', rfl, hb', hfl⟩ := hst.flag (by omega)
  clear hst
  go_wp2_with fail
  go_loopw [26, 5, 6, 7] (fun k t5 _ _ wr => ∃ (j : Nat) (e0 : Nat), j ≤ l.length ∧ k = .int .i64 j ∧ t5 = .int .i64 e0 ∧ LastOf l j e0 ∧ (∀ i, i < j → badI l i = false) ∧ Below w2.heap.size w2 wr) (fun k _ _ _ _ => l.length - (intOf k).toNat)
  case atStart => exact ⟨0, 0, by omega, rfl, rfl, .inl ⟨rfl, rfl⟩, fun i hi => absurd hi (by omega), Below.refl _ _⟩
  case round =>
    obtain ⟨j, e0, hj, rfl, rfl, hlast, hI, hbr⟩ := hrel
    have hbw : Below w.heap.size w _ := hb2.trans (hbr.mono hb2.size)
    rcases Nat.lt_or_ge j l.length with hlt | hge
    · have hcell := hfl j hlt _ hbr
      cases hs : SB l j
      · rw [hs] at hcell
        go_wp2_with fail
        go_roundw
        case rel => exact ⟨j + 1, e0, by omega, by go_num, rfl, lastOf_step hlast hs, lt_step hI (by simp [badI, hs]), hbr⟩
        case measure => simp [intOf]; omega
      · rw [hs] at hcell
        go_wp2_with fail
        refine (whole_any l hl A c hn j hlt _ ((h.below hbw).more hbw.size)).mono ?_
        rintro e w3 ⟨rfl, hb3⟩
        have hb3' := hbr.trans (hb3.mono hbr.size)
        cases hw : wholeB l j
        · go_wp2_with fail
          go_ret2
          exact ⟨by rw [checkM_I h1' h512' hlt (by simp [badI, hs, hw]) hI]; rfl, hbw.trans (hb3.mono hbw.size)⟩
        · go_wp2_with fail
          go_roundw
          case rel => exact ⟨j + 1, j, by omega, by go_num, rfl, lastOf_here hs, lt_step hI (by simp [badI, hw]), hb3'⟩
          case measure => simp [intOf]; omega
    · obtain rfl : j = l.length := by omega
      have he0 := lastOf_all (by omega) hlast
      subst he0
      have hel := lastN_lt h1'
      go_wp2_with fail
      go_loopw [44, 8, 9, 10, 11] (fun k _ _ _ _ wr => ∃ (j : Nat), j ≤ l.length ∧ k = .int .i64 j ∧ (∀ i, i < j → badJ l i = false) ∧ Below w2.heap.size w2 wr) (fun k _ _ _ _ _ => l.length - (intOf k).toNat)
      case atStart => exact ⟨0, by omega, rfl, fun i hi => absurd hi (by omega), hbr⟩
      case round =>
        clear hbr hbw
        obtain ⟨j, hj, rfl, hJ, hbr⟩ := hrel
        have hbw : Below w.heap.size w _ := hb2.trans (hbr.mono hb2.size)
        rcases Nat.lt_or_ge j l.length with hlt | hge
        · have hcell := hfl j hlt _ hbr
          cases hs : SB l j
          · rw [hs] at hcell
            go_wp2_with fail
            go_roundw
            case rel => exact ⟨j + 1, by omega, by go_num, lt_step hJ (by simp [badJ, hs]), hbr⟩
            case measure => simp [intOf]; omega
          · rw [hs] at hcell
            go_wp2_with fail
            refine (to_any l hl A c hn j hlt _ ((h.below hbw).more hbw.size)).mono ?_
            rintro e w3 ⟨rfl, hb3⟩
            have hb3' := hbr.trans (hb3.mono hbr.size)
            have hbw' := hbw.trans (hb3.mono hbw.size)
            have hbj : badJ l j = ((toM l j).2 && !(decide (0 ≤ (toM l j).1) && (decide ((toM l j).1 < l.length) && SB l (toM l j).1.toNat))) := by simp [badJ, hs]
            have HJ := Lib.hid hbj
            clear hbj
            generalize toM l j = r at *
            obtain ⟨t, rb⟩ := r
            simp only at *
            cases rb
            · go_wp2_with fail
              go_roundw
              case rel => exact ⟨j + 1, by omega, by go_num, lt_step hJ (by rw [HJ.out]; simp), hb3'⟩
              case measure => simp [intOf]; omega
            by_cases ht0 : t < 0
            · go_wp2_with fail
              go_ret2
              exact ⟨by rw [checkM_J h1' h512' hI hlt (by rw [HJ.out]; simp; omega) hJ]; rfl, hbw'⟩
            by_cases ht1 : (l.length : Int) ≤ t
            · go_wp2_with fail
              go_ret2
              exact ⟨by rw [checkM_J h1' h512' hI hlt (by rw [HJ.out]; simp; omega) hJ]; rfl, hbw'⟩
            obtain ⟨tn, rfl⟩ := Int.eq_ofNat_of_zero_le (show 0 ≤ t by omega)
            have htl : tn < l.length := by omega
            have hcell' := hfl tn htl _ hb3'
            cases hst : SB l tn
            · rw [hst] at hcell'
              go_wp2_with fail
              go_ret2
              exact ⟨by rw [checkM_J h1' h512' hI hlt (by rw [HJ.out]; simp [hst]) hJ]; rfl, hbw'⟩
            · rw [hst] at hcell'
              go_wp2_with fail
              go_roundw
              case rel => exact ⟨j + 1, by omega, by go_num, lt_step hJ (by rw [HJ.out]; simp [hst, htl]), hb3'⟩
              case measure => simp [intOf]; omega
        · obtain rfl : j = l.length := by omega
          obtain ⟨b, o, rfl, hb, c0, c1, c2, c3, c4⟩ := h.insn hel
          have hse := fun w => sem_any (at' l (lastN l)) (at_ok hl (lastN l)) w
          have hE := checkM_E h1' h512' hI hJ
          have he : endB l = ((sem (at' l (lastN l))).1.kind == 12 || (sem (at' l (lastN l))).1.kind == 9) := rfl
          have HE := Lib.hid (hE.trans (by rw [he]))
          clear hE he
          go_wp2_with fail
          refine (hse _).mono ?_
          rintro e w3 ⟨rfl, hb3⟩
          have hbw' := hbw.trans (hb3.mono hbw.size)
          generalize sem (at' l (lastN l)) = r at *
          obtain ⟨⟨r0, r1, r2, r3, r4, r5⟩, rb⟩ := r
          simp only at *
          have hfin : Below w.heap.size w (w3.alloc (.cells #[.int .u8 r0, .int .u8 r1, .bool r2, .bool r3, .bool r4, .int .i64 r5] 44)) := hbw'.alloc hbw'.size _
          by_cases e12 : r0 = 12
          · subst e12
            go_wp2_with fail
            go_ret2
            exact ⟨by rw [HE.out]; rfl, hfin⟩
          by_cases e9 : r0 = 9
          · subst e9
            go_wp2_with fail
            go_ret2
            exact ⟨by rw [HE.out]; rfl, hfin⟩
          · have q12 : (r0 != 12) = true := by simp [e12]
            have q9 : (r0 != 9) = true := by simp [e9]
            go_wp2_with fail
            go_ret2
            exact ⟨by rw [HE.out, if_neg (by simp [e12, e9])]; rfl, hfin⟩
end Go.Proofs.Ytgbmeckhagklnaa
end

section
/- Decode, of the program. No statement is proved here. -/
namespace Go.Proofs.Ytgbmeckhagklnaa
open Go.RowKit
set_option linter.unusedSimpArgs false
set_option linter.unusedVariables false
theorem info24 : (Try.prog.info? 24).map (fun i => (i.zero, i.size, i.bytes)) = some (some Insn.zero.val, 5, 12) := by kernel_rfl
theorem own_keep {w w' : World} {base e size n : Nat} {v : Value} {xs : List Value} (h : w.ownsRow base e size v n xs) (hb : Below w.heap.size w w') : w'.ownsRow base e size v n xs := by
  refine ⟨h.1, ?_⟩
  rcases h.2 with h0 | ⟨g', cap', cur, hv, hb', hh, r⟩
  · exact .inl h0
  · refine .inr ⟨g', cap', cur, hv, hb', ?_, r⟩
    rw [hb.block _ (Array.getElem?_eq_some_iff.1 hh).1, hh]
theorem take_part (l : List Int) (hl : ∀ b ∈ l, isByte b) (b o j c' : Nat) (hj : 8 * j + 8 ≤ l.length) (hc : 8 ≤ c') (w' : World) (h : SAt w' w'.heap.size 1 (some ⟨b, o, none⟩) l.length (bytesV l)) :
    Calls Try.prog 33 #[.slice (some ⟨b, o + 8 * j, none⟩) 8 c'] w' fun e w'' => e = .returned (.tuple #[(at' (insns l) j).val, .int .i64 0]) ∧ Below w'.heap.size w' w'' := by
  have hlen : ((l.drop (8 * j)).take 8).length = 8 := by rw [List.length_take, List.length_drop]; omega
  obtain ⟨b', o', e, hb', hp⟩ := h.part (i := 8 * j) (m := 8) (by omega) (by omega)
  simp only [Option.some.injEq, Addr.mk.injEq, and_true] at e
  obtain ⟨rfl, rfl⟩ := e
  have ht := take_any ((l.drop (8 * j)).take 8) (fun x hx => hl x (List.mem_of_mem_drop (List.mem_of_mem_take hx))) (some ⟨b, o + 8 * j, none⟩) c' (by omega) w' (by rw [hlen]; rw [bytesV, List.map_take, List.map_drop]; exact hp)
  obtain ⟨e1, e2⟩ := insns_at (j := j) (b := l) hj
  rw [hlen, ← e1, e2] at ht
  exact ht
/-- Behind Decode. -/
def DecOk (W : World) (r : List Insn × Int × Int) (e : Ending) (w' : World) : Prop :=
  ∃ A c, e = .returned (.tuple #[.slice A r.1.length c, .int .i64 r.2.1, .int .i64 r.2.2]) ∧ SAt w' w'.heap.size 5 A r.1.length (insnsV r.1) ∧ r.1.length ≤ c ∧ Below W.heap.size W w'
theorem decM_no {b : List Int} (h : ¬ b.length % 8 = 0 ∨ 4096 < b.length) : decM b = ([], 0, 70) := by unfold decM; rw [if_pos h]
theorem decM_on {b : List Int} (h8 : b.length % 8 = 0) (h : b.length ≤ 4096) : decM b = if (checkM (insns b)).2 = 0 then (insns b, 0, 0) else ([], (checkM (insns b)).1, (checkM (insns b)).2) := by
  unfold decM; rw [if_neg (by omega)]
set_option maxRecDepth 100000 in
set_option maxHeartbeats 4000000 in
theorem decode_any (l : List Int) (hl : ∀ b ∈ l, isByte b) (A : Option Addr) (c : Nat) (hc : l.length ≤ c) (hc' : c ≤ maxLen) (w : World) (h : SAt w w.heap.size 1 A l.length (bytesV l)) :
    Calls Try.prog 38 #[.slice A l.length c] w (DecOk w (decM l)) := by
  obtain ⟨i0, hinf, hz0, hz1, hz2⟩ := info_parts info24
  unfold maxLen at hc'
  by_cases h8 : l.length % 8 = 0
  · by_cases h4 : l.length ≤ 4096
    · have q8 : ((l.length : Int) % 8) = 0 := by omega
      have hil := insns_len h8
      have hok : ∀ x ∈ insns l, x.Ok := insns_ok (n := l.length / 8) (by omega) hl
      have HD := Lib.hid (decM_on h8 h4)
      go_enter Try.func38, Try.ntmps38
      go_wp2_with fail
      go_loopw [6, 5, 7, 8] (fun k v _ _ wr => ∃ (j : Nat) (B : Option Addr) (d : Nat), 8 * j ≤ l.length ∧ k = .int .i64 (8 * j : Nat) ∧ v = .slice B j d ∧ wr.ownsRow w.heap.size 24 5 (.slice B j d) j (insnsV ((insns l).take j)) ∧ Below w.heap.size w wr) (fun k _ _ _ _ => l.length - (intOf k).toNat)
      case atStart => exact ⟨0, _, _, by omega, rfl, rfl, World.ownsRow_nil _ _ _ _, Below.refl _ _⟩
      case round =>
        clear q8
        obtain ⟨j, B, d, hj, rfl, rfl, hown, hb⟩ := hrel
        by_cases hlt : 8 * j < l.length
        · obtain ⟨b, o, rfl, hbb, hcc⟩ := h.2 (by omega)
          have ht := take_part l hl b o j (c - 8 * j) (by omega) (by omega) _ ((h.below hb).more hb.size)
          go_wp2_with fail
          refine ht.mono ?_
          rintro e w1 ⟨rfl, hb1⟩
          have hs := take_step (l := insns l) (j := j) (by omega)
          have hv := insnsV_step (l := insns l) (j := j) (by omega)
          have hown1 := (own_keep hown hb1).alloc (.cells #[.int .u8 (at' (insns l) j).op, .int .u8 (at' (insns l) j).dst, .int .u8 (at' (insns l) j).src, .int .i16 (at' (insns l) j).off, .int .i32 (at' (insns l) j).imm] 24)
          have hbw1 : Below w.heap.size w w1 := hb.trans (hb1.mono hb.size)
          have hbw2 := hbw1.alloc hbw1.size (.cells #[.int .u8 (at' (insns l) j).op, .int .u8 (at' (insns l) j).dst, .int .u8 (at' (insns l) j).src, .int .i16 (at' (insns l) j).off, .int .i32 (at' (insns l) j).imm] 24)
          clear ht hown hcc
          have hsz1 := hbw1.size
          go_wp2_with (at_builtin; refine wpList_append_box rfl (.tmp 35) (.tmp 37) 47 rfl w.heap.size 24 i0 Insn.zero.val 5 12 Try.underlying47 hinf hz0 hz1 hz2 rfl (by decide) B j d 1 _ rfl rfl (by simp) hown1 rfl ?c1 ?c2 ?c3 ?c4 ?c5)
          case c1 =>
            first
            | exact ⟨rfl, rfl, rfl, rfl, rfl⟩
            | (intro u hu
               simp at hu
               rcases hu with rfl | rfl | rfl | rfl | rfl <;> rfl)
          case c2 => simp only [maxLen]; omega
          case c3 => omega
          case c4 => simp; omega
          case c5 =>
            intro B' d' w2 h2 h3 h4 h5
            clear h3 h5
            go_wp2
            go_roundw
            case rel =>
              refine ⟨j + 1, B', d', by omega, by go_num, rfl, ?_, hbw2.trans h4⟩
              rw [hv]
              exact h2
            case measure => simp [intOf]; omega
        · have hjn : j = (insns l).length := by omega
          subst hjn
          rw [List.take_length] at hown
          have hch := check_any (insns l) hok B d (by omega) _ (SAt.own hown)
          have hcap := own_cap hown
          have hsat := SAt.own hown
          clear hown
          go_wp2_with fail
          refine hch.mono ?_
          rintro e w3 ⟨rfl, hb3⟩
          generalize checkM (insns l) = r at *
          obtain ⟨r0, r1⟩ := r
          simp only at *
          have hb4 := hb.trans (hb3.mono hb.size)
          by_cases hr : r1 = 0
          · subst hr
            go_wp2_with fail
            rw [HD.out]
            exact bodyPost_ret (v := .tuple #[.slice B (insns l).length d, .int .i64 0, .int .i64 0]) (by simp [results, Try.results38, go_sem]) rfl ⟨B, d, rfl, (hsat.below hb3).more hb3.size, hcap, hb4⟩
          · go_wp2_with fail
            rw [HD.out, if_neg hr]
            exact bodyPost_ret (v := .tuple #[.slice none 0 0, .int .i64 r0, .int .i64 r1]) (by simp [results, Try.results38, go_sem]) rfl ⟨none, 0, rfl, SAt.nil_, Nat.le_refl _, hb4⟩
    · go_enter Try.func38, Try.ntmps38
      go_wp2_with fail
      rw [decM_no (.inr (by omega))]
      exact bodyPost_ret (v := .tuple #[.slice none 0 0, .int .i64 0, .int .i64 70]) (by simp [results, Try.results38, go_sem]) rfl ⟨none, 0, rfl, SAt.nil_, Nat.le_refl _, Below.refl _ _⟩
  · have q8 : ¬ ((l.length : Int) % 8) = 0 := by omega
    go_enter Try.func38, Try.ntmps38
    go_wp2_with fail
    rw [decM_no (.inl h8)]
    exact bodyPost_ret (v := .tuple #[.slice none 0 0, .int .i64 0, .int .i64 70]) (by simp [results, Try.results38, go_sem]) rfl ⟨none, 0, rfl, SAt.nil_, Nat.le_refl _, Below.refl _ _⟩
end Go.Proofs.Ytgbmeckhagklnaa
end

section
/- Same, few, and the document's examples of layer 7. No statement is proved here. -/
namespace Go.Proofs.Ytgbmeckhagklnaa
open Go.RowKit
set_option linter.unusedSimpArgs false
set_option linter.unusedVariables false
theorem list_eq_at {a b : List Insn} (hl : a.length = b.length) (h : ∀ i, i < a.length → at' a i = at' b i) : a = b := by
  apply List.ext_getElem hl
  intro i h1 h2
  have := h i h1
  rwa [at_get h1, at_get h2] at this
set_option maxRecDepth 100000 in
set_option maxHeartbeats 4000000 in
theorem same_any (a b : List Insn) (A B : Option Addr) (c d : Nat) (hn : a.length ≤ 100000) (hm : b.length ≤ 100000) (w : World) (ha : SAt w w.heap.size 5 A a.length (insnsV a)) (hb : SAt w w.heap.size 5 B b.length (insnsV b)) :
    Calls Try.prog 40 #[.slice A a.length c, .slice B b.length d] w fun e w' => e = .returned (.bool (decide (a = b))) ∧ Below w.heap.size w w' := by
  by_cases hl : a.length = b.length
  · rw [← hl] at hb hm ⊢
    go_enter Try.func40, Try.ntmps40
    go_wp2_with fail
    go_loopw [5] (fun k wr => ∃ j : Nat, j ≤ a.length ∧ k = .int .i64 j ∧ (∀ i, i < j → at' a i = at' b i) ∧ Below w.heap.size w wr) (fun k _ => a.length - (intOf k).toNat)
    case atStart => exact ⟨0, by omega, rfl, fun i hi => absurd hi (by omega), Below.refl _ _⟩
    case round =>
      obtain ⟨j, hj, rfl, heq, hbr⟩ := hrel
      rcases Nat.lt_or_ge j a.length with hlt | hge
      · obtain ⟨p, o, rfl, hp, c0, c1, c2, c3, c4⟩ := ha.insn hlt
        obtain ⟨q, o', rfl, hq, d0, d1, d2, d3, d4⟩ := SAt.insn (l := b) (by rw [← hl]; exact hb) (show j < b.length by omega)
        replace c0 := c0 _ hbr
        replace c1 := c1 _ hbr
        replace c2 := c2 _ hbr
        replace c3 := c3 _ hbr
        replace c4 := c4 _ hbr
        replace d0 := d0 _ hbr
        replace d1 := d1 _ hbr
        replace d2 := d2 _ hbr
        replace d3 := d3 _ hbr
        replace d4 := d4 _ hbr
        have hne := neq_insn (at' a j) (at' b j)
        have hj1 : (j : Int) < (a.length : Int) := by omega
        by_cases hxy : at' a j = at' b j
        · have hd : decide (at' a j = at' b j) = true := by simp [hxy]
          rw [hd] at hne
          clear hd
          go_wp2_with fail
          go_quiet (fail)
          go_wp2_with fail
          go_roundw
          case rel =>
            refine ⟨j + 1, by omega, by go_num, fun i hi => ?_, below_drewN hbr _⟩
            rcases Nat.lt_or_ge i j with h1 | h1
            · exact heq i h1
            · obtain rfl : i = j := by omega
              exact hxy
          case measure => simp [intOf]; omega
        · have hd : decide (at' a j = at' b j) = false := by simp [hxy]
          rw [hd] at hne
          clear hd
          go_wp2_with fail
          go_quiet (fail)
          go_wp2_with fail
          go_ret
          refine ⟨?_, below_drewN hbr _⟩
          rw [decide_eq_false (show ¬ a = b from fun e => hxy (by rw [e]))]
          rfl
      · go_wp2_with fail
        go_ret
        refine ⟨?_, hbr⟩
        rw [decide_eq_true (show a = b from list_eq_at hl (fun i hi => heq i (by omega)))]
        rfl
  · have hl' : ¬ (a.length : Int) = (b.length : Int) := by omega
    go_enter Try.func40, Try.ntmps40
    go_wp2_with fail
    go_ret
    exact ⟨by rw [decide_eq_false (show ¬ a = b from fun e => hl (by rw [e]))]; rfl, Below.refl _ _⟩
set_option maxRecDepth 100000 in
theorem few_is (l : List Insn) (A : Option Addr) (c : Nat) (hc : l.length ≤ c) (hc' : c ≤ maxLen) (w : World) (h : SAt w w.heap.size 5 A l.length (insnsV l)) :
    Calls Try.prog 43 #[.slice A l.length c] w fun e w' => e = .returned (.slice A (l.take 520).length c) ∧ w' = w := by
  unfold maxLen at hc'
  have ht : (l.take 520).length = min 520 l.length := by simp
  rw [ht]
  generalize hn : l.length = n at *
  have HN := Lib.hid hn
  clear hn ht
  by_cases h0 : 520 < n
  · go_enter Try.func43, Try.ntmps43
    go_wp2_with fail
    go_ret
    refine ⟨?_, rfl⟩
    rw [show min 520 n = 520 by omega]
    rfl
  · go_enter Try.func43, Try.ntmps43
    go_wp2_with fail
    go_ret
    refine ⟨?_, rfl⟩
    rw [show min 520 n = n by omega]
    rfl
def shownB : List Int := [183, 0, 0, 0, 1, 0, 0, 0, 149, 0, 0, 0, 0, 0, 0, 0]
theorem shown_dec1 : decM shownB = ([⟨183, 0, 0, 0, 1⟩, ⟨149, 0, 0, 0, 0⟩], 0, 0) := by decide +kernel
theorem shown_dec2 : decM (shownB.take 8) = ([], 0, 73) := by decide +kernel
set_option maxRecDepth 100000 in
set_option maxHeartbeats 4000000 in
theorem shown07_any (w : World) : Calls Try.prog 37 #[] w fun e w' => e = .returned (.bool true) ∧ Below w.heap.size w w' := by
  have hsat := sat_new w 5 (bytesV shownB).toArray 1 16 rfl
  have hby : ∀ b ∈ shownB, isByte b := by unfold isByte; decide
  have h1 := decode_any shownB hby (some ⟨w.heap.size, 0, none⟩) 16 (by decide) (by decide) (w.alloc (.cells (bytesV shownB).toArray 5)) (hsat.more (by simp))
  rw [shown_dec1] at h1
  go_enter Try.func37, Try.ntmps37
  go_wp2_with fail
  refine Calls.mono h1 ?_
  rintro e w1 ⟨A, c, rfl, hs1, hc1, hb1⟩
  have hsat8 := (hsat.cut (k := 8) (by omega)).below (hb1.mono (by simp))
  have h2 := decode_any (shownB.take 8) (fun b hb => hby b (List.mem_of_mem_take hb)) (some ⟨w.heap.size, 0, none⟩) 16 (by decide) (by decide) w1 (hsat8.more (by have := hb1.size; simp at this; omega))
  rw [shown_dec2] at h2
  go_wp2_with fail
  refine Calls.mono h2 ?_
  rintro e w2 ⟨A2, c2, rfl, hs2, hc2, hb2⟩
  go_wp2_with fail
  have hsat2 := sat_new w2 24 #[.int .u8 183, .int .u8 0, .int .u8 0, .int .i16 0, .int .i32 1, .int .u8 149, .int .u8 0, .int .u8 0, .int .i16 0, .int .i32 0] 5 2 rfl
  have hsat1 := ((hs1.below hb2).more hb2.size).alloc (Nat.le_refl _) (.cells #[.int .u8 183, .int .u8 0, .int .u8 0, .int .i16 0, .int .i32 1, .int .u8 149, .int .u8 0, .int .u8 0, .int .i16 0, .int .i32 0] 24)
  have h3 := same_any [⟨183, 0, 0, 0, 1⟩, ⟨149, 0, 0, 0, 0⟩] [⟨183, 0, 0, 0, 1⟩, ⟨149, 0, 0, 0, 0⟩] A (some ⟨w2.heap.size, 0, none⟩) c 2 (by decide) (by decide) (w2.alloc (.cells #[.int .u8 183, .int .u8 0, .int .u8 0, .int .i16 0, .int .i32 1, .int .u8 149, .int .u8 0, .int .u8 0, .int .i16 0, .int .i32 0] 24)) (hsat1.more (by simp)) (hsat2.more (by simp))
  refine Calls.mono h3 ?_
  rintro e w3 ⟨rfl, hb3⟩
  have hbA : Below w.heap.size w w1 := ((Below.refl _ _).alloc (Nat.le_refl _) _).trans (hb1.mono (by simp))
  have hbB := hbA.trans (hb2.mono hbA.size)
  have hbC := hbB.alloc hbB.size (.cells #[.int .u8 183, .int .u8 0, .int .u8 0, .int .i16 0, .int .i32 1, .int .u8 149, .int .u8 0, .int .u8 0, .int .i16 0, .int .i32 0] 24)
  have hbD := hbC.trans (hb3.mono hbC.size)
  rw [decide_eq_true rfl]
  clear h1 h2 h3 hsat hsat1 hsat2 hsat8 hs1 hs2
  go_wp2_with fail
  go_ret
  exact ⟨rfl, hbD⟩
end Go.Proofs.Ytgbmeckhagklnaa
end
