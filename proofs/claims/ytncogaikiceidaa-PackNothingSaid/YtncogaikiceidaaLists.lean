/- The program's walks over instructions answer as the plain ones do. No statement is proved here. -/
import Derived.Test.YtncogaikiceidaaList
import Derived.Test.YtncogaikiceidaaSem
import Derived.Deep.OwnRows
import Derived.Test.YtncogaikiceidaaInsn1
section
/- Next, Starts, to, Target, whole, of the program. No statement is proved here. -/
namespace Go.Proofs.Ytncogaikiceidaa
set_option maxRecDepth 100000
open Go.RowKit
set_option linter.unusedSimpArgs false
set_option linter.unusedVariables false
theorem next_any (l : List Insn) (A : Option Addr) (c : Nat) (i : Int) (hn : l.length ≤ 100000) (hi0 : -9223372036854775808 ≤ i) (hi1 : i ≤ 9223372036854775807) (w : World) (h : SAt w w.heap.size 5 A l.length (insnsV l)) :
    Calls Try.prog 24 #[.slice A l.length c, .int .i64 i] w fun e w' => e = .returned (.int .i64 (nextI l i)) ∧ Below w.heap.size w w' := by
  by_cases h0 : i < 0
  · go_enter Try.func24, Try.ntmps24
    go_wp2_with fail
    go_ret
    exact ⟨by simp [nextI, h0], Below.refl _ _⟩
  by_cases h1 : (l.length : Int) ≤ i
  · go_enter Try.func24, Try.ntmps24
    go_wp2_with fail
    go_ret
    exact ⟨by simp [nextI, h1], Below.refl _ _⟩
  obtain ⟨n, rfl⟩ := Int.eq_ofNat_of_zero_le (show 0 ≤ i by omega)
  have hlt : n < l.length := by omega
  obtain ⟨b, o, rfl, hb, c0, c1, c2, c3, c4⟩ := h.insn hlt
  have hB : Below w.heap.size w w := Below.refl _ _
  have hw := fun w => wide_any (at' l n) w
  have hr := nextI_at hlt
  cases ho : ((at' l n).op == 24)
  all_goals
    go_enter Try.func24, Try.ntmps24
    go_wp2_with fail
    refine (hw _).mono ?_
    rintro e w1 ⟨rfl, hb1⟩
    go_wp2_with fail
    go_ret
    exact ⟨by rw [hr, stepN]; simp at ho; simp [ho], hb1⟩
theorem info4 : (Try.prog.info? 4).map (fun i => (i.zero, i.size, i.bytes)) = some (some (.bool false), 1, 1) := by kernel_rfl
def boolsV (l : List Bool) : List Value := l.map Value.bool
def marks (l : List Insn) (j : Nat) : List Value := (List.range l.length).map fun k => Value.bool (decide (k < j) && SB l k)
theorem marks_length (l : List Insn) (j : Nat) : (marks l j).length = l.length := by simp [marks]
theorem marks_get {l : List Insn} {j k : Nat} (h : k < l.length) : (marks l j)[k]? = some (.bool (decide (k < j) && SB l k)) := by
  simp [marks, List.getElem?_map, List.getElem?_range h]
theorem marks_all {l : List Insn} {j : Nat} (h : l.length ≤ j) : marks l j = boolsV (startsL l) := by
  apply List.ext_getElem?
  intro k
  rcases Nat.lt_or_ge k l.length with hk | hk
  · rw [marks_get hk]
    simp [boolsV, startsL, List.getElem?_range hk, show k < j by omega]
  · rw [List.getElem?_eq_none (by rw [marks_length]; exact hk), List.getElem?_eq_none (by simp [boolsV, startsL]; exact hk)]
theorem marks_set {l : List Insn} {j : Nat} (hj : j < l.length) (hs : SB l j = true) : (marks l j).set j (.bool true) = marks l (stepN l j) := by
  apply List.ext_getElem?
  intro k
  rcases Nat.lt_or_ge k l.length with hk | hk
  · rw [marks_get hk, List.getElem?_set]
    have h1 := step_gt l j
    split
    · rename_i e
      subst e
      rw [if_pos (by rw [marks_length]; exact hj)]
      simp [hs, h1]
    · rename_i e
      rw [marks_get hk]
      congr 2
      rcases Nat.lt_or_ge k j with h2 | h2
      · rw [decide_eq_true h2, decide_eq_true (show k < stepN l j by omega)]
      · rw [decide_eq_false (show ¬ k < j by omega)]
        rcases Nat.lt_or_ge k (stepN l j) with h3 | h3
        · rw [SB_between hs (by omega) h3]; simp
        · rw [decide_eq_false (show ¬ k < stepN l j by omega)]
  · rw [List.getElem?_eq_none (by rw [List.length_set, marks_length]; exact hk), List.getElem?_eq_none (by rw [marks_length]; exact hk)]
theorem own_below {w w' : World} {base e size g n cap B : Nat} {xs : List Value} (h : w.ownsRow base e size (.slice (some ⟨g, 0, none⟩) n cap) n xs) (hb : Below B w w') (hg : g < B) : w'.ownsRow base e size (.slice (some ⟨g, 0, none⟩) n cap) n xs := by
  refine ⟨h.1, ?_⟩
  rcases h.2 with ⟨hv, _⟩ | ⟨g', cap', cur, hv, hb', hh, r⟩
  · cases hv
  · refine .inr ⟨g', cap', cur, hv, hb', ?_, r⟩
    injection hv with hA
    injection hA with hA
    injection hA with hA
    subst hA
    rw [hb.block _ hg, hh]
/-- Behind Starts. -/
def StartsOk (W : World) (l : List Insn) (e : Ending) (w' : World) : Prop :=
  ∃ A c, e = .returned (.slice A l.length c) ∧ SAt w' w'.heap.size 1 A l.length (boolsV (startsL l)) ∧ Below W.heap.size W w'
theorem next_at (l : List Insn) (A : Option Addr) (c : Nat) (j : Nat) (hn : l.length ≤ 100000) (hj : j < l.length) (w w' : World) (h : SAt w w.heap.size 5 A l.length (insnsV l)) (hb : Below w.heap.size w w') :
    Calls Try.prog 24 #[.slice A l.length c, .int .i64 j] w' fun e w'' => e = .returned (.int .i64 (stepN l j : Nat)) ∧ Below w'.heap.size w' w'' := by
  have := next_any l A c j hn (by omega) (by omega) w' ((h.below hb).more hb.size)
  rwa [nextI_at hj] at this
theorem starts_any (l : List Insn) (A : Option Addr) (c : Nat) (hn : l.length ≤ 100000) (w : World) (h : SAt w w.heap.size 5 A l.length (insnsV l)) : Calls Try.prog 46 #[.slice A l.length c] w (StartsOk w l) := by
  have hmk := run_make_row' (P := Try.prog) 49 4 (.bool false) 1 Try.underlying49 info4 rfl .i64 .i64 l.length (by omega) (by omega)
  have hown0 := own_new w w.heap.size (madeCells #[.bool false] l.length) 4 1 l.length l.length w.heap.size rfl (Nat.le_refl _) (Nat.le_refl _) (by simp only [maxLen]; omega) (by simp [madeCells])
  have hm0 : ((madeCells #[Value.bool false] l.length).toList.take (l.length * 1)) = marks l 0 := by
    rw [toList_madeCells_one, Nat.mul_one, List.take_of_length_le (by simp)]
    apply List.ext_getElem?
    intro k
    rcases Nat.lt_or_ge k l.length with hk | hk
    · rw [marks_get hk, List.getElem?_replicate, if_pos hk]
      simp
    · rw [List.getElem?_eq_none (by simpa using hk), List.getElem?_eq_none (by rw [marks_length]; exact hk)]
  rw [hm0] at hown0
  have hb0 : Below w.heap.size w (w.alloc (.cells (madeCells #[.bool false] l.length) 4)) := (Below.refl _ _).alloc (Nat.le_refl _) _
  go_enter Try.func46, Try.ntmps46
  go_wp2_with fail
  generalize madeCells #[Value.bool false] l.length = mc at *
  go_loopw [4] (fun k wr => ∃ j : Nat, SB l j = true ∧ j ≤ l.length + 1 ∧ k = .int .i64 j ∧ wr.ownsRow w.heap.size 4 1 (.slice (some ⟨w.heap.size, 0, none⟩) l.length l.length) l.length (marks l j) ∧ w.heap.size < wr.heap.size ∧ Below w.heap.size w wr) (fun k _ => l.length + 2 - (intOf k).toNat)
  case atStart => exact ⟨0, rfl, by omega, rfl, hown0, by simp, hb0⟩
  case round =>
    obtain ⟨j, hs, hj, rfl, hown, hsz, hb⟩ := hrel
    rcases Nat.lt_or_ge j l.length with hlt | hge
    · have hc := hown.cellAt j (by omega)
      rw [marks_get hlt] at hc
      have hf := hown.frozenAt j
      obtain ⟨hst, -⟩ := hown.stored j (.bool true)
      rw [marks_set hlt hs] at hst
      have hb2 : Below w.heap.size w (wr.setCell ⟨w.heap.size, j, none⟩ (.bool true)) := hb.setCell (Nat.le_refl _) _
      have hnx := next_at l A c j hn hlt w _ h hb2
      have hgt := step_gt l j
      have hle := step_le l j
      clear hown hmk hown0
      go_wp2_with fail
      refine hnx.mono ?_
      rintro e w2 ⟨rfl, hb3⟩
      go_wp2_with fail
      go_roundw
      case rel => exact ⟨stepN l j, SB_step hs, by omega, rfl, own_below hst hb3 (by simpa using hsz), Nat.lt_of_lt_of_le hsz (by simpa using hb3.size), hb2.trans (hb3.mono (by simpa using Nat.le_of_lt hsz))⟩
      case measure => simp [intOf]; omega
    · go_wp2_with fail
      go_ret
      refine ⟨_, _, rfl, ?_, hb⟩
      rw [← marks_all hge]
      exact SAt.own hown
theorem to_any (l : List Insn) (hl : ∀ x ∈ l, x.Ok) (A : Option Addr) (c : Nat) (hn : l.length ≤ 100000) (n : Nat) (hlt : n < l.length) (w : World) (h : SAt w w.heap.size 5 A l.length (insnsV l)) :
    Calls Try.prog 56 #[.slice A l.length c, .int .i64 n] w fun e w' => e = .returned (.tuple #[.int .i64 (toM l n).1, .bool (toM l n).2]) ∧ Below w.heap.size w w' := by
  obtain ⟨b, o, rfl, hb, c0, c1, c2, c3, c4⟩ := h.insn hlt
  have hok := at_ok hl n
  obtain ⟨-, -, -, -, -, -, o0, o1, i0, i1⟩ := hok
  have hs := fun w => sem_any (at' l n) (at_ok hl n) w
  have hB : Below w.heap.size w w := Below.refl _ _
  have hr : toM l n = if (sem (at' l n)).1.kind ≠ 9 ∧ (sem (at' l n)).1.kind ≠ 10 then (0, false)
    else if (at' l n).op = 6 then ((n : Int) + 1 + (at' l n).imm, true) else ((n : Int) + 1 + (at' l n).off, true) := rfl
  have HR := Lib.hid hr
  clear hr
  go_enter Try.func56, Try.ntmps56
  go_wp2_with fail
  refine (hs _).mono ?_
  rintro e w1 ⟨rfl, hb1⟩
  generalize sem (at' l n) = r at *
  obtain ⟨⟨r0, r1, r2, r3, r4, r5⟩, rb⟩ := r
  simp only at *
  have hs1 := hb1.size
  have hfin : Below w.heap.size w (w1.alloc (.cells #[.int .u8 r0, .int .u8 r1, .bool r2, .bool r3, .bool r4, .int .i64 r5] 42)) := hb1.alloc hs1 _
  by_cases h9 : r0 = 9
  · subst h9
    cases ho : ((at' l n).op == 6)
    · go_wp2_with fail
      go_ret2
      have ho' : ¬ (at' l n).op = 6 := by simpa using ho
      refine ⟨?_, hfin⟩
      rw [HR.out]
      simp [ho']
    · go_wp2_with fail
      go_ret2
      have ho' : (at' l n).op = 6 := by simpa using ho
      refine ⟨?_, hfin⟩
      rw [HR.out]
      simp [ho']
  by_cases h10 : r0 = 10
  · subst h10
    cases ho : ((at' l n).op == 6)
    · go_wp2_with fail
      go_ret2
      have ho' : ¬ (at' l n).op = 6 := by simpa using ho
      refine ⟨?_, hfin⟩
      rw [HR.out]
      simp [ho']
    · go_wp2_with fail
      go_ret2
      have ho' : (at' l n).op = 6 := by simpa using ho
      refine ⟨?_, hfin⟩
      rw [HR.out]
      simp [ho']
  · have q9 : (r0 != 9) = true := by simp [h9]
    have q10 : (r0 != 10) = true := by simp [h10]
    go_wp2_with fail
    all_goals
      go_ret2
      refine ⟨?_, hfin⟩
      rw [HR.out]
      simp [h9, h10]
theorem target_any (l : List Insn) (hl : ∀ x ∈ l, x.Ok) (A : Option Addr) (c : Nat) (hn : l.length ≤ 100000) (i : Int) (hi0 : -9223372036854775808 ≤ i) (hi1 : i ≤ 9223372036854775807) (w : World) (h : SAt w w.heap.size 5 A l.length (insnsV l)) :
    Calls Try.prog 49 #[.slice A l.length c, .int .i64 i] w fun e w' => e = .returned (.tuple #[.int .i64 (targetM l i).1, .bool (targetM l i).2]) ∧ Below w.heap.size w w' := by
  by_cases h0 : i < 0
  · go_enter Try.func49, Try.ntmps49
    go_wp2_with fail
    go_ret2
    exact ⟨by simp [targetM, h0], Below.refl _ _⟩
  by_cases h1 : (l.length : Int) ≤ i
  · go_enter Try.func49, Try.ntmps49
    go_wp2_with fail
    go_ret2
    exact ⟨by simp [targetM, h1], Below.refl _ _⟩
  obtain ⟨n, rfl⟩ := Int.eq_ofNat_of_zero_le (show 0 ≤ i by omega)
  have hlt : n < l.length := by omega
  have ht := to_any l hl A c hn n hlt w h
  have hr : targetM l (n : Int) = if (toM l n).2 = false ∨ (toM l n).1 < 0 ∨ (l.length : Int) ≤ (toM l n).1 then (0, false) else ((toM l n).1, true) := by
    unfold targetM
    rw [if_neg (by omega)]
    simp
  have HR := Lib.hid hr
  clear hr
  go_enter Try.func49, Try.ntmps49
  go_wp2_with fail
  refine ht.mono ?_
  rintro e w1 ⟨rfl, hb1⟩
  clear ht
  generalize toM l n = r at *
  obtain ⟨t, rb⟩ := r
  simp only at *
  cases rb
  · go_wp2_with fail
    go_ret2
    exact ⟨by rw [HR.out]; simp, hb1⟩
  by_cases h2 : t < 0
  · go_wp2_with fail
    go_ret2
    exact ⟨by rw [HR.out]; simp [h2], hb1⟩
  by_cases h3 : (l.length : Int) ≤ t
  · go_wp2_with fail
    go_ret2
    exact ⟨by rw [HR.out]; simp [h3], hb1⟩
  · go_wp2_with fail
    go_ret2
    exact ⟨by rw [HR.out]; simp [show ¬ t < 0 by omega, show ¬ (l.length : Int) ≤ t by omega], hb1⟩
theorem whole_any (l : List Insn) (hl : ∀ x ∈ l, x.Ok) (A : Option Addr) (c : Nat) (hn : l.length ≤ 100000) (n : Nat) (hlt : n < l.length) (w : World) (h : SAt w w.heap.size 5 A l.length (insnsV l)) :
    Calls Try.prog 55 #[.slice A l.length c, .int .i64 n] w fun e w' => e = .returned (.bool (wholeB l n)) ∧ Below w.heap.size w w' := by
  have h' := h
  obtain ⟨b, o, rfl, hb, c0, c1, c2, c3, c4⟩ := h.insn hlt
  have hs := fun w => sem_any (at' l n) (at_ok hl n) w
  have hwd := fun w => wide_any (at' l n) w
  have hB : Below w.heap.size w w := Below.refl _ _
  have hr : wholeB l n = ((sem (at' l n)).2 && (!((at' l n).op == 24) || decide (n + 1 < l.length) && decide ((if (sem (at' l n)).1.kind = 3 then noImm (at' l (n + 1)) else at' l (n + 1)) = Insn.zero))) := rfl
  have HR := Lib.hid hr
  clear hr
  go_enter Try.func55, Try.ntmps55
  go_wp2_with fail
  refine (hs _).mono ?_
  rintro e w1 ⟨rfl, hb1⟩
  generalize sem (at' l n) = r at *
  obtain ⟨⟨r0, r1, r2, r3, r4, r5⟩, rb⟩ := r
  simp only at *
  have hs1 := hb1.size
  have hfin : Below w.heap.size w (w1.alloc (.cells #[.int .u8 r0, .int .u8 r1, .bool r2, .bool r3, .bool r4, .int .i64 r5] 42)) := hb1.alloc hs1 _
  cases rb
  · go_wp2_with fail
    go_ret
    exact ⟨by rw [HR.out]; rfl, hfin⟩
  go_wp2_with fail
  refine (hwd _).mono ?_
  rintro e w2 ⟨rfl, hb2⟩
  have hs2 := hb2.size
  simp at hs2
  have hfin2 : Below w.heap.size w w2 := hfin.trans (hb2.mono (by simp; omega))
  have g0 : w2.cell? ⟨w1.heap.size, 0, none⟩ = some (.int .u8 r0) := by
    rw [hb2.cell (by simp)]
    simp [go_sem]
  have g0' : ∀ w', Below w2.heap.size w2 w' → w'.cell? ⟨w1.heap.size, 0, none⟩ = some (.int .u8 r0) := fun w' hb => (hb.cell (p := ⟨w1.heap.size, 0, none⟩) (by simp; omega)).trans g0
  have hB2 : Below w2.heap.size w2 w2 := Below.refl _ _
  clear g0
  cases ho : ((at' l n).op == 24)
  · go_wp2_with fail
    go_ret
    exact ⟨by rw [HR.out, ho]; rfl, hfin2⟩
  rw [ho] at HR
  by_cases h1 : n + 1 < l.length
  · obtain ⟨b', o', e', hb', d0, d1, d2, d3, d4⟩ := h'.insn h1
    simp only [Option.some.injEq, Addr.mk.injEq, and_true] at e'
    obtain ⟨rfl, rfl⟩ := e'
    have heq := eq_insn
    have hi1 : ((n : Int) + 1).toNat = n + 1 := by omega
    by_cases h3 : r0 = 3
    · subst h3
      have e1 := fun w => eq_insn (noImm (at' l (n + 1))) Insn.zero w
      simp only [noImm, Insn.zero] at e1
      go_wp2_with fail
      go_ret
      exact ⟨by rw [HR.out]; simp [h1, noImm, Insn.zero], hfin2.alloc (by omega) _⟩
    · have e1 := fun w => eq_insn (at' l (n + 1)) Insn.zero w
      simp only [Insn.zero] at e1
      go_wp2_with fail
      go_ret
      exact ⟨by rw [HR.out]; simp [h1, h3, Insn.zero]; exact decide_eq_decide.2 Iff.rfl, hfin2.alloc (by omega) _⟩
  · go_wp2_with fail
    go_ret
    exact ⟨by rw [HR.out]; simp [h1], hfin2⟩
end Go.Proofs.Ytncogaikiceidaa
end

section
/- Check, of the program. No statement is proved here. -/
namespace Go.Proofs.Ytncogaikiceidaa
set_option maxRecDepth 100000
open Go.RowKit
set_option linter.unusedSimpArgs false
set_option linter.unusedVariables false
theorem SAt.flag {w : World} {B : Nat} {A : Option Addr} {l : List Insn} (h : SAt w B 1 A l.length (boolsV (startsL l))) (h0 : 0 < l.length) :
    ∃ b o, A = some ⟨b, o, none⟩ ∧ b < B ∧ ∀ k, k < l.length → ∀ w', Below B w w' → w'.cell? ⟨b, o + k, none⟩ = some (.bool (SB l k)) := by
  obtain ⟨b, o, rfl, hb, hc⟩ := h.2 h0
  refine ⟨b, o, rfl, hb, fun k hk w' hw => ?_⟩
  rw [hw.cell hb]
  exact hc k _ (by simp [boolsV, startsL, List.getElem?_range hk])
theorem checkM_I {l : List Insn} {j : Nat} (h0 : 1 ≤ l.length) (h1 : l.length ≤ 512) (hj : j < l.length) (hb : badI l j = true) (hne : ∀ i, i < j → badI l i = false) : checkM l = ((j : Int), 71) := by
  unfold checkM
  rw [if_neg (by omega), firstB_some hj hb hne]
theorem checkM_J {l : List Insn} {j : Nat} (h0 : 1 ≤ l.length) (h1 : l.length ≤ 512) (hI : ∀ i, i < l.length → badI l i = false) (hj : j < l.length) (hb : badJ l j = true) (hne : ∀ i, i < j → badJ l i = false) : checkM l = ((j : Int), 72) := by
  unfold checkM
  rw [if_neg (by omega), firstB_none hI]
  simp only
  rw [firstB_some hj hb hne]
theorem checkM_E {l : List Insn} (h0 : 1 ≤ l.length) (h1 : l.length ≤ 512) (hI : ∀ i, i < l.length → badI l i = false) (hJ : ∀ i, i < l.length → badJ l i = false) : checkM l = if endB l then (0, 0) else ((lastN l : Int), 73) := by
  unfold checkM
  rw [if_neg (by omega), firstB_none hI]
  simp only
  rw [firstB_none hJ]
theorem lt_step {p : Nat → Bool} {j : Nat} (h : ∀ i, i < j → p i = false) (hj : p j = false) : ∀ i, i < j + 1 → p i = false := by
  intro i hi
  rcases Nat.lt_or_ge i j with h1 | h1
  · exact h i h1
  · obtain rfl : i = j := by omega
    exact hj
theorem lastN_lt {l : List Insn} (h : 1 ≤ l.length) : lastN l < l.length := by unfold lastN; split <;> omega
/-- Behind Check. -/
def TwoInts (W : World) (r : Int × Int) (e : Ending) (w' : World) : Prop := e = .returned (.tuple #[.int .i64 r.1, .int .i64 r.2]) ∧ Below W.heap.size W w'
set_option maxHeartbeats 4000000 in
theorem check_any (l : List Insn) (hl : ∀ x ∈ l, x.Ok) (A : Option Addr) (c : Nat) (hn : l.length ≤ 100000) (w : World) (h : SAt w w.heap.size 5 A l.length (insnsV l)) :
    Calls Try.prog 45 #[.slice A l.length c] w (TwoInts w (checkM l)) := by
  by_cases h1 : l.length < 1
  · go_enter Try.func45, Try.ntmps45
    go_wp2_with fail
    go_ret2
    exact ⟨by unfold checkM; rw [if_pos (.inl h1)]; rfl, Below.refl _ _⟩
  by_cases h512 : 512 < l.length
  · go_enter Try.func45, Try.ntmps45
    go_wp2_with fail
    go_ret2
    exact ⟨by unfold checkM; rw [if_pos (.inr h512)]; rfl, Below.refl _ _⟩
  have h1' : 1 ≤ l.length := by omega
  have h512' : l.length ≤ 512 := by omega
  go_enter Try.func45, Try.ntmps45
  go_wp2_with fail
  refine (starts_any l A c hn w h).mono ?_
  rintro e w2 ⟨A', c', rfl, hst, hb2⟩
  obtain ⟨b', o', rfl, hb', hfl⟩ := hst.flag (by omega)
  clear hst
  go_wp2_with fail
  go_loopw [26, 5, 6, 7] (fun k t5 _ _ wr => ∃ (j : Nat) (e0 : Nat), j ≤ l.length ∧ k = .int .i64 j ∧ t5 = .int .i64 e0 ∧ LastOf l j e0 ∧ (∀ i, i < j → badI l i = false) ∧ Below w2.heap.size w2 wr) (fun k _ _ _ _ => l.length - (intOf k).toNat)
  case atStart => exact ⟨0, 0, by omega, rfl, rfl, .inl ⟨rfl, rfl⟩, fun i hi => absurd hi (by omega), Below.refl _ _⟩
  case round =>
    obtain ⟨j, e0, hj, rfl, rfl, hlast, hI, hbr⟩ := hrel
    have hbw : Below w.heap.size w _ := hb2.trans (hbr.mono hb2.size)
    rcases Nat.lt_or_ge j l.length with hlt | hge
    · have hcell := hfl j hlt _ hbr
      cases hs : SB l j
      · rw [hs] at hcell
        go_wp2_with fail
        go_roundw
        case rel => exact ⟨j + 1, e0, by omega, by go_num, rfl, lastOf_step hlast hs, lt_step hI (by simp [badI, hs]), hbr⟩
        case measure => simp [intOf]; omega
      · rw [hs] at hcell
        go_wp2_with fail
        refine (whole_any l hl A c hn j hlt _ ((h.below hbw).more hbw.size)).mono ?_
        rintro e w3 ⟨rfl, hb3⟩
        have hb3' := hbr.trans (hb3.mono hbr.size)
        cases hw : wholeB l j
        · go_wp2_with fail
          go_ret2
          exact ⟨by rw [checkM_I h1' h512' hlt (by simp [badI, hs, hw]) hI]; rfl, hbw.trans (hb3.mono hbw.size)⟩
        · go_wp2_with fail
          go_roundw
          case rel => exact ⟨j + 1, j, by omega, by go_num, rfl, lastOf_here hs, lt_step hI (by simp [badI, hw]), hb3'⟩
          case measure => simp [intOf]; omega
    · obtain rfl : j = l.length := by omega
      have he0 := lastOf_all (by omega) hlast
      subst he0
      have hel := lastN_lt h1'
      go_wp2_with fail
      go_loopw [44, 8, 9, 10, 11] (fun k _ _ _ _ wr => ∃ (j : Nat), j ≤ l.length ∧ k = .int .i64 j ∧ (∀ i, i < j → badJ l i = false) ∧ Below w2.heap.size w2 wr) (fun k _ _ _ _ _ => l.length - (intOf k).toNat)
      case atStart => exact ⟨0, by omega, rfl, fun i hi => absurd hi (by omega), hbr⟩
      case round =>
        clear hbr hbw
        obtain ⟨j, hj, rfl, hJ, hbr⟩ := hrel
        have hbw : Below w.heap.size w _ := hb2.trans (hbr.mono hb2.size)
        rcases Nat.lt_or_ge j l.length with hlt | hge
        · have hcell := hfl j hlt _ hbr
          cases hs : SB l j
          · rw [hs] at hcell
            go_wp2_with fail
            go_roundw
            case rel => exact ⟨j + 1, by omega, by go_num, lt_step hJ (by simp [badJ, hs]), hbr⟩
            case measure => simp [intOf]; omega
          · rw [hs] at hcell
            go_wp2_with fail
            refine (to_any l hl A c hn j hlt _ ((h.below hbw).more hbw.size)).mono ?_
            rintro e w3 ⟨rfl, hb3⟩
            have hb3' := hbr.trans (hb3.mono hbr.size)
            have hbw' := hbw.trans (hb3.mono hbw.size)
            have hbj : badJ l j = ((toM l j).2 && !(decide (0 ≤ (toM l j).1) && (decide ((toM l j).1 < l.length) && SB l (toM l j).1.toNat))) := by simp [badJ, hs]
            have HJ := Lib.hid hbj
            clear hbj
            generalize toM l j = r at *
            obtain ⟨t, rb⟩ := r
            simp only at *
            cases rb
            · go_wp2_with fail
              go_roundw
              case rel => exact ⟨j + 1, by omega, by go_num, lt_step hJ (by rw [HJ.out]; simp), hb3'⟩
              case measure => simp [intOf]; omega
            by_cases ht0 : t < 0
            · go_wp2_with fail
              go_ret2
              exact ⟨by rw [checkM_J h1' h512' hI hlt (by rw [HJ.out]; simp; omega) hJ]; rfl, hbw'⟩
            by_cases ht1 : (l.length : Int) ≤ t
            · go_wp2_with fail
              go_ret2
              exact ⟨by rw [checkM_J h1' h512' hI hlt (by rw [HJ.out]; simp; omega) hJ]; rfl, hbw'⟩
            obtain ⟨tn, rfl⟩ := Int.eq_ofNat_of_zero_le (show 0 ≤ t by omega)
            have htl : tn < l.length := by omega
            have hcell' := hfl tn htl _ hb3'
            cases hst : SB l tn
            · rw [hst] at hcell'
              go_wp2_with fail
              go_ret2
              exact ⟨by rw [checkM_J h1' h512' hI hlt (by rw [HJ.out]; simp [hst]) hJ]; rfl, hbw'⟩
            · rw [hst] at hcell'
              go_wp2_with fail
              go_roundw
              case rel => exact ⟨j + 1, by omega, by go_num, lt_step hJ (by rw [HJ.out]; simp [hst, htl]), hb3'⟩
              case measure => simp [intOf]; omega
        · obtain rfl : j = l.length := by omega
          obtain ⟨b, o, rfl, hb, c0, c1, c2, c3, c4⟩ := h.insn hel
          have hse := fun w => sem_any (at' l (lastN l)) (at_ok hl (lastN l)) w
          have hE := checkM_E h1' h512' hI hJ
          have he : endB l = ((sem (at' l (lastN l))).1.kind == 12 || (sem (at' l (lastN l))).1.kind == 9) := rfl
          have HE := Lib.hid (hE.trans (by rw [he]))
          clear hE he
          go_wp2_with fail
          refine (hse _).mono ?_
          rintro e w3 ⟨rfl, hb3⟩
          have hbw' := hbw.trans (hb3.mono hbw.size)
          generalize sem (at' l (lastN l)) = r at *
          obtain ⟨⟨r0, r1, r2, r3, r4, r5⟩, rb⟩ := r
          simp only at *
          have hfin : Below w.heap.size w (w3.alloc (.cells #[.int .u8 r0, .int .u8 r1, .bool r2, .bool r3, .bool r4, .int .i64 r5] 42)) := hbw'.alloc hbw'.size _
          by_cases e12 : r0 = 12
          · subst e12
            go_wp2_with fail
            go_ret2
            exact ⟨by rw [HE.out]; rfl, hfin⟩
          by_cases e9 : r0 = 9
          · subst e9
            go_wp2_with fail
            go_ret2
            exact ⟨by rw [HE.out]; rfl, hfin⟩
          · have q12 : (r0 != 12) = true := by simp [e12]
            have q9 : (r0 != 9) = true := by simp [e9]
            go_wp2_with fail
            go_ret2
            exact ⟨by rw [HE.out, if_neg (by simp [e12, e9])]; rfl, hfin⟩
end Go.Proofs.Ytncogaikiceidaa
end

section
/- Decode, of the program. No statement is proved here. -/
namespace Go.Proofs.Ytncogaikiceidaa
set_option maxRecDepth 100000
open Go.RowKit
set_option linter.unusedSimpArgs false
set_option linter.unusedVariables false
theorem info24 : (Try.prog.info? 40).map (fun i => (i.zero, i.size, i.bytes)) = some (some Insn.zero.val, 5, 12) := by kernel_rfl
theorem own_keep {w w' : World} {base e size n : Nat} {v : Value} {xs : List Value} (h : w.ownsRow base e size v n xs) (hb : Below w.heap.size w w') : w'.ownsRow base e size v n xs := by
  refine ⟨h.1, ?_⟩
  rcases h.2 with h0 | ⟨g', cap', cur, hv, hb', hh, r⟩
  · exact .inl h0
  · refine .inr ⟨g', cap', cur, hv, hb', ?_, r⟩
    rw [hb.block _ (Array.getElem?_eq_some_iff.1 hh).1, hh]
end Go.Proofs.Ytncogaikiceidaa
end

section
/- Same, few, and the document's examples of layer 7. No statement is proved here. -/
namespace Go.Proofs.Ytncogaikiceidaa
set_option maxRecDepth 100000
open Go.RowKit
set_option linter.unusedSimpArgs false
set_option linter.unusedVariables false
theorem list_eq_at {a b : List Insn} (hl : a.length = b.length) (h : ∀ i, i < a.length → at' a i = at' b i) : a = b := by
  apply List.ext_getElem hl
  intro i h1 h2
  have := h i h1
  rwa [at_get h1, at_get h2] at this
end Go.Proofs.Ytncogaikiceidaa
end
