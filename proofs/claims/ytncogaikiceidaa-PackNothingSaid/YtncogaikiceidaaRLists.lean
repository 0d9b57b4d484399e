/- What an instruction does, by the reference. No statement is proved here. -/
import Derived.Test.YtncogaikiceidaaRWhatA
import Derived.Test.YtncogaikiceidaaRWhatB
import Derived.Test.YtncogaikiceidaaLists
section
namespace Go.Proofs.Ytncogaikiceidaa
open Go.RowKit
set_option linter.unusedSimpArgs false
set_option linter.unusedVariables false
set_option linter.unnecessarySimpa false
theorem rwhat_any (x : Insn) (hx : x.Ok) (w : World) : Calls Try.prog 19 #[x.val] w (WhatAnd w (rwhatM x)) := by
  by_cases hA : 10 < x.dst
  · exact rwhat_A x hx w hA (by unfold rwhatM; rw [if_pos (.inl hA)])
  by_cases hB : 10 < x.src
  · exact rwhat_B x hx w ⟨hA, hB⟩ (by unfold rwhatM; rw [if_pos (.inr hB)])
  have hd : ¬ (10 < x.dst ∨ 10 < x.src) := by omega
  cases hk : List.contains [212, 220, 215, 24, 5, 6, 133, 149] x.op
  · have e : rwhatM x = if x.op % 8 = 4 ∨ x.op % 8 = 7 then rarithM x
      else if x.op % 8 = 5 ∨ x.op % 8 = 6 then (⟨10, x.op / 16 * 16, x.op % 8 == 5, regB x, false, 0⟩, [16, 32, 48, 64, 80, 96, 112, 160, 176, 192, 208].contains (x.op / 16 * 16) && onlyB x (regB x) true (!regB x))
      else rmemoryM x := by
      unfold rwhatM
      rw [if_neg hd, if_neg (by rw [hk]; decide)]
    by_cases c4 : x.op % 8 = 4
    · exact rwhat_E4 x hx w ⟨hA, hB, hk, c4⟩ (by rw [e, if_pos (.inl c4)])
    by_cases c7 : x.op % 8 = 7
    · exact rwhat_E7 x hx w ⟨hA, hB, hk, c7⟩ (by rw [e, if_pos (.inr c7)])
    by_cases c5 : x.op % 8 = 5
    · cases h2 : List.contains [16, 32, 48, 64, 80, 96, 112, 160, 176, 192, 208] (x.op / 16 * 16)
      · exact rwhat_n5 x hx w ⟨hA, hB, hk, c5, h2⟩ (by rw [e, if_neg (by omega), if_pos (.inl c5), h2]; rfl)
      · exact rwhat_y5 x hx w ⟨hA, hB, hk, c5, h2⟩ (by rw [e, if_neg (by omega), if_pos (.inl c5), h2]; rfl)
    by_cases c6 : x.op % 8 = 6
    · cases h2 : List.contains [16, 32, 48, 64, 80, 96, 112, 160, 176, 192, 208] (x.op / 16 * 16)
      · exact rwhat_n6 x hx w ⟨hA, hB, hk, c6, h2⟩ (by rw [e, if_neg (by omega), if_pos (.inr c6), h2]; rfl)
      · exact rwhat_y6 x hx w ⟨hA, hB, hk, c6, h2⟩ (by rw [e, if_neg (by omega), if_pos (.inr c6), h2]; rfl)
    · exact rwhat_H x hx w ⟨hA, hB, hk, c4, c5, c6, c7⟩ (by rw [e, if_neg (by omega), if_neg (by omega)])
  · exact rwhat_C x hx w ⟨hA, hB, hk⟩ (by unfold rwhatM; rw [if_neg hd, if_pos hk])
set_option maxRecDepth 100000 in
set_option maxHeartbeats 16000000 in
theorem rsem_any (x : Insn) (hx : x.Ok) (w : World) : Calls Try.prog 6 #[x.val] w (WhatAnd w (sem x)) := by
  obtain ⟨f0, f1, f2, f3, f4⟩ := box_two x w What.zero.obj
  obtain ⟨z0, z1, z2, z3, z4, z5⟩ := box44 (W := (w.alloc x.obj).alloc What.zero.obj) (g := w.heap.size + 1) (B := w.heap.size + 2) What.zero (by omega) (heap_two_new _ _ _)
  have hfz := thaw44 (W := (w.alloc x.obj).alloc What.zero.obj) (g := w.heap.size + 1) (B := w.heap.size + 2) What.zero (by omega) (heap_two_new _ _ _)
  have hsz := size_two w x.obj What.zero.obj
  have hb := below_two w x.obj What.zero.obj
  simp only [What.zero] at f0 f1 f2 f3 f4 z0 z1 z2 z3 z4 z5 hfz hsz hb
  have ccall := fun w => rwhat_any x hx w
  go_enter Try.func6, Try.ntmps6
  go_wp2_with fail
  refine (ccall _).mono ?_
  rintro e w1 ⟨rfl, hb1⟩
  generalize hW : (w.alloc _).alloc _ = W at *
  rw [hsz] at hb1
  have hr : sem x = norm (rwhatM x) := (sem_ref x hx).symm
  generalize rwhatM x = r at *
  obtain ⟨⟨r0, r1, r2, r3, r4, r5⟩, rb⟩ := r
  simp only at *
  have y0 := hfz 0 w1 hb1
  have y1 := hfz 1 w1 hb1
  have y2 := hfz 2 w1 hb1
  have y3 := hfz 3 w1 hb1
  have y4 := hfz 4 w1 hb1
  have y5 := hfz 5 w1 hb1
  have hs1 : w.heap.size + 1 < w1.heap.size := by have := hb1.size; omega
  replace hb := hb.trans (hb1.mono (Nat.le_add_right _ 2))
  cases rb
  · go_wp2_with fail
    rw [hr]
    refine bodyPost_ret (v := .tuple #[What.zero.val, .bool false]) ?_ rfl ⟨rfl, ?_⟩
    · simp [results, Try.results6, go_sem, What.zero, *]
    · (with_reducible repeat (first | assumption | refine Below.setCell ?_ (Nat.le_succ _) _ | refine sbelow_drew ?_ | refine sbelow_drewN ?_ | refine sbelow_alloc ?_ (Nat.le_refl _)))
  · go_wp2_with fail
    rw [hr]
    refine bodyPost_ret (v := .tuple #[.agg #[_, _, _, _, _, _], .bool true]) ?_ rfl ⟨rfl, ?_⟩
    · simp [results, Try.results6, go_sem, norm, *]
    · (with_reducible repeat (first | assumption | refine Below.setCell ?_ (Nat.le_succ _) _ | refine sbelow_drew ?_ | refine sbelow_drewN ?_ | refine sbelow_alloc ?_ (Nat.le_refl _)))
end Go.Proofs.Ytncogaikiceidaa
end
section
namespace Go.Proofs.Ytncogaikiceidaa
open Go.RowKit
set_option linter.unusedSimpArgs false
set_option linter.unusedVariables false
set_option linter.unnecessarySimpa false
theorem own_max {w : World} {base e size n c : Nat} {A : Option Addr} {xs : List Value} (h : w.ownsRow base e size (.slice A n c) n xs) : c ≤ maxLen := by
  rcases h.2 with ⟨hv, h0⟩ | ⟨g, cap, cur, hv, _, _, hnc, hcm, _⟩
  · injection hv with _ _ hc
    rw [hc]; simp [maxLen]
  · injection hv with _ _ hc
    rw [hc]; exact hcm
end Go.Proofs.Ytncogaikiceidaa
end
section
namespace Go.Proofs.Ytncogaikiceidaa
set_option maxRecDepth 100000
open Go.RowKit
set_option linter.unusedSimpArgs false
set_option linter.unusedVariables false
set_option linter.unnecessarySimpa false
theorem rnext_any (l : List Insn) (A : Option Addr) (c : Nat) (i : Int) (hn : l.length ≤ 100000) (hi0 : -9223372036854775808 ≤ i) (hi1 : i ≤ 9223372036854775807) (w : World) (h : SAt w w.heap.size 5 A l.length (insnsV l)) :
    Calls Try.prog 21 #[.slice A l.length c, .int .i64 i] w fun e w' => e = .returned (.int .i64 (nextI l i)) ∧ Below w.heap.size w w' := by
  by_cases h0 : i < 0
  · go_enter Try.func21, Try.ntmps21
    go_wp2_with fail
    go_ret
    exact ⟨by simp [nextI, h0], Below.refl _ _⟩
  by_cases h1 : (l.length : Int) ≤ i
  · go_enter Try.func21, Try.ntmps21
    go_wp2_with fail
    go_ret
    exact ⟨by simp [nextI, h1], Below.refl _ _⟩
  obtain ⟨n, rfl⟩ := Int.eq_ofNat_of_zero_le (show 0 ≤ i by omega)
  have hlt : n < l.length := by omega
  obtain ⟨b, o, rfl, hb, c0, c1, c2, c3, c4⟩ := h.insn hlt
  have hB : Below w.heap.size w w := Below.refl _ _
  have hr := nextI_at hlt
  cases ho : ((at' l n).op == 24)
  all_goals
    go_enter Try.func21, Try.ntmps21
    go_wp2_with fail
    go_ret
    refine ⟨?_, hB⟩
    first | rw [hr, stepN] | rw [stepN]
    simp at ho
    simp [ho]
theorem rnext_at (l : List Insn) (A : Option Addr) (c : Nat) (j : Nat) (hn : l.length ≤ 100000) (hj : j < l.length) (w w' : World) (h : SAt w w.heap.size 5 A l.length (insnsV l)) (hb : Below w.heap.size w w') :
    Calls Try.prog 21 #[.slice A l.length c, .int .i64 j] w' fun e w'' => e = .returned (.int .i64 (stepN l j : Nat)) ∧ Below w'.heap.size w' w'' := by
  have := rnext_any l A c j hn (by omega) (by omega) w' ((h.below hb).more hb.size)
  rwa [nextI_at hj] at this
theorem rstarts_any (l : List Insn) (A : Option Addr) (c : Nat) (hn : l.length ≤ 100000) (w : World) (h : SAt w w.heap.size 5 A l.length (insnsV l)) : Calls Try.prog 8 #[.slice A l.length c] w (StartsOk w l) := by
  have hmk := run_make_row' (P := Try.prog) 49 4 (.bool false) 1 Try.underlying49 info4 rfl .i64 .i64 l.length (by omega) (by omega)
  have hown0 := own_new w w.heap.size (madeCells #[.bool false] l.length) 4 1 l.length l.length w.heap.size rfl (Nat.le_refl _) (Nat.le_refl _) (by simp only [maxLen]; omega) (by simp [madeCells])
  have hm0 : ((madeCells #[Value.bool false] l.length).toList.take (l.length * 1)) = marks l 0 := by
    rw [toList_madeCells_one, Nat.mul_one, List.take_of_length_le (by simp)]
    apply List.ext_getElem?
    intro k
    rcases Nat.lt_or_ge k l.length with hk | hk
    · rw [marks_get hk, List.getElem?_replicate, if_pos hk]
      simp
    · rw [List.getElem?_eq_none (by simpa using hk), List.getElem?_eq_none (by rw [marks_length]; exact hk)]
  rw [hm0] at hown0
  have hb0 : Below w.heap.size w (w.alloc (.cells (madeCells #[.bool false] l.length) 4)) := (Below.refl _ _).alloc (Nat.le_refl _) _
  go_enter Try.func8, Try.ntmps8
  go_wp2_with fail
  generalize madeCells #[Value.bool false] l.length = mc at *
  go_loopw [4] (fun k wr => ∃ j : Nat, SB l j = true ∧ j ≤ l.length + 1 ∧ k = .int .i64 j ∧ wr.ownsRow w.heap.size 4 1 (.slice (some ⟨w.heap.size, 0, none⟩) l.length l.length) l.length (marks l j) ∧ w.heap.size < wr.heap.size ∧ Below w.heap.size w wr) (fun k _ => l.length + 2 - (intOf k).toNat)
  case atStart => exact ⟨0, rfl, by omega, rfl, hown0, by simp, hb0⟩
  case round =>
    obtain ⟨j, hs, hj, rfl, hown, hsz, hb⟩ := hrel
    rcases Nat.lt_or_ge j l.length with hlt | hge
    · have hc := hown.cellAt j (by omega)
      rw [marks_get hlt] at hc
      have hf := hown.frozenAt j
      obtain ⟨hst, -⟩ := hown.stored j (.bool true)
      rw [marks_set hlt hs] at hst
      have hb2 : Below w.heap.size w (wr.setCell ⟨w.heap.size, j, none⟩ (.bool true)) := hb.setCell (Nat.le_refl _) _
      have hnx := rnext_at l A c j hn hlt w _ h hb2
      have hgt := step_gt l j
      have hle := step_le l j
      clear hown hmk hown0
      go_wp2_with fail
      refine hnx.mono ?_
      rintro e w2 ⟨rfl, hb3⟩
      go_wp2_with fail
      go_roundw
      case rel => exact ⟨stepN l j, SB_step hs, by omega, rfl, own_below hst hb3 (by simpa using hsz), Nat.lt_of_lt_of_le hsz (by simpa using hb3.size), hb2.trans (hb3.mono (by simpa using Nat.le_of_lt hsz))⟩
      case measure => simp [intOf]; omega
    · go_wp2_with fail
      go_ret
      refine ⟨_, _, rfl, ?_, hb⟩
      rw [← marks_all hge]
      exact SAt.own hown
theorem rto_any (l : List Insn) (hl : ∀ x ∈ l, x.Ok) (A : Option Addr) (c : Nat) (hn : l.length ≤ 100000) (n : Nat) (hlt : n < l.length) (w : World) (h : SAt w w.heap.size 5 A l.length (insnsV l)) :
    Calls Try.prog 20 #[.slice A l.length c, .int .i64 n] w fun e w' => e = .returned (.tuple #[.int .i64 (toM l n).1, .bool (toM l n).2]) ∧ Below w.heap.size w w' := by
  obtain ⟨b, o, rfl, hb, c0, c1, c2, c3, c4⟩ := h.insn hlt
  have hok := at_ok hl n
  obtain ⟨-, -, -, -, -, -, o0, o1, i0, i1⟩ := hok
  have hs := fun w => rsem_any (at' l n) (at_ok hl n) w
  have hB : Below w.heap.size w w := Below.refl _ _
  have hr : toM l n = if (sem (at' l n)).1.kind ≠ 9 ∧ (sem (at' l n)).1.kind ≠ 10 then (0, false)
    else if (at' l n).op = 6 then ((n : Int) + 1 + (at' l n).imm, true) else ((n : Int) + 1 + (at' l n).off, true) := rfl
  have HR := Lib.hid hr
  clear hr
  have hno : (sem (at' l n)).2 = false → (sem (at' l n)).1.kind = 0 := fun h => by rw [sem_no h]; rfl
  go_enter Try.func20, Try.ntmps20
  go_wp2_with fail
  refine (hs _).mono ?_
  rintro e w1 ⟨rfl, hb1⟩
  generalize sem (at' l n) = r at *
  obtain ⟨⟨r0, r1, r2, r3, r4, r5⟩, rb⟩ := r
  simp only at *
  have hs1 := hb1.size
  have hfin : Below w.heap.size w (w1.alloc (.cells #[.int .u8 r0, .int .u8 r1, .bool r2, .bool r3, .bool r4, .int .i64 r5] 42)) := hb1.alloc hs1 _
  cases rb
  · have h0 := hno rfl
    try simp only at h0
    subst h0
    go_wp2_with fail
    go_ret2
    refine ⟨?_, hfin⟩
    rw [HR.out]
    simp
  clear hno
  by_cases h9 : r0 = 9
  · subst h9
    cases ho : ((at' l n).op == 6)
    · go_wp2_with fail
      go_ret2
      have ho' : ¬ (at' l n).op = 6 := by simpa using ho
      refine ⟨?_, hfin⟩
      rw [HR.out]
      simp [ho']
    · go_wp2_with fail
      go_ret2
      have ho' : (at' l n).op = 6 := by simpa using ho
      refine ⟨?_, hfin⟩
      rw [HR.out]
      simp [ho']
  by_cases h10 : r0 = 10
  · subst h10
    cases ho : ((at' l n).op == 6)
    · go_wp2_with fail
      go_ret2
      have ho' : ¬ (at' l n).op = 6 := by simpa using ho
      refine ⟨?_, hfin⟩
      rw [HR.out]
      simp [ho']
    · go_wp2_with fail
      go_ret2
      have ho' : (at' l n).op = 6 := by simpa using ho
      refine ⟨?_, hfin⟩
      rw [HR.out]
      simp [ho']
  · have q9 : (r0 != 9) = true := by simp [h9]
    have q10 : (r0 != 10) = true := by simp [h10]
    go_wp2_with fail
    all_goals
      go_ret2
      refine ⟨?_, hfin⟩
      rw [HR.out]
      simp [h9, h10]
theorem rtarget_any (l : List Insn) (hl : ∀ x ∈ l, x.Ok) (A : Option Addr) (c : Nat) (hn : l.length ≤ 100000) (i : Int) (hi0 : -9223372036854775808 ≤ i) (hi1 : i ≤ 9223372036854775807) (w : World) (h : SAt w w.heap.size 5 A l.length (insnsV l)) :
    Calls Try.prog 7 #[.slice A l.length c, .int .i64 i] w fun e w' => e = .returned (.tuple #[.int .i64 (targetM l i).1, .bool (targetM l i).2]) ∧ Below w.heap.size w w' := by
  by_cases h0 : i < 0
  · go_enter Try.func7, Try.ntmps7
    go_wp2_with fail
    go_ret2
    exact ⟨by simp [targetM, h0], Below.refl _ _⟩
  by_cases h1 : (l.length : Int) ≤ i
  · go_enter Try.func7, Try.ntmps7
    go_wp2_with fail
    go_ret2
    exact ⟨by simp [targetM, h1], Below.refl _ _⟩
  obtain ⟨n, rfl⟩ := Int.eq_ofNat_of_zero_le (show 0 ≤ i by omega)
  have hlt : n < l.length := by omega
  have ht := rto_any l hl A c hn n hlt w h
  have hr : targetM l (n : Int) = if (toM l n).2 = false ∨ (toM l n).1 < 0 ∨ (l.length : Int) ≤ (toM l n).1 then (0, false) else ((toM l n).1, true) := by
    unfold targetM
    rw [if_neg (by omega)]
    simp
  have HR := Lib.hid hr
  clear hr
  go_enter Try.func7, Try.ntmps7
  go_wp2_with fail
  refine ht.mono ?_
  rintro e w1 ⟨rfl, hb1⟩
  clear ht
  generalize toM l n = r at *
  obtain ⟨t, rb⟩ := r
  simp only at *
  cases rb
  · go_wp2_with fail
    go_ret2
    exact ⟨by rw [HR.out]; simp, hb1⟩
  by_cases h2 : t < 0
  · go_wp2_with fail
    go_ret2
    exact ⟨by rw [HR.out]; simp [h2], hb1⟩
  by_cases h3 : (l.length : Int) ≤ t
  · go_wp2_with fail
    go_ret2
    exact ⟨by rw [HR.out]; simp [h3], hb1⟩
  · go_wp2_with fail
    go_ret2
    exact ⟨by rw [HR.out]; simp [show ¬ t < 0 by omega, show ¬ (l.length : Int) ≤ t by omega], hb1⟩
/-- Is what is behind a place the other half, by the kind of what is there? -/
def halfR (l : List Insn) (n : Nat) (k : Int) : Bool := if k ≠ 3 ∧ k ≠ 4 then true else decide (n + 1 < l.length) && decide ((if k = 3 then noImm (at' l (n + 1)) else at' l (n + 1)) = Insn.zero)
theorem whole_half (l : List Insn) (n : Nat) (h : (sem (at' l n)).2 = true) : wholeB l n = halfR l n (sem (at' l n)).1.kind := by
  unfold wholeB halfR otherB
  rw [h, Bool.true_and]
  by_cases hw : (at' l n).op = 24
  · have hk : ¬ ((sem (at' l n)).1.kind ≠ 3 ∧ (sem (at' l n)).1.kind ≠ 4) := by rcases sem_wide h hw with ⟨_, h1⟩ | ⟨_, h1⟩ <;> omega
    rw [if_neg hk]
    simp [hw]
  · rw [if_pos (sem_short hw)]
    simp [hw]
theorem half_any (l : List Insn) (hl : ∀ x ∈ l, x.Ok) (A : Option Addr) (c : Nat) (hn : l.length ≤ 100000) (n : Nat) (hlt : n < l.length) (r : What) (w : World) (h : SAt w w.heap.size 5 A l.length (insnsV l)) :
    Calls Try.prog 32 #[.slice A l.length c, .int .i64 n, r.val] w fun e w' => e = .returned (.bool (halfR l n r.kind)) ∧ Below w.heap.size w w' := by
  obtain ⟨r0, r1, r2, r3, r4, r5⟩ := r
  have HR := Lib.hid (show halfR l n r0 = if r0 ≠ 3 ∧ r0 ≠ 4 then true else decide (n + 1 < l.length) && decide ((if r0 = 3 then noImm (at' l (n + 1)) else at' l (n + 1)) = Insn.zero) from rfl)
  have hfin : Below w.heap.size w (w.alloc (.cells #[.int .u8 r0, .int .u8 r1, .bool r2, .bool r3, .bool r4, .int .i64 r5] 42)) := (Below.refl _ _).alloc (Nat.le_refl _) _
  simp only
  by_cases hk : r0 ≠ 3 ∧ r0 ≠ 4
  · have q3 : (r0 != 3) = true := by simp [hk.1]
    have q4 : (r0 != 4) = true := by simp [hk.2]
    go_enter Try.func32, Try.ntmps32
    go_wp2_with fail
    go_ret
    exact ⟨by rw [HR.out, if_pos hk]; rfl, hfin⟩
  by_cases h1 : n + 1 < l.length
  · obtain ⟨b, o, rfl, hb, d0, d1, d2, d3, d4⟩ := h.insn h1
    have hi1 : ((n : Int) + 1).toNat = n + 1 := by omega
    by_cases h3 : r0 = 3
    · subst h3
      have e1 := fun w => eq_insn (noImm (at' l (n + 1))) Insn.zero w
      simp only [noImm, Insn.zero] at e1
      go_enter Try.func32, Try.ntmps32
      go_wp2_with fail
      go_ret
      exact ⟨by rw [HR.out]; simp [h1, noImm, Insn.zero], hfin.alloc hfin.size _⟩
    · have h4 : r0 = 4 := by omega
      subst h4
      have e1 := fun w => eq_insn (at' l (n + 1)) Insn.zero w
      simp only [Insn.zero] at e1
      go_enter Try.func32, Try.ntmps32
      go_wp2_with fail
      go_ret
      exact ⟨by rw [HR.out]; simp [h1, Insn.zero]; all_goals exact decide_eq_decide.2 Iff.rfl, hfin.alloc hfin.size _⟩
  · have h34 : r0 = 3 ∨ r0 = 4 := by omega
    rcases h34 with rfl | rfl
    all_goals
      go_enter Try.func32, Try.ntmps32
      go_wp2_with fail
      go_ret
      exact ⟨by rw [HR.out]; simp [h1], hfin⟩
theorem lastOf_next {l : List Insn} {j : Nat} (hb : SB l j = true) : LastOf l (stepN l j) j := .inr ⟨step_gt l j, hb, fun k h1 h2 => SB_between hb h1 h2⟩
theorem whole_step {l : List Insn} {j : Nat} (hw : wholeB l j = true) (hj : j < l.length) : stepN l j ≤ l.length := by
  unfold stepN
  split
  · rename_i h
    simp [wholeB, h] at hw
    omega
  · omega
theorem upto_next {l : List Insn} {p : Nat → Bool} {j : Nat} (hs : SB l j = true) (h : ∀ i, i < j → p i = false) (hj : p j = false) (hp : ∀ i, SB l i = false → p i = false) : ∀ i, i < stepN l j → p i = false := by
  intro i hi
  rcases Nat.lt_or_ge i j with h1 | h1
  · exact h i h1
  · rcases Nat.eq_or_lt_of_le h1 with h2 | h2
    · subst h2; exact hj
    · exact hp i (SB_between hs h2 hi)
set_option maxHeartbeats 4000000 in
theorem rcheck_any (l : List Insn) (hl : ∀ x ∈ l, x.Ok) (A : Option Addr) (c : Nat) (hn : l.length ≤ 100000) (w : World) (h : SAt w w.heap.size 5 A l.length (insnsV l)) :
    Calls Try.prog 13 #[.slice A l.length c] w (TwoInts w (checkM l)) := by
  by_cases h1 : l.length < 1
  · have h0 : l.length = 0 := by omega
    have HM := Lib.hid (show checkM l = (0, 70) by unfold checkM; rw [if_pos (.inl h1)])
    rw [h0]
    clear h1 h0
    go_enter Try.func13, Try.ntmps13
    go_wp2_with fail
    go_ret2
    exact ⟨by rw [HM.out]; rfl, Below.refl _ _⟩
  by_cases h512 : 512 < l.length
  · have hne : ((l.length : Int) == 0) = false := by rw [beq_eq_false_iff_ne]; omega
    go_enter Try.func13, Try.ntmps13
    go_wp2_with fail
    go_ret2
    exact ⟨by unfold checkM; rw [if_pos (.inr h512)]; rfl, Below.refl _ _⟩
  have h1' : 1 ≤ l.length := by omega
  have h512' : l.length ≤ 512 := by omega
  have hne : ((l.length : Int) == 0) = false := by rw [beq_eq_false_iff_ne]; omega
  go_enter Try.func13, Try.ntmps13
  go_wp2_with fail
  clear hne
  go_loopw [5, 4, 6, 7] (fun k t4 _ _ wr => ∃ (j : Nat) (e0 : Nat), SB l j = true ∧ j ≤ l.length ∧ k = .int .i64 j ∧ t4 = .int .i64 e0 ∧ LastOf l j e0 ∧ (∀ i, i < j → badI l i = false) ∧ Below w.heap.size w wr) (fun k _ _ _ _ => l.length - (intOf k).toNat)
  case atStart => exact ⟨0, 0, rfl, by omega, rfl, rfl, .inl ⟨rfl, rfl⟩, fun i hi => absurd hi (by omega), Below.refl _ _⟩
  case round =>
    obtain ⟨j, e0, hs, hj, rfl, rfl, hlast, hI, hbw⟩ := hrel
    rcases Nat.lt_or_ge j l.length with hlt | hge
    · obtain ⟨b, o, rfl, hb, c0, c1, c2, c3, c4⟩ := h.insn hlt
      have hsem := fun w => rsem_any (at' l j) (at_ok hl j) w
      have hwh := whole_half l j
      have hnw : (sem (at' l j)).2 = false → wholeB l j = false := fun h => by unfold wholeB; rw [h]; rfl
      have hst := whole_step (l := l) (j := j)
      have hgt := step_gt l j
      go_wp2_with fail
      refine (hsem _).mono ?_
      rintro e w3 ⟨rfl, hb3⟩
      clear hsem
      have hb3' := hbw.trans (hb3.mono hbw.size)
      generalize sem (at' l j) = r at *
      obtain ⟨⟨r0, r1, r2, r3, r4, r5⟩, rb⟩ := r
      simp only at hwh hnw ⊢
      have hb4 := hb3'.alloc hb3'.size (What.obj ⟨r0, r1, r2, r3, r4, r5⟩)
      cases rb
      · have hwf := hnw rfl
        clear hwh hnw hst
        go_wp2_with fail
        go_ret2
        exact ⟨by rw [checkM_I h1' h512' hlt (by simp [badI, hs, hwf]) hI]; rfl, hb4⟩
      · have hwt := hwh rfl
        clear hwh hnw
        have hha := half_any l hl (some ⟨b, o, none⟩) c hn j hlt ⟨r0, r1, r2, r3, r4, r5⟩ _ ((h.below hb4).more hb4.size)
        rw [← hwt] at hha
        clear hwt
        go_wp2_with fail
        refine hha.mono ?_
        rintro e w5 ⟨rfl, hb5⟩
        clear hha
        have hb6 := hb4.trans (hb5.mono hb4.size)
        cases hw : wholeB l j
        · clear hst
          go_wp2_with fail
          go_ret2
          exact ⟨by rw [checkM_I h1' h512' hlt (by simp [badI, hs, hw]) hI]; rfl, hb6⟩
        · have hst' := hst hw hlt
          clear hst
          have hnx := rnext_at l (some ⟨b, o, none⟩) c j hn hlt w _ h hb6
          go_wp2_with fail
          refine hnx.mono ?_
          rintro e w7 ⟨rfl, hb7⟩
          clear hnx
          go_wp2_with fail
          go_roundw
          case rel => exact ⟨stepN l j, j, SB_step hs, hst', rfl, rfl, lastOf_next hs, upto_next hs hI (by simp [badI, hw]) (fun i hi => by simp [badI, hi]), hb6.trans (hb7.mono hb6.size)⟩
          case measure => simp [intOf]; omega
    · obtain rfl : j = l.length := by omega
      have he0 := lastOf_all (by omega) hlast
      subst he0
      have hel := lastN_lt h1'
      have hsta := rstarts_any l A c hn _ ((h.below hbw).more hbw.size)
      go_wp2_with fail
      refine hsta.mono ?_
      rintro e w2 ⟨A', c', rfl, hst, hb2⟩
      clear hsta
      obtain ⟨b', o', rfl, hb', hfl⟩ := hst.flag (by omega)
      clear hst
      have hbs := hbw.trans (hb2.mono hbw.size)
      clear hs hlast
      go_wp2_with fail
      go_loopw [9, 10, 11] (fun k _ _ wr => ∃ (j : Nat), SB l j = true ∧ j ≤ l.length ∧ k = .int .i64 j ∧ (∀ i, i < j → badJ l i = false) ∧ Below w2.heap.size w2 wr) (fun k _ _ _ => l.length - (intOf k).toNat)
      case atStart => exact ⟨0, rfl, by omega, rfl, fun i hi => absurd hi (by omega), Below.refl _ _⟩
      case round =>
        obtain ⟨j, hs, hj, rfl, hJ, hbr⟩ := hrel
        have hbw' : Below w.heap.size w _ := hbs.trans (hbr.mono hbs.size)
        rcases Nat.lt_or_ge j l.length with hlt | hge
        · have hwhole : wholeB l j = true := by
            have := hI j hlt
            simpa [badI, hs] using this
          have hst' := whole_step hwhole hlt
          have hgt := step_gt l j
          have hto := rto_any l hl A c hn j hlt _ ((h.below hbw').more hbw'.size)
          have hbj : badJ l j = ((toM l j).2 && !(decide (0 ≤ (toM l j).1) && (decide ((toM l j).1 < l.length) && SB l (toM l j).1.toNat))) := by simp [badJ, hs]
          have HJ := Lib.hid hbj
          clear hbj
          go_wp2_with fail
          refine hto.mono ?_
          rintro e w3 ⟨rfl, hb3⟩
          clear hto
          have hb3' := hbr.trans (hb3.mono hbr.size)
          have hbw'' := hbw'.trans (hb3.mono hbw'.size)
          generalize toM l j = r at *
          obtain ⟨t, rb⟩ := r
          simp only at *
          have hnx := rnext_at l A c j hn hlt w _ h hbw''
          cases rb
          · go_wp2_with fail
            refine hnx.mono ?_
            rintro e w7 ⟨rfl, hb7⟩
            clear hnx
            go_wp2_with fail
            go_roundw
            case rel => exact ⟨stepN l j, SB_step hs, hst', rfl, upto_next hs hJ (by rw [HJ.out]; simp) (fun i hi => by simp [badJ, hi]), hb3'.trans (hb7.mono hb3'.size)⟩
            case measure => simp [intOf]; omega
          by_cases ht0 : t < 0
          · clear hnx
            go_wp2_with fail
            go_ret2
            exact ⟨by rw [checkM_J h1' h512' hI hlt (by rw [HJ.out]; simp; omega) hJ]; rfl, hbw''⟩
          by_cases ht1 : (l.length : Int) ≤ t
          · clear hnx
            go_wp2_with fail
            go_ret2
            exact ⟨by rw [checkM_J h1' h512' hI hlt (by rw [HJ.out]; simp; omega) hJ]; rfl, hbw''⟩
          obtain ⟨tn, rfl⟩ := Int.eq_ofNat_of_zero_le (show 0 ≤ t by omega)
          have htl : tn < l.length := by omega
          have hcell' := hfl tn htl _ hb3'
          cases hst : SB l tn
          · clear hnx
            rw [hst] at hcell'
            go_wp2_with fail
            go_ret2
            exact ⟨by rw [checkM_J h1' h512' hI hlt (by rw [HJ.out]; simp [hst]) hJ]; rfl, hbw''⟩
          · rw [hst] at hcell'
            go_wp2_with fail
            refine hnx.mono ?_
            rintro e w7 ⟨rfl, hb7⟩
            clear hnx
            go_wp2_with fail
            go_roundw
            case rel => exact ⟨stepN l j, SB_step hs, hst', rfl, upto_next hs hJ (by rw [HJ.out]; simp [hst, htl]) (fun i hi => by simp [badJ, hi]), hb3'.trans (hb7.mono hb3'.size)⟩
            case measure => simp [intOf]; omega
        · obtain rfl : j = l.length := by omega
          obtain ⟨b, o, rfl, hb, c0, c1, c2, c3, c4⟩ := h.insn hel
          have hse := fun w => rsem_any (at' l (lastN l)) (at_ok hl (lastN l)) w
          have hE := checkM_E h1' h512' hI hJ
          have he : endB l = ((sem (at' l (lastN l))).1.kind == 12 || (sem (at' l (lastN l))).1.kind == 9) := rfl
          have HE := Lib.hid (hE.trans (by rw [he]))
          clear hE he hs
          go_wp2_with fail
          refine (hse _).mono ?_
          rintro e w3 ⟨rfl, hb3⟩
          have hbx := hbw'.trans (hb3.mono hbw'.size)
          generalize sem (at' l (lastN l)) = r at *
          obtain ⟨⟨r0, r1, r2, r3, r4, r5⟩, rb⟩ := r
          simp only at *
          have hfin : Below w.heap.size w (w3.alloc (.cells #[.int .u8 r0, .int .u8 r1, .bool r2, .bool r3, .bool r4, .int .i64 r5] 42)) := hbx.alloc hbx.size _
          by_cases e12 : r0 = 12
          · subst e12
            go_wp2_with fail
            go_ret2
            exact ⟨by rw [HE.out]; rfl, hfin⟩
          by_cases e9 : r0 = 9
          · subst e9
            go_wp2_with fail
            go_ret2
            exact ⟨by rw [HE.out]; rfl, hfin⟩
          · have q12 : (r0 != 12) = true := by simp [e12]
            have q9 : (r0 != 9) = true := by simp [e9]
            go_wp2_with fail
            go_ret2
            exact ⟨by rw [HE.out, if_neg (by simp [e12, e9])]; rfl, hfin⟩
end Go.Proofs.Ytncogaikiceidaa
end
