/- What an instruction does, by the program, before what is none is nothing: other ways. No statement is proved here. -/
import Derived.Test.YtgbmeckhagklnaaArith
import Derived.Test.YtgbmeckhagklnaaSwaps
import Derived.Test.YtgbmeckhagklnaaJumps
import Derived.Test.YtgbmeckhagklnaaMoves
namespace Go.Proofs.Ytgbmeckhagklnaa
open Go.RowKit
set_option linter.unusedSimpArgs false
set_option linter.unusedVariables false
set_option maxRecDepth 100000 in
set_option maxHeartbeats 16000000 in
theorem what_E4 (x : Insn) (hx : x.Ok) (w : World) (hG0 : (¬ 10 < x.dst ∧ ¬ 10 < x.src ∧ (x.op == 24) = false ∧ (x.op == 212) = false ∧ (x.op == 220) = false ∧ (x.op == 215) = false ∧ x.op % 8 = 4)) (hM0 : whatM x = arithM x) : Calls Try.prog 69 #[x.val] w (WhatAnd w (whatM x)) := by
  have HG := Lib.hid hG0
  have HM := Lib.hid hM0
  clear hG0 hM0
  obtain ⟨f0, f1, f2, f3, f4⟩ := box_two x w What.zero.obj
  obtain ⟨z0, z1, z2, z3, z4, z5⟩ := box44 (W := (w.alloc x.obj).alloc What.zero.obj) (g := w.heap.size + 1) (B := w.heap.size + 2) What.zero (by omega) (heap_two_new _ _ _)
  have hfz := thaw44 (W := (w.alloc x.obj).alloc What.zero.obj) (g := w.heap.size + 1) (B := w.heap.size + 2) What.zero (by omega) (heap_two_new _ _ _)
  have hsz := size_two w x.obj What.zero.obj
  have hb := below_two w x.obj What.zero.obj
  simp only [What.zero] at f0 f1 f2 f3 f4 z0 z1 z2 z3 z4 z5 hfz hsz hb
  have cclass := fun w => class_is x hx w
  have ccall := fun w => arith_any x hx w
  obtain ⟨h1, h2, h3, h4, h5, h6, hc⟩ := HG.out
  go_enter Try.func69, Try.ntmps69
  go_wp2_with fail
  refine (cclass _).mono ?_
  rintro e w0 ⟨rfl, rfl⟩
  go_wp2_with fail
  refine (ccall _).mono ?_
  rintro e w1 ⟨rfl, hb1⟩
  generalize hW : (w.alloc _).alloc _ = W at *
  replace hb1 := (sbelow_alloc (o := x.obj) (Below.refl (w.heap.size + 2) W) (by omega)).trans (hb1.mono (by simp; omega))
  have hr := HM.out
  generalize arithM x = r at *
  obtain ⟨⟨r0, r1, r2, r3, r4, r5⟩, rb⟩ := r
  simp only at *
  have y0 := hfz 0 w1 hb1
  have y1 := hfz 1 w1 hb1
  have y2 := hfz 2 w1 hb1
  have y3 := hfz 3 w1 hb1
  have y4 := hfz 4 w1 hb1
  have y5 := hfz 5 w1 hb1
  replace hb := hb.trans (hb1.mono (Nat.le_add_right _ 2))
  go_wp2_with fail
  rw [hr]
  refine bodyPost_ret (v := .tuple #[.agg #[_, _, _, _, _, _], .bool _]) ?_ rfl ⟨rfl, ?_⟩
  · simp [results, Try.results69, go_sem, *]
  · (with_reducible repeat (first | assumption | refine Below.setCell ?_ (Nat.le_succ _) _ | refine sbelow_drew ?_ | refine sbelow_drewN ?_ | refine sbelow_alloc ?_ (Nat.le_refl _)))

set_option maxRecDepth 100000 in
set_option maxHeartbeats 16000000 in
theorem what_E7 (x : Insn) (hx : x.Ok) (w : World) (hG0 : (¬ 10 < x.dst ∧ ¬ 10 < x.src ∧ (x.op == 24) = false ∧ (x.op == 212) = false ∧ (x.op == 220) = false ∧ (x.op == 215) = false ∧ x.op % 8 = 7)) (hM0 : whatM x = arithM x) : Calls Try.prog 69 #[x.val] w (WhatAnd w (whatM x)) := by
  have HG := Lib.hid hG0
  have HM := Lib.hid hM0
  clear hG0 hM0
  obtain ⟨f0, f1, f2, f3, f4⟩ := box_two x w What.zero.obj
  obtain ⟨z0, z1, z2, z3, z4, z5⟩ := box44 (W := (w.alloc x.obj).alloc What.zero.obj) (g := w.heap.size + 1) (B := w.heap.size + 2) What.zero (by omega) (heap_two_new _ _ _)
  have hfz := thaw44 (W := (w.alloc x.obj).alloc What.zero.obj) (g := w.heap.size + 1) (B := w.heap.size + 2) What.zero (by omega) (heap_two_new _ _ _)
  have hsz := size_two w x.obj What.zero.obj
  have hb := below_two w x.obj What.zero.obj
  simp only [What.zero] at f0 f1 f2 f3 f4 z0 z1 z2 z3 z4 z5 hfz hsz hb
  have cclass := fun w => class_is x hx w
  have ccall := fun w => arith_any x hx w
  obtain ⟨h1, h2, h3, h4, h5, h6, hc⟩ := HG.out
  go_enter Try.func69, Try.ntmps69
  go_wp2_with fail
  refine (cclass _).mono ?_
  rintro e w0 ⟨rfl, rfl⟩
  go_wp2_with fail
  refine (ccall _).mono ?_
  rintro e w1 ⟨rfl, hb1⟩
  generalize hW : (w.alloc _).alloc _ = W at *
  replace hb1 := (sbelow_alloc (o := x.obj) (Below.refl (w.heap.size + 2) W) (by omega)).trans (hb1.mono (by simp; omega))
  have hr := HM.out
  generalize arithM x = r at *
  obtain ⟨⟨r0, r1, r2, r3, r4, r5⟩, rb⟩ := r
  simp only at *
  have y0 := hfz 0 w1 hb1
  have y1 := hfz 1 w1 hb1
  have y2 := hfz 2 w1 hb1
  have y3 := hfz 3 w1 hb1
  have y4 := hfz 4 w1 hb1
  have y5 := hfz 5 w1 hb1
  replace hb := hb.trans (hb1.mono (Nat.le_add_right _ 2))
  go_wp2_with fail
  rw [hr]
  refine bodyPost_ret (v := .tuple #[.agg #[_, _, _, _, _, _], .bool _]) ?_ rfl ⟨rfl, ?_⟩
  · simp [results, Try.results69, go_sem, *]
  · (with_reducible repeat (first | assumption | refine Below.setCell ?_ (Nat.le_succ _) _ | refine sbelow_drew ?_ | refine sbelow_drewN ?_ | refine sbelow_alloc ?_ (Nat.le_refl _)))

set_option maxRecDepth 100000 in
set_option maxHeartbeats 16000000 in
theorem what_F5 (x : Insn) (hx : x.Ok) (w : World) (hG0 : (¬ 10 < x.dst ∧ ¬ 10 < x.src ∧ (x.op == 24) = false ∧ (x.op == 212) = false ∧ (x.op == 220) = false ∧ (x.op == 215) = false ∧ x.op % 8 = 5)) (hM0 : whatM x = jumpsM x) : Calls Try.prog 69 #[x.val] w (WhatAnd w (whatM x)) := by
  have HG := Lib.hid hG0
  have HM := Lib.hid hM0
  clear hG0 hM0
  obtain ⟨f0, f1, f2, f3, f4⟩ := box_two x w What.zero.obj
  obtain ⟨z0, z1, z2, z3, z4, z5⟩ := box44 (W := (w.alloc x.obj).alloc What.zero.obj) (g := w.heap.size + 1) (B := w.heap.size + 2) What.zero (by omega) (heap_two_new _ _ _)
  have hfz := thaw44 (W := (w.alloc x.obj).alloc What.zero.obj) (g := w.heap.size + 1) (B := w.heap.size + 2) What.zero (by omega) (heap_two_new _ _ _)
  have hsz := size_two w x.obj What.zero.obj
  have hb := below_two w x.obj What.zero.obj
  simp only [What.zero] at f0 f1 f2 f3 f4 z0 z1 z2 z3 z4 z5 hfz hsz hb
  have cclass := fun w => class_is x hx w
  have ccall := fun w => jumps_any x hx w
  obtain ⟨h1, h2, h3, h4, h5, h6, hc⟩ := HG.out
  go_enter Try.func69, Try.ntmps69
  go_wp2_with fail
  refine (cclass _).mono ?_
  rintro e w0 ⟨rfl, rfl⟩
  go_wp2_with fail
  refine (ccall _).mono ?_
  rintro e w1 ⟨rfl, hb1⟩
  generalize hW : (w.alloc _).alloc _ = W at *
  replace hb1 := (sbelow_alloc (o := x.obj) (Below.refl (w.heap.size + 2) W) (by omega)).trans (hb1.mono (by simp; omega))
  have hr := HM.out
  generalize jumpsM x = r at *
  obtain ⟨⟨r0, r1, r2, r3, r4, r5⟩, rb⟩ := r
  simp only at *
  have y0 := hfz 0 w1 hb1
  have y1 := hfz 1 w1 hb1
  have y2 := hfz 2 w1 hb1
  have y3 := hfz 3 w1 hb1
  have y4 := hfz 4 w1 hb1
  have y5 := hfz 5 w1 hb1
  replace hb := hb.trans (hb1.mono (Nat.le_add_right _ 2))
  go_wp2_with fail
  rw [hr]
  refine bodyPost_ret (v := .tuple #[.agg #[_, _, _, _, _, _], .bool _]) ?_ rfl ⟨rfl, ?_⟩
  · simp [results, Try.results69, go_sem, *]
  · (with_reducible repeat (first | assumption | refine Below.setCell ?_ (Nat.le_succ _) _ | refine sbelow_drew ?_ | refine sbelow_drewN ?_ | refine sbelow_alloc ?_ (Nat.le_refl _)))

set_option maxRecDepth 100000 in
set_option maxHeartbeats 16000000 in
theorem what_F6 (x : Insn) (hx : x.Ok) (w : World) (hG0 : (¬ 10 < x.dst ∧ ¬ 10 < x.src ∧ (x.op == 24) = false ∧ (x.op == 212) = false ∧ (x.op == 220) = false ∧ (x.op == 215) = false ∧ x.op % 8 = 6)) (hM0 : whatM x = jumpsM x) : Calls Try.prog 69 #[x.val] w (WhatAnd w (whatM x)) := by
  have HG := Lib.hid hG0
  have HM := Lib.hid hM0
  clear hG0 hM0
  obtain ⟨f0, f1, f2, f3, f4⟩ := box_two x w What.zero.obj
  obtain ⟨z0, z1, z2, z3, z4, z5⟩ := box44 (W := (w.alloc x.obj).alloc What.zero.obj) (g := w.heap.size + 1) (B := w.heap.size + 2) What.zero (by omega) (heap_two_new _ _ _)
  have hfz := thaw44 (W := (w.alloc x.obj).alloc What.zero.obj) (g := w.heap.size + 1) (B := w.heap.size + 2) What.zero (by omega) (heap_two_new _ _ _)
  have hsz := size_two w x.obj What.zero.obj
  have hb := below_two w x.obj What.zero.obj
  simp only [What.zero] at f0 f1 f2 f3 f4 z0 z1 z2 z3 z4 z5 hfz hsz hb
  have cclass := fun w => class_is x hx w
  have ccall := fun w => jumps_any x hx w
  obtain ⟨h1, h2, h3, h4, h5, h6, hc⟩ := HG.out
  go_enter Try.func69, Try.ntmps69
  go_wp2_with fail
  refine (cclass _).mono ?_
  rintro e w0 ⟨rfl, rfl⟩
  go_wp2_with fail
  refine (ccall _).mono ?_
  rintro e w1 ⟨rfl, hb1⟩
  generalize hW : (w.alloc _).alloc _ = W at *
  replace hb1 := (sbelow_alloc (o := x.obj) (Below.refl (w.heap.size + 2) W) (by omega)).trans (hb1.mono (by simp; omega))
  have hr := HM.out
  generalize jumpsM x = r at *
  obtain ⟨⟨r0, r1, r2, r3, r4, r5⟩, rb⟩ := r
  simp only at *
  have y0 := hfz 0 w1 hb1
  have y1 := hfz 1 w1 hb1
  have y2 := hfz 2 w1 hb1
  have y3 := hfz 3 w1 hb1
  have y4 := hfz 4 w1 hb1
  have y5 := hfz 5 w1 hb1
  replace hb := hb.trans (hb1.mono (Nat.le_add_right _ 2))
  go_wp2_with fail
  rw [hr]
  refine bodyPost_ret (v := .tuple #[.agg #[_, _, _, _, _, _], .bool _]) ?_ rfl ⟨rfl, ?_⟩
  · simp [results, Try.results69, go_sem, *]
  · (with_reducible repeat (first | assumption | refine Below.setCell ?_ (Nat.le_succ _) _ | refine sbelow_drew ?_ | refine sbelow_drewN ?_ | refine sbelow_alloc ?_ (Nat.le_refl _)))

set_option maxRecDepth 100000 in
set_option maxHeartbeats 16000000 in
theorem what_G (x : Insn) (hx : x.Ok) (w : World) (hG0 : (¬ 10 < x.dst ∧ ¬ 10 < x.src ∧ (x.op == 24) = false ∧ (x.op == 212) = false ∧ (x.op == 220) = false ∧ (x.op == 215) = false ∧ x.op % 8 = 0)) (hM0 : whatM x = (What.zero, false)) : Calls Try.prog 69 #[x.val] w (WhatAnd w (whatM x)) := by
  have HG := Lib.hid hG0
  have HM := Lib.hid hM0
  clear hG0 hM0
  obtain ⟨f0, f1, f2, f3, f4⟩ := box_two x w What.zero.obj
  obtain ⟨z0, z1, z2, z3, z4, z5⟩ := box44 (W := (w.alloc x.obj).alloc What.zero.obj) (g := w.heap.size + 1) (B := w.heap.size + 2) What.zero (by omega) (heap_two_new _ _ _)
  have hfz := thaw44 (W := (w.alloc x.obj).alloc What.zero.obj) (g := w.heap.size + 1) (B := w.heap.size + 2) What.zero (by omega) (heap_two_new _ _ _)
  have hsz := size_two w x.obj What.zero.obj
  have hb := below_two w x.obj What.zero.obj
  simp only [What.zero] at f0 f1 f2 f3 f4 z0 z1 z2 z3 z4 z5 hfz hsz hb
  have cclass := fun w => class_is x hx w
  obtain ⟨h1, h2, h3, h4, h5, h6, hc⟩ := HG.out
  go_enter Try.func69, Try.ntmps69
  go_wp2_with fail
  refine (cclass _).mono ?_
  rintro e w0 ⟨rfl, rfl⟩
  go_wp2_with fail
  have hr := HM.out
  rw [hr]
  refine bodyPost_ret (v := .tuple #[What.zero.val, .bool false]) ?_ rfl ⟨rfl, ?_⟩
  · simp [results, Try.results69, go_sem, What.zero, *]
  · (with_reducible repeat (first | assumption | refine Below.setCell ?_ (Nat.le_succ _) _ | refine sbelow_drew ?_ | refine sbelow_drewN ?_ | refine sbelow_alloc ?_ (Nat.le_refl _)))

set_option maxRecDepth 100000 in
set_option maxHeartbeats 16000000 in
theorem what_H (x : Insn) (hx : x.Ok) (w : World) (hG0 : (¬ 10 < x.dst ∧ ¬ 10 < x.src ∧ (x.op == 24) = false ∧ (x.op == 212) = false ∧ (x.op == 220) = false ∧ (x.op == 215) = false ∧ x.op % 8 ≠ 0 ∧ x.op % 8 ≠ 4 ∧ x.op % 8 ≠ 5 ∧ x.op % 8 ≠ 6 ∧ x.op % 8 ≠ 7)) (hM0 : whatM x = movesM x) : Calls Try.prog 69 #[x.val] w (WhatAnd w (whatM x)) := by
  have HG := Lib.hid hG0
  have HM := Lib.hid hM0
  clear hG0 hM0
  obtain ⟨f0, f1, f2, f3, f4⟩ := box_two x w What.zero.obj
  obtain ⟨z0, z1, z2, z3, z4, z5⟩ := box44 (W := (w.alloc x.obj).alloc What.zero.obj) (g := w.heap.size + 1) (B := w.heap.size + 2) What.zero (by omega) (heap_two_new _ _ _)
  have hfz := thaw44 (W := (w.alloc x.obj).alloc What.zero.obj) (g := w.heap.size + 1) (B := w.heap.size + 2) What.zero (by omega) (heap_two_new _ _ _)
  have hsz := size_two w x.obj What.zero.obj
  have hb := below_two w x.obj What.zero.obj
  simp only [What.zero] at f0 f1 f2 f3 f4 z0 z1 z2 z3 z4 z5 hfz hsz hb
  have cclass := fun w => class_is x hx w
  have ccall := fun w => moves_any x hx w
  obtain ⟨h1, h2, h3, h4, h5, h6, hc0, hc4, hc5, hc6, hc7⟩ := HG.out
  go_enter Try.func69, Try.ntmps69
  go_wp2_with fail
  refine (cclass _).mono ?_
  rintro e w0 ⟨rfl, rfl⟩
  go_wp2_with fail
  refine (ccall _).mono ?_
  rintro e w1 ⟨rfl, hb1⟩
  generalize hW : (w.alloc _).alloc _ = W at *
  replace hb1 := (sbelow_alloc (o := x.obj) (Below.refl (w.heap.size + 2) W) (by omega)).trans (hb1.mono (by simp; omega))
  have hr := HM.out
  generalize movesM x = r at *
  obtain ⟨⟨r0, r1, r2, r3, r4, r5⟩, rb⟩ := r
  simp only at *
  have y0 := hfz 0 w1 hb1
  have y1 := hfz 1 w1 hb1
  have y2 := hfz 2 w1 hb1
  have y3 := hfz 3 w1 hb1
  have y4 := hfz 4 w1 hb1
  have y5 := hfz 5 w1 hb1
  replace hb := hb.trans (hb1.mono (Nat.le_add_right _ 2))
  go_wp2_with fail
  rw [hr]
  refine bodyPost_ret (v := .tuple #[.agg #[_, _, _, _, _, _], .bool _]) ?_ rfl ⟨rfl, ?_⟩
  · simp [results, Try.results69, go_sem, *]
  · (with_reducible repeat (first | assumption | refine Below.setCell ?_ (Nat.le_succ _) _ | refine sbelow_drew ?_ | refine sbelow_drewN ?_ | refine sbelow_alloc ?_ (Nat.le_refl _)))
end Go.Proofs.Ytgbmeckhagklnaa
