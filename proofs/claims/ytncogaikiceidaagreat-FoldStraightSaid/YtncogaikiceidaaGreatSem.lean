/- What an instruction does, by the program. No statement is proved here. -/
import Derived.Test.YtncogaikiceidaaGreatArith
import Derived.Test.YtncogaikiceidaaGreatSwaps
import Derived.Test.YtncogaikiceidaaGreatJumps
import Derived.Test.YtncogaikiceidaaGreatMoves

section
/- What an instruction does, by the program, before what is none is nothing: some ways. No statement is proved here. -/
namespace Go.Proofs.YtncogaikiceidaaGreat
open Go.RowKit
set_option linter.unusedSimpArgs false
set_option linter.unusedVariables false
set_option maxRecDepth 100000 in
set_option maxHeartbeats 4000000 in
theorem wide97_any (x : Insn) (w : World) : Calls Tryz.prog 72 #[x.val] w (WhatAnd w (wideM x)) := by
  have hbel : ∀ o o', Below w.heap.size w ((w.alloc o).alloc o') := fun o o' => below_two w o o'
  cases h3 : (x.src == 0)
  · cases h4 : (x.src == 1)
    · go_enter Tryz.func72, Tryz.ntmps72
      go_wp2_with fail
      all_goals
        refine bodyPost_ret (v := .tuple #[(wideM x).1.val, .bool (wideM x).2]) ?_ rfl ⟨rfl, ?_⟩
        · simp at h3 h4
          simp [results, Tryz.results72, go_sem, wideM, What.zero, *]
        · (with_reducible first | exact hbel _ _ | exact (hbel _ _).drew | exact below_drewN (hbel _ _) _)
    · cases h1 : (x.dst != 10) <;> cases h2 : (x.off == 0) <;>
      (go_enter Tryz.func72, Tryz.ntmps72
       go_wp2_with fail
       go_region
       go_wp2_with fail
       refine bodyPost_ret (v := .tuple #[(wideM x).1.val, .bool (wideM x).2]) ?_ rfl ⟨rfl, ?_⟩
       · simp at h3 h4
         simp [results, Tryz.results72, go_sem, wideM, What.zero, *]
       · (with_reducible first | exact hbel _ _ | exact (hbel _ _).drew | exact below_drewN (hbel _ _) _))
  · cases h1 : (x.dst != 10) <;> cases h2 : (x.off == 0) <;>
    (go_enter Tryz.func72, Tryz.ntmps72
     go_wp2_with fail
     refine bodyPost_ret (v := .tuple #[(wideM x).1.val, .bool (wideM x).2]) ?_ rfl ⟨rfl, ?_⟩
     · simp at h3
       simp [results, Tryz.results72, go_sem, wideM, What.zero, *]
     · (with_reducible first | exact hbel _ _ | exact (hbel _ _).drew | exact below_drewN (hbel _ _) _))
set_option maxRecDepth 100000 in
set_option maxHeartbeats 16000000 in
theorem what_A (x : Insn) (hx : x.Ok) (w : World) (hG0 : (10 < x.dst)) (hM0 : whatM x = (What.zero, false)) : Calls Tryz.prog 42 #[x.val] w (WhatAnd w (whatM x)) := by
  have HG := Lib.hid hG0
  have HM := Lib.hid hM0
  clear hG0 hM0
  obtain ⟨f0, f1, f2, f3, f4⟩ := box_two x w What.zero.obj
  obtain ⟨z0, z1, z2, z3, z4, z5⟩ := box44 (W := (w.alloc x.obj).alloc What.zero.obj) (g := w.heap.size + 1) (B := w.heap.size + 2) What.zero (by omega) (heap_two_new _ _ _)
  have hfz := thaw44 (W := (w.alloc x.obj).alloc What.zero.obj) (g := w.heap.size + 1) (B := w.heap.size + 2) What.zero (by omega) (heap_two_new _ _ _)
  have hsz := size_two w x.obj What.zero.obj
  have hb := below_two w x.obj What.zero.obj
  simp only [What.zero] at f0 f1 f2 f3 f4 z0 z1 z2 z3 z4 z5 hfz hsz hb
  have cclass := fun w => class_is x hx w
  have h1 := HG.out
  go_enter Tryz.func42, Tryz.ntmps42
  go_wp2_with fail
  have hr := HM.out
  rw [hr]
  refine bodyPost_ret (v := .tuple #[What.zero.val, .bool false]) ?_ rfl ⟨rfl, ?_⟩
  · simp [results, Tryz.results42, go_sem, What.zero, *]
  · (with_reducible repeat (first | assumption | refine Below.setCell ?_ (Nat.le_succ _) _ | refine sbelow_drew ?_ | refine sbelow_drewN ?_ | refine sbelow_alloc ?_ (Nat.le_refl _)))

set_option maxRecDepth 100000 in
set_option maxHeartbeats 16000000 in
theorem what_B (x : Insn) (hx : x.Ok) (w : World) (hG0 : (¬ 10 < x.dst ∧ 10 < x.src)) (hM0 : whatM x = (What.zero, false)) : Calls Tryz.prog 42 #[x.val] w (WhatAnd w (whatM x)) := by
  have HG := Lib.hid hG0
  have HM := Lib.hid hM0
  clear hG0 hM0
  obtain ⟨f0, f1, f2, f3, f4⟩ := box_two x w What.zero.obj
  obtain ⟨z0, z1, z2, z3, z4, z5⟩ := box44 (W := (w.alloc x.obj).alloc What.zero.obj) (g := w.heap.size + 1) (B := w.heap.size + 2) What.zero (by omega) (heap_two_new _ _ _)
  have hfz := thaw44 (W := (w.alloc x.obj).alloc What.zero.obj) (g := w.heap.size + 1) (B := w.heap.size + 2) What.zero (by omega) (heap_two_new _ _ _)
  have hsz := size_two w x.obj What.zero.obj
  have hb := below_two w x.obj What.zero.obj
  simp only [What.zero] at f0 f1 f2 f3 f4 z0 z1 z2 z3 z4 z5 hfz hsz hb
  have cclass := fun w => class_is x hx w
  obtain ⟨h1, h2⟩ := HG.out
  go_enter Tryz.func42, Tryz.ntmps42
  go_wp2_with fail
  have hr := HM.out
  rw [hr]
  refine bodyPost_ret (v := .tuple #[What.zero.val, .bool false]) ?_ rfl ⟨rfl, ?_⟩
  · simp [results, Tryz.results42, go_sem, What.zero, *]
  · (with_reducible repeat (first | assumption | refine Below.setCell ?_ (Nat.le_succ _) _ | refine sbelow_drew ?_ | refine sbelow_drewN ?_ | refine sbelow_alloc ?_ (Nat.le_refl _)))

set_option maxRecDepth 100000 in
set_option maxHeartbeats 16000000 in
theorem what_C (x : Insn) (hx : x.Ok) (w : World) (hG0 : (¬ 10 < x.dst ∧ ¬ 10 < x.src ∧ (x.op == 24) = true)) (hM0 : whatM x = wideM x) : Calls Tryz.prog 42 #[x.val] w (WhatAnd w (whatM x)) := by
  have HG := Lib.hid hG0
  have HM := Lib.hid hM0
  clear hG0 hM0
  obtain ⟨f0, f1, f2, f3, f4⟩ := box_two x w What.zero.obj
  obtain ⟨z0, z1, z2, z3, z4, z5⟩ := box44 (W := (w.alloc x.obj).alloc What.zero.obj) (g := w.heap.size + 1) (B := w.heap.size + 2) What.zero (by omega) (heap_two_new _ _ _)
  have hfz := thaw44 (W := (w.alloc x.obj).alloc What.zero.obj) (g := w.heap.size + 1) (B := w.heap.size + 2) What.zero (by omega) (heap_two_new _ _ _)
  have hsz := size_two w x.obj What.zero.obj
  have hb := below_two w x.obj What.zero.obj
  simp only [What.zero] at f0 f1 f2 f3 f4 z0 z1 z2 z3 z4 z5 hfz hsz hb
  have cclass := fun w => class_is x hx w
  have ccall := fun w => wide97_any x w
  obtain ⟨h1, h2, h3⟩ := HG.out
  go_enter Tryz.func42, Tryz.ntmps42
  go_wp2_with fail
  refine (ccall _).mono ?_
  rintro e w1 ⟨rfl, hb1⟩
  generalize hW : (w.alloc _).alloc _ = W at *
  rw [hsz] at hb1
  have hr := HM.out
  generalize wideM x = r at *
  obtain ⟨⟨r0, r1, r2, r3, r4, r5⟩, rb⟩ := r
  simp only at *
  have y0 := hfz 0 w1 hb1
  have y1 := hfz 1 w1 hb1
  have y2 := hfz 2 w1 hb1
  have y3 := hfz 3 w1 hb1
  have y4 := hfz 4 w1 hb1
  have y5 := hfz 5 w1 hb1
  replace hb := hb.trans (hb1.mono (Nat.le_add_right _ 2))
  go_wp2_with fail
  rw [hr]
  refine bodyPost_ret (v := .tuple #[.agg #[_, _, _, _, _, _], .bool _]) ?_ rfl ⟨rfl, ?_⟩
  · simp [results, Tryz.results42, go_sem, *]
  · (with_reducible repeat (first | assumption | refine Below.setCell ?_ (Nat.le_succ _) _ | refine sbelow_drew ?_ | refine sbelow_drewN ?_ | refine sbelow_alloc ?_ (Nat.le_refl _)))

set_option maxRecDepth 100000 in
set_option maxHeartbeats 16000000 in
theorem what_D1 (x : Insn) (hx : x.Ok) (w : World) (hG0 : (¬ 10 < x.dst ∧ ¬ 10 < x.src ∧ (x.op == 24) = false ∧ (x.op == 212) = true)) (hM0 : whatM x = swapsM x) : Calls Tryz.prog 42 #[x.val] w (WhatAnd w (whatM x)) := by
  have HG := Lib.hid hG0
  have HM := Lib.hid hM0
  clear hG0 hM0
  obtain ⟨f0, f1, f2, f3, f4⟩ := box_two x w What.zero.obj
  obtain ⟨z0, z1, z2, z3, z4, z5⟩ := box44 (W := (w.alloc x.obj).alloc What.zero.obj) (g := w.heap.size + 1) (B := w.heap.size + 2) What.zero (by omega) (heap_two_new _ _ _)
  have hfz := thaw44 (W := (w.alloc x.obj).alloc What.zero.obj) (g := w.heap.size + 1) (B := w.heap.size + 2) What.zero (by omega) (heap_two_new _ _ _)
  have hsz := size_two w x.obj What.zero.obj
  have hb := below_two w x.obj What.zero.obj
  simp only [What.zero] at f0 f1 f2 f3 f4 z0 z1 z2 z3 z4 z5 hfz hsz hb
  have cclass := fun w => class_is x hx w
  have ccall := fun w => swaps_any x hx w
  obtain ⟨h1, h2, h3, h4⟩ := HG.out
  go_enter Tryz.func42, Tryz.ntmps42
  go_wp2_with fail
  refine (ccall _).mono ?_
  rintro e w1 ⟨rfl, hb1⟩
  generalize hW : (w.alloc _).alloc _ = W at *
  rw [hsz] at hb1
  have hr := HM.out
  generalize swapsM x = r at *
  obtain ⟨⟨r0, r1, r2, r3, r4, r5⟩, rb⟩ := r
  simp only at *
  have y0 := hfz 0 w1 hb1
  have y1 := hfz 1 w1 hb1
  have y2 := hfz 2 w1 hb1
  have y3 := hfz 3 w1 hb1
  have y4 := hfz 4 w1 hb1
  have y5 := hfz 5 w1 hb1
  replace hb := hb.trans (hb1.mono (Nat.le_add_right _ 2))
  go_wp2_with fail
  rw [hr]
  refine bodyPost_ret (v := .tuple #[.agg #[_, _, _, _, _, _], .bool _]) ?_ rfl ⟨rfl, ?_⟩
  · simp [results, Tryz.results42, go_sem, *]
  · (with_reducible repeat (first | assumption | refine Below.setCell ?_ (Nat.le_succ _) _ | refine sbelow_drew ?_ | refine sbelow_drewN ?_ | refine sbelow_alloc ?_ (Nat.le_refl _)))

set_option maxRecDepth 100000 in
set_option maxHeartbeats 16000000 in
theorem what_D2 (x : Insn) (hx : x.Ok) (w : World) (hG0 : (¬ 10 < x.dst ∧ ¬ 10 < x.src ∧ (x.op == 24) = false ∧ (x.op == 212) = false ∧ (x.op == 220) = true)) (hM0 : whatM x = swapsM x) : Calls Tryz.prog 42 #[x.val] w (WhatAnd w (whatM x)) := by
  have HG := Lib.hid hG0
  have HM := Lib.hid hM0
  clear hG0 hM0
  obtain ⟨f0, f1, f2, f3, f4⟩ := box_two x w What.zero.obj
  obtain ⟨z0, z1, z2, z3, z4, z5⟩ := box44 (W := (w.alloc x.obj).alloc What.zero.obj) (g := w.heap.size + 1) (B := w.heap.size + 2) What.zero (by omega) (heap_two_new _ _ _)
  have hfz := thaw44 (W := (w.alloc x.obj).alloc What.zero.obj) (g := w.heap.size + 1) (B := w.heap.size + 2) What.zero (by omega) (heap_two_new _ _ _)
  have hsz := size_two w x.obj What.zero.obj
  have hb := below_two w x.obj What.zero.obj
  simp only [What.zero] at f0 f1 f2 f3 f4 z0 z1 z2 z3 z4 z5 hfz hsz hb
  have cclass := fun w => class_is x hx w
  have ccall := fun w => swaps_any x hx w
  obtain ⟨h1, h2, h3, h4, h5⟩ := HG.out
  go_enter Tryz.func42, Tryz.ntmps42
  go_wp2_with fail
  refine (ccall _).mono ?_
  rintro e w1 ⟨rfl, hb1⟩
  generalize hW : (w.alloc _).alloc _ = W at *
  rw [hsz] at hb1
  have hr := HM.out
  generalize swapsM x = r at *
  obtain ⟨⟨r0, r1, r2, r3, r4, r5⟩, rb⟩ := r
  simp only at *
  have y0 := hfz 0 w1 hb1
  have y1 := hfz 1 w1 hb1
  have y2 := hfz 2 w1 hb1
  have y3 := hfz 3 w1 hb1
  have y4 := hfz 4 w1 hb1
  have y5 := hfz 5 w1 hb1
  replace hb := hb.trans (hb1.mono (Nat.le_add_right _ 2))
  go_wp2_with fail
  rw [hr]
  refine bodyPost_ret (v := .tuple #[.agg #[_, _, _, _, _, _], .bool _]) ?_ rfl ⟨rfl, ?_⟩
  · simp [results, Tryz.results42, go_sem, *]
  · (with_reducible repeat (first | assumption | refine Below.setCell ?_ (Nat.le_succ _) _ | refine sbelow_drew ?_ | refine sbelow_drewN ?_ | refine sbelow_alloc ?_ (Nat.le_refl _)))

set_option maxRecDepth 100000 in
set_option maxHeartbeats 16000000 in
theorem what_D3 (x : Insn) (hx : x.Ok) (w : World) (hG0 : (¬ 10 < x.dst ∧ ¬ 10 < x.src ∧ (x.op == 24) = false ∧ (x.op == 212) = false ∧ (x.op == 220) = false ∧ (x.op == 215) = true)) (hM0 : whatM x = swapsM x) : Calls Tryz.prog 42 #[x.val] w (WhatAnd w (whatM x)) := by
  have HG := Lib.hid hG0
  have HM := Lib.hid hM0
  clear hG0 hM0
  obtain ⟨f0, f1, f2, f3, f4⟩ := box_two x w What.zero.obj
  obtain ⟨z0, z1, z2, z3, z4, z5⟩ := box44 (W := (w.alloc x.obj).alloc What.zero.obj) (g := w.heap.size + 1) (B := w.heap.size + 2) What.zero (by omega) (heap_two_new _ _ _)
  have hfz := thaw44 (W := (w.alloc x.obj).alloc What.zero.obj) (g := w.heap.size + 1) (B := w.heap.size + 2) What.zero (by omega) (heap_two_new _ _ _)
  have hsz := size_two w x.obj What.zero.obj
  have hb := below_two w x.obj What.zero.obj
  simp only [What.zero] at f0 f1 f2 f3 f4 z0 z1 z2 z3 z4 z5 hfz hsz hb
  have cclass := fun w => class_is x hx w
  have ccall := fun w => swaps_any x hx w
  obtain ⟨h1, h2, h3, h4, h5, h6⟩ := HG.out
  go_enter Tryz.func42, Tryz.ntmps42
  go_wp2_with fail
  refine (ccall _).mono ?_
  rintro e w1 ⟨rfl, hb1⟩
  generalize hW : (w.alloc _).alloc _ = W at *
  rw [hsz] at hb1
  have hr := HM.out
  generalize swapsM x = r at *
  obtain ⟨⟨r0, r1, r2, r3, r4, r5⟩, rb⟩ := r
  simp only at *
  have y0 := hfz 0 w1 hb1
  have y1 := hfz 1 w1 hb1
  have y2 := hfz 2 w1 hb1
  have y3 := hfz 3 w1 hb1
  have y4 := hfz 4 w1 hb1
  have y5 := hfz 5 w1 hb1
  replace hb := hb.trans (hb1.mono (Nat.le_add_right _ 2))
  go_wp2_with fail
  rw [hr]
  refine bodyPost_ret (v := .tuple #[.agg #[_, _, _, _, _, _], .bool _]) ?_ rfl ⟨rfl, ?_⟩
  · simp [results, Tryz.results42, go_sem, *]
  · (with_reducible repeat (first | assumption | refine Below.setCell ?_ (Nat.le_succ _) _ | refine sbelow_drew ?_ | refine sbelow_drewN ?_ | refine sbelow_alloc ?_ (Nat.le_refl _)))
end Go.Proofs.YtncogaikiceidaaGreat
end

section
/- What an instruction does, by the program, before what is none is nothing: other ways. No statement is proved here. -/
namespace Go.Proofs.YtncogaikiceidaaGreat
open Go.RowKit
set_option linter.unusedSimpArgs false
set_option linter.unusedVariables false
set_option maxRecDepth 100000 in
set_option maxHeartbeats 16000000 in
theorem what_E4 (x : Insn) (hx : x.Ok) (w : World) (hG0 : (¬ 10 < x.dst ∧ ¬ 10 < x.src ∧ (x.op == 24) = false ∧ (x.op == 212) = false ∧ (x.op == 220) = false ∧ (x.op == 215) = false ∧ x.op % 8 = 4)) (hM0 : whatM x = arithM x) : Calls Tryz.prog 42 #[x.val] w (WhatAnd w (whatM x)) := by
  have HG := Lib.hid hG0
  have HM := Lib.hid hM0
  clear hG0 hM0
  obtain ⟨f0, f1, f2, f3, f4⟩ := box_two x w What.zero.obj
  obtain ⟨z0, z1, z2, z3, z4, z5⟩ := box44 (W := (w.alloc x.obj).alloc What.zero.obj) (g := w.heap.size + 1) (B := w.heap.size + 2) What.zero (by omega) (heap_two_new _ _ _)
  have hfz := thaw44 (W := (w.alloc x.obj).alloc What.zero.obj) (g := w.heap.size + 1) (B := w.heap.size + 2) What.zero (by omega) (heap_two_new _ _ _)
  have hsz := size_two w x.obj What.zero.obj
  have hb := below_two w x.obj What.zero.obj
  simp only [What.zero] at f0 f1 f2 f3 f4 z0 z1 z2 z3 z4 z5 hfz hsz hb
  have cclass := fun w => class_is x hx w
  have ccall := fun w => arith_any x hx w
  obtain ⟨h1, h2, h3, h4, h5, h6, hc⟩ := HG.out
  go_enter Tryz.func42, Tryz.ntmps42
  go_wp2_with fail
  refine (cclass _).mono ?_
  rintro e w0 ⟨rfl, rfl⟩
  go_wp2_with fail
  refine (ccall _).mono ?_
  rintro e w1 ⟨rfl, hb1⟩
  generalize hW : (w.alloc _).alloc _ = W at *
  replace hb1 := (sbelow_alloc (o := x.obj) (Below.refl (w.heap.size + 2) W) (by omega)).trans (hb1.mono (by simp; omega))
  have hr := HM.out
  generalize arithM x = r at *
  obtain ⟨⟨r0, r1, r2, r3, r4, r5⟩, rb⟩ := r
  simp only at *
  have y0 := hfz 0 w1 hb1
  have y1 := hfz 1 w1 hb1
  have y2 := hfz 2 w1 hb1
  have y3 := hfz 3 w1 hb1
  have y4 := hfz 4 w1 hb1
  have y5 := hfz 5 w1 hb1
  replace hb := hb.trans (hb1.mono (Nat.le_add_right _ 2))
  go_wp2_with fail
  rw [hr]
  refine bodyPost_ret (v := .tuple #[.agg #[_, _, _, _, _, _], .bool _]) ?_ rfl ⟨rfl, ?_⟩
  · simp [results, Tryz.results42, go_sem, *]
  · (with_reducible repeat (first | assumption | refine Below.setCell ?_ (Nat.le_succ _) _ | refine sbelow_drew ?_ | refine sbelow_drewN ?_ | refine sbelow_alloc ?_ (Nat.le_refl _)))

set_option maxRecDepth 100000 in
set_option maxHeartbeats 16000000 in
theorem what_E7 (x : Insn) (hx : x.Ok) (w : World) (hG0 : (¬ 10 < x.dst ∧ ¬ 10 < x.src ∧ (x.op == 24) = false ∧ (x.op == 212) = false ∧ (x.op == 220) = false ∧ (x.op == 215) = false ∧ x.op % 8 = 7)) (hM0 : whatM x = arithM x) : Calls Tryz.prog 42 #[x.val] w (WhatAnd w (whatM x)) := by
  have HG := Lib.hid hG0
  have HM := Lib.hid hM0
  clear hG0 hM0
  obtain ⟨f0, f1, f2, f3, f4⟩ := box_two x w What.zero.obj
  obtain ⟨z0, z1, z2, z3, z4, z5⟩ := box44 (W := (w.alloc x.obj).alloc What.zero.obj) (g := w.heap.size + 1) (B := w.heap.size + 2) What.zero (by omega) (heap_two_new _ _ _)
  have hfz := thaw44 (W := (w.alloc x.obj).alloc What.zero.obj) (g := w.heap.size + 1) (B := w.heap.size + 2) What.zero (by omega) (heap_two_new _ _ _)
  have hsz := size_two w x.obj What.zero.obj
  have hb := below_two w x.obj What.zero.obj
  simp only [What.zero] at f0 f1 f2 f3 f4 z0 z1 z2 z3 z4 z5 hfz hsz hb
  have cclass := fun w => class_is x hx w
  have ccall := fun w => arith_any x hx w
  obtain ⟨h1, h2, h3, h4, h5, h6, hc⟩ := HG.out
  go_enter Tryz.func42, Tryz.ntmps42
  go_wp2_with fail
  refine (cclass _).mono ?_
  rintro e w0 ⟨rfl, rfl⟩
  go_wp2_with fail
  refine (ccall _).mono ?_
  rintro e w1 ⟨rfl, hb1⟩
  generalize hW : (w.alloc _).alloc _ = W at *
  replace hb1 := (sbelow_alloc (o := x.obj) (Below.refl (w.heap.size + 2) W) (by omega)).trans (hb1.mono (by simp; omega))
  have hr := HM.out
  generalize arithM x = r at *
  obtain ⟨⟨r0, r1, r2, r3, r4, r5⟩, rb⟩ := r
  simp only at *
  have y0 := hfz 0 w1 hb1
  have y1 := hfz 1 w1 hb1
  have y2 := hfz 2 w1 hb1
  have y3 := hfz 3 w1 hb1
  have y4 := hfz 4 w1 hb1
  have y5 := hfz 5 w1 hb1
  replace hb := hb.trans (hb1.mono (Nat.le_add_right _ 2))
  go_wp2_with fail
  rw [hr]
  refine bodyPost_ret (v := .tuple #[.agg #[_, _, _, _, _, _], .bool _]) ?_ rfl ⟨rfl, ?_⟩
  · simp [results, Tryz.results42, go_sem, *]
  · (with_reducible repeat (first | assumption | refine Below.setCell ?_ (Nat.le_succ _) _ | refine sbelow_drew ?_ | refine sbelow_drewN ?_ | refine sbelow_alloc ?_ (Nat.le_refl _)))

set_option maxRecDepth 100000 in
set_option maxHeartbeats 16000000 in
theorem what_F5 (x : Insn) (hx : x.Ok) (w : World) (hG0 : (¬ 10 < x.dst ∧ ¬ 10 < x.src ∧ (x.op == 24) = false ∧ (x.op == 212) = false ∧ (x.op == 220) = false ∧ (x.op == 215) = false ∧ x.op % 8 = 5)) (hM0 : whatM x = jumpsM x) : Calls Tryz.prog 42 #[x.val] w (WhatAnd w (whatM x)) := by
  have HG := Lib.hid hG0
  have HM := Lib.hid hM0
  clear hG0 hM0
  obtain ⟨f0, f1, f2, f3, f4⟩ := box_two x w What.zero.obj
  obtain ⟨z0, z1, z2, z3, z4, z5⟩ := box44 (W := (w.alloc x.obj).alloc What.zero.obj) (g := w.heap.size + 1) (B := w.heap.size + 2) What.zero (by omega) (heap_two_new _ _ _)
  have hfz := thaw44 (W := (w.alloc x.obj).alloc What.zero.obj) (g := w.heap.size + 1) (B := w.heap.size + 2) What.zero (by omega) (heap_two_new _ _ _)
  have hsz := size_two w x.obj What.zero.obj
  have hb := below_two w x.obj What.zero.obj
  simp only [What.zero] at f0 f1 f2 f3 f4 z0 z1 z2 z3 z4 z5 hfz hsz hb
  have cclass := fun w => class_is x hx w
  have ccall := fun w => jumps_any x hx w
  obtain ⟨h1, h2, h3, h4, h5, h6, hc⟩ := HG.out
  go_enter Tryz.func42, Tryz.ntmps42
  go_wp2_with fail
  refine (cclass _).mono ?_
  rintro e w0 ⟨rfl, rfl⟩
  go_wp2_with fail
  refine (ccall _).mono ?_
  rintro e w1 ⟨rfl, hb1⟩
  generalize hW : (w.alloc _).alloc _ = W at *
  replace hb1 := (sbelow_alloc (o := x.obj) (Below.refl (w.heap.size + 2) W) (by omega)).trans (hb1.mono (by simp; omega))
  have hr := HM.out
  generalize jumpsM x = r at *
  obtain ⟨⟨r0, r1, r2, r3, r4, r5⟩, rb⟩ := r
  simp only at *
  have y0 := hfz 0 w1 hb1
  have y1 := hfz 1 w1 hb1
  have y2 := hfz 2 w1 hb1
  have y3 := hfz 3 w1 hb1
  have y4 := hfz 4 w1 hb1
  have y5 := hfz 5 w1 hb1
  replace hb := hb.trans (hb1.mono (Nat.le_add_right _ 2))
  go_wp2_with fail
  rw [hr]
  refine bodyPost_ret (v := .tuple #[.agg #[_, _, _, _, _, _], .bool _]) ?_ rfl ⟨rfl, ?_⟩
  · simp [results, Tryz.results42, go_sem, *]
  · (with_reducible repeat (first | assumption | refine Below.setCell ?_ (Nat.le_succ _) _ | refine sbelow_drew ?_ | refine sbelow_drewN ?_ | refine sbelow_alloc ?_ (Nat.le_refl _)))

set_option maxRecDepth 100000 in
set_option maxHeartbeats 16000000 in
theorem what_F6 (x : Insn) (hx : x.Ok) (w : World) (hG0 : (¬ 10 < x.dst ∧ ¬ 10 < x.src ∧ (x.op == 24) = false ∧ (x.op == 212) = false ∧ (x.op == 220) = false ∧ (x.op == 215) = false ∧ x.op % 8 = 6)) (hM0 : whatM x = jumpsM x) : Calls Tryz.prog 42 #[x.val] w (WhatAnd w (whatM x)) := by
  have HG := Lib.hid hG0
  have HM := Lib.hid hM0
  clear hG0 hM0
  obtain ⟨f0, f1, f2, f3, f4⟩ := box_two x w What.zero.obj
  obtain ⟨z0, z1, z2, z3, z4, z5⟩ := box44 (W := (w.alloc x.obj).alloc What.zero.obj) (g := w.heap.size + 1) (B := w.heap.size + 2) What.zero (by omega) (heap_two_new _ _ _)
  have hfz := thaw44 (W := (w.alloc x.obj).alloc What.zero.obj) (g := w.heap.size + 1) (B := w.heap.size + 2) What.zero (by omega) (heap_two_new _ _ _)
  have hsz := size_two w x.obj What.zero.obj
  have hb := below_two w x.obj What.zero.obj
  simp only [What.zero] at f0 f1 f2 f3 f4 z0 z1 z2 z3 z4 z5 hfz hsz hb
  have cclass := fun w => class_is x hx w
  have ccall := fun w => jumps_any x hx w
  obtain ⟨h1, h2, h3, h4, h5, h6, hc⟩ := HG.out
  go_enter Tryz.func42, Tryz.ntmps42
  go_wp2_with fail
  refine (cclass _).mono ?_
  rintro e w0 ⟨rfl, rfl⟩
  go_wp2_with fail
  refine (ccall _).mono ?_
  rintro e w1 ⟨rfl, hb1⟩
  generalize hW : (w.alloc _).alloc _ = W at *
  replace hb1 := (sbelow_alloc (o := x.obj) (Below.refl (w.heap.size + 2) W) (by omega)).trans (hb1.mono (by simp; omega))
  have hr := HM.out
  generalize jumpsM x = r at *
  obtain ⟨⟨r0, r1, r2, r3, r4, r5⟩, rb⟩ := r
  simp only at *
  have y0 := hfz 0 w1 hb1
  have y1 := hfz 1 w1 hb1
  have y2 := hfz 2 w1 hb1
  have y3 := hfz 3 w1 hb1
  have y4 := hfz 4 w1 hb1
  have y5 := hfz 5 w1 hb1
  replace hb := hb.trans (hb1.mono (Nat.le_add_right _ 2))
  go_wp2_with fail
  rw [hr]
  refine bodyPost_ret (v := .tuple #[.agg #[_, _, _, _, _, _], .bool _]) ?_ rfl ⟨rfl, ?_⟩
  · simp [results, Tryz.results42, go_sem, *]
  · (with_reducible repeat (first | assumption | refine Below.setCell ?_ (Nat.le_succ _) _ | refine sbelow_drew ?_ | refine sbelow_drewN ?_ | refine sbelow_alloc ?_ (Nat.le_refl _)))

set_option maxRecDepth 100000 in
set_option maxHeartbeats 16000000 in
theorem what_G (x : Insn) (hx : x.Ok) (w : World) (hG0 : (¬ 10 < x.dst ∧ ¬ 10 < x.src ∧ (x.op == 24) = false ∧ (x.op == 212) = false ∧ (x.op == 220) = false ∧ (x.op == 215) = false ∧ x.op % 8 = 0)) (hM0 : whatM x = (What.zero, false)) : Calls Tryz.prog 42 #[x.val] w (WhatAnd w (whatM x)) := by
  have HG := Lib.hid hG0
  have HM := Lib.hid hM0
  clear hG0 hM0
  obtain ⟨f0, f1, f2, f3, f4⟩ := box_two x w What.zero.obj
  obtain ⟨z0, z1, z2, z3, z4, z5⟩ := box44 (W := (w.alloc x.obj).alloc What.zero.obj) (g := w.heap.size + 1) (B := w.heap.size + 2) What.zero (by omega) (heap_two_new _ _ _)
  have hfz := thaw44 (W := (w.alloc x.obj).alloc What.zero.obj) (g := w.heap.size + 1) (B := w.heap.size + 2) What.zero (by omega) (heap_two_new _ _ _)
  have hsz := size_two w x.obj What.zero.obj
  have hb := below_two w x.obj What.zero.obj
  simp only [What.zero] at f0 f1 f2 f3 f4 z0 z1 z2 z3 z4 z5 hfz hsz hb
  have cclass := fun w => class_is x hx w
  obtain ⟨h1, h2, h3, h4, h5, h6, hc⟩ := HG.out
  go_enter Tryz.func42, Tryz.ntmps42
  go_wp2_with fail
  refine (cclass _).mono ?_
  rintro e w0 ⟨rfl, rfl⟩
  go_wp2_with fail
  have hr := HM.out
  rw [hr]
  refine bodyPost_ret (v := .tuple #[What.zero.val, .bool false]) ?_ rfl ⟨rfl, ?_⟩
  · simp [results, Tryz.results42, go_sem, What.zero, *]
  · (with_reducible repeat (first | assumption | refine Below.setCell ?_ (Nat.le_succ _) _ | refine sbelow_drew ?_ | refine sbelow_drewN ?_ | refine sbelow_alloc ?_ (Nat.le_refl _)))

set_option maxRecDepth 100000 in
set_option maxHeartbeats 16000000 in
theorem what_H (x : Insn) (hx : x.Ok) (w : World) (hG0 : (¬ 10 < x.dst ∧ ¬ 10 < x.src ∧ (x.op == 24) = false ∧ (x.op == 212) = false ∧ (x.op == 220) = false ∧ (x.op == 215) = false ∧ x.op % 8 ≠ 0 ∧ x.op % 8 ≠ 4 ∧ x.op % 8 ≠ 5 ∧ x.op % 8 ≠ 6 ∧ x.op % 8 ≠ 7)) (hM0 : whatM x = movesM x) : Calls Tryz.prog 42 #[x.val] w (WhatAnd w (whatM x)) := by
  have HG := Lib.hid hG0
  have HM := Lib.hid hM0
  clear hG0 hM0
  obtain ⟨f0, f1, f2, f3, f4⟩ := box_two x w What.zero.obj
  obtain ⟨z0, z1, z2, z3, z4, z5⟩ := box44 (W := (w.alloc x.obj).alloc What.zero.obj) (g := w.heap.size + 1) (B := w.heap.size + 2) What.zero (by omega) (heap_two_new _ _ _)
  have hfz := thaw44 (W := (w.alloc x.obj).alloc What.zero.obj) (g := w.heap.size + 1) (B := w.heap.size + 2) What.zero (by omega) (heap_two_new _ _ _)
  have hsz := size_two w x.obj What.zero.obj
  have hb := below_two w x.obj What.zero.obj
  simp only [What.zero] at f0 f1 f2 f3 f4 z0 z1 z2 z3 z4 z5 hfz hsz hb
  have cclass := fun w => class_is x hx w
  have ccall := fun w => moves_any x hx w
  obtain ⟨h1, h2, h3, h4, h5, h6, hc0, hc4, hc5, hc6, hc7⟩ := HG.out
  go_enter Tryz.func42, Tryz.ntmps42
  go_wp2_with fail
  refine (cclass _).mono ?_
  rintro e w0 ⟨rfl, rfl⟩
  go_wp2_with fail
  refine (ccall _).mono ?_
  rintro e w1 ⟨rfl, hb1⟩
  generalize hW : (w.alloc _).alloc _ = W at *
  replace hb1 := (sbelow_alloc (o := x.obj) (Below.refl (w.heap.size + 2) W) (by omega)).trans (hb1.mono (by simp; omega))
  have hr := HM.out
  generalize movesM x = r at *
  obtain ⟨⟨r0, r1, r2, r3, r4, r5⟩, rb⟩ := r
  simp only at *
  have y0 := hfz 0 w1 hb1
  have y1 := hfz 1 w1 hb1
  have y2 := hfz 2 w1 hb1
  have y3 := hfz 3 w1 hb1
  have y4 := hfz 4 w1 hb1
  have y5 := hfz 5 w1 hb1
  replace hb := hb.trans (hb1.mono (Nat.le_add_right _ 2))
  go_wp2_with fail
  rw [hr]
  refine bodyPost_ret (v := .tuple #[.agg #[_, _, _, _, _, _], .bool _]) ?_ rfl ⟨rfl, ?_⟩
  · simp [results, Tryz.results42, go_sem, *]
  · (with_reducible repeat (first | assumption | refine Below.setCell ?_ (Nat.le_succ _) _ | refine sbelow_drew ?_ | refine sbelow_drewN ?_ | refine sbelow_alloc ?_ (Nat.le_refl _)))
end Go.Proofs.YtncogaikiceidaaGreat
end

section
/- What an instruction does, by the program. No statement is proved here. -/
namespace Go.Proofs.YtncogaikiceidaaGreat
open Go.RowKit
set_option linter.unusedSimpArgs false
set_option linter.unusedVariables false
theorem what_any (x : Insn) (hx : x.Ok) (w : World) : Calls Tryz.prog 42 #[x.val] w (WhatAnd w (whatM x)) := by
  have h0 := hx.op0
  have h1 := hx.op1
  by_cases hA : 10 < x.dst
  · exact what_A x hx w hA (by simp [whatM, hA])
  by_cases hB : 10 < x.src
  · exact what_B x hx w ⟨hA, hB⟩ (by simp [whatM, hB])
  have hd : ¬ (10 < x.dst ∨ 10 < x.src) := by omega
  cases h24 : (x.op == 24)
  · have n24 : ¬ x.op = 24 := by simpa using h24
    cases h212 : (x.op == 212)
    · have n212 : ¬ x.op = 212 := by simpa using h212
      cases h220 : (x.op == 220)
      · have n220 : ¬ x.op = 220 := by simpa using h220
        cases h215 : (x.op == 215)
        · have n215 : ¬ x.op = 215 := by simpa using h215
          have hn : ¬ (x.op = 212 ∨ x.op = 220 ∨ x.op = 215) := by omega
          have e : whatM x = if x.op % 8 = 4 ∨ x.op % 8 = 7 then arithM x else if x.op % 8 = 5 ∨ x.op % 8 = 6 then jumpsM x else if x.op % 8 = 0 then (What.zero, false) else movesM x := by
            unfold whatM
            rw [if_neg hd, if_neg n24, if_neg hn]
          by_cases c4 : x.op % 8 = 4
          · exact what_E4 x hx w ⟨hA, hB, h24, h212, h220, h215, c4⟩ (by rw [e, if_pos (.inl c4)])
          by_cases c7 : x.op % 8 = 7
          · exact what_E7 x hx w ⟨hA, hB, h24, h212, h220, h215, c7⟩ (by rw [e, if_pos (.inr c7)])
          by_cases c5 : x.op % 8 = 5
          · exact what_F5 x hx w ⟨hA, hB, h24, h212, h220, h215, c5⟩ (by rw [e, if_neg (by omega), if_pos (.inl c5)])
          by_cases c6 : x.op % 8 = 6
          · exact what_F6 x hx w ⟨hA, hB, h24, h212, h220, h215, c6⟩ (by rw [e, if_neg (by omega), if_pos (.inr c6)])
          by_cases c0 : x.op % 8 = 0
          · exact what_G x hx w ⟨hA, hB, h24, h212, h220, h215, c0⟩ (by rw [e, if_neg (by omega), if_neg (by omega), if_pos c0])
          · exact what_H x hx w ⟨hA, hB, h24, h212, h220, h215, c0, c4, c5, c6, c7⟩ (by rw [e, if_neg (by omega), if_neg (by omega), if_neg c0])
        · have n215 : x.op = 215 := by simpa using h215
          exact what_D3 x hx w ⟨hA, hB, h24, h212, h220, h215⟩ (by unfold whatM; rw [if_neg hd, if_neg n24, if_pos (by omega)])
      · have n220 : x.op = 220 := by simpa using h220
        exact what_D2 x hx w ⟨hA, hB, h24, h212, h220⟩ (by unfold whatM; rw [if_neg hd, if_neg n24, if_pos (by omega)])
    · have n212 : x.op = 212 := by simpa using h212
      exact what_D1 x hx w ⟨hA, hB, h24, h212⟩ (by unfold whatM; rw [if_neg hd, if_neg n24, if_pos (by omega)])
  · have n24 : x.op = 24 := by simpa using h24
    exact what_C x hx w ⟨hA, hB, h24⟩ (by unfold whatM; rw [if_neg hd, if_pos n24])
set_option maxRecDepth 100000 in
set_option maxHeartbeats 16000000 in
theorem sem_any (x : Insn) (hx : x.Ok) (w : World) : Calls Tryz.prog 19 #[x.val] w (WhatAnd w (sem x)) := by
  obtain ⟨f0, f1, f2, f3, f4⟩ := box_two x w What.zero.obj
  obtain ⟨z0, z1, z2, z3, z4, z5⟩ := box44 (W := (w.alloc x.obj).alloc What.zero.obj) (g := w.heap.size + 1) (B := w.heap.size + 2) What.zero (by omega) (heap_two_new _ _ _)
  have hfz := thaw44 (W := (w.alloc x.obj).alloc What.zero.obj) (g := w.heap.size + 1) (B := w.heap.size + 2) What.zero (by omega) (heap_two_new _ _ _)
  have hsz := size_two w x.obj What.zero.obj
  have hb := below_two w x.obj What.zero.obj
  simp only [What.zero] at f0 f1 f2 f3 f4 z0 z1 z2 z3 z4 z5 hfz hsz hb
  have ccall := fun w => what_any x hx w
  go_enter Tryz.func19, Tryz.ntmps19
  go_wp2_with fail
  refine (ccall _).mono ?_
  rintro e w1 ⟨rfl, hb1⟩
  generalize hW : (w.alloc _).alloc _ = W at *
  rw [hsz] at hb1
  have hr : sem x = norm (whatM x) := rfl
  generalize whatM x = r at *
  obtain ⟨⟨r0, r1, r2, r3, r4, r5⟩, rb⟩ := r
  simp only at *
  have y0 := hfz 0 w1 hb1
  have y1 := hfz 1 w1 hb1
  have y2 := hfz 2 w1 hb1
  have y3 := hfz 3 w1 hb1
  have y4 := hfz 4 w1 hb1
  have y5 := hfz 5 w1 hb1
  have hs1 : w.heap.size + 1 < w1.heap.size := by have := hb1.size; omega
  replace hb := hb.trans (hb1.mono (Nat.le_add_right _ 2))
  cases rb
  · go_wp2_with fail
    rw [hr]
    refine bodyPost_ret (v := .tuple #[What.zero.val, .bool false]) ?_ rfl ⟨rfl, ?_⟩
    · simp [results, Tryz.results19, go_sem, What.zero, *]
    · (with_reducible repeat (first | assumption | refine Below.setCell ?_ (Nat.le_succ _) _ | refine sbelow_drew ?_ | refine sbelow_drewN ?_ | refine sbelow_alloc ?_ (Nat.le_refl _)))
  · go_wp2_with fail
    rw [hr]
    refine bodyPost_ret (v := .tuple #[.agg #[_, _, _, _, _, _], .bool true]) ?_ rfl ⟨rfl, ?_⟩
    · simp [results, Tryz.results19, go_sem, norm, *]
    · (with_reducible repeat (first | assumption | refine Below.setCell ?_ (Nat.le_succ _) _ | refine sbelow_drew ?_ | refine sbelow_drewN ?_ | refine sbelow_alloc ?_ (Nat.le_refl _)))
end Go.Proofs.YtncogaikiceidaaGreat
end
