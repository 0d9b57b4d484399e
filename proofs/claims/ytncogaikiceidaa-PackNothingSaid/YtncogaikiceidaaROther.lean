/- The reference's other instructions. No statement is proved here. -/
import Derived.Test.YtncogaikiceidaaRefIn
import Derived.Deep.CutBlock
import Derived.Test.YtncogaikiceidaaRSwapsA
import Derived.Test.YtncogaikiceidaaRSwapsB
import Derived.Test.YtncogaikiceidaaRSwapsC
section
/- The reference's other: what is told by its Op. No statement is proved here. -/
namespace Go.Proofs.Ytncogaikiceidaa
set_option maxRecDepth 100000
open Go.RowKit
set_option linter.unusedSimpArgs false
set_option linter.unusedVariables false
set_option linter.unnecessarySimpa false
attribute [local go_sem ↓] Go.wp_at_zero Go.wp_at_succ
set_option maxHeartbeats 16000000 in
theorem rother_a0 (x : Insn) (w : World) (hG0 : (x.op == 212) = false ∧ (x.op == 220) = false ∧ (x.op == 215) = false ∧ (x.op == 24) = true ∧ (x.src == 0) = true ∧ (x.dst != 10) = false) (hM0 : rotherM x = (⟨3, 0, true, false, false, 0⟩, false)) : Calls Try.prog 41 #[x.val] w (WhatAnd w (rotherM x)) := by
  have HM := Lib.hid hM0
  have hbel : ∀ o o', Below w.heap.size w ((w.alloc o).alloc o') := fun o o' => below_two w o o'
  have hbel3 : ∀ o o' o'', Below w.heap.size w (((w.alloc o).alloc o').alloc o'') := fun o o' o'' => (below_two w o o').alloc (by rw [size_two]; omega) _
  clear hM0
  obtain ⟨h2, h3, h4, h5, hs, hd⟩ := hG0
  go_enter Try.func41, Try.ntmps41
  go_wp2_with fail
  go_region
  go_wp2_with fail
  rw [HM.out]
  refine bodyPost_ret (v := .tuple #[.agg #[_, _, _, _, _, _], .bool _]) ?_ rfl ⟨rfl, ?_⟩
  · simp [results, Try.results41, go_sem, *]
  · (with_reducible first | exact hbel _ _ | exact (hbel _ _).drew | exact below_drewN (hbel _ _) _ | exact hbel3 _ _ _)

set_option maxHeartbeats 16000000 in
theorem rother_a1 (x : Insn) (w : World) (hG0 : (x.op == 212) = false ∧ (x.op == 220) = false ∧ (x.op == 215) = false ∧ (x.op == 24) = true ∧ (x.src == 0) = true ∧ (x.dst != 10) = true) (hM0 : rotherM x = (⟨3, 0, true, false, false, 0⟩, x.off == 0)) : Calls Try.prog 41 #[x.val] w (WhatAnd w (rotherM x)) := by
  have HM := Lib.hid hM0
  have hbel : ∀ o o', Below w.heap.size w ((w.alloc o).alloc o') := fun o o' => below_two w o o'
  have hbel3 : ∀ o o' o'', Below w.heap.size w (((w.alloc o).alloc o').alloc o'') := fun o o' o'' => (below_two w o o').alloc (by rw [size_two]; omega) _
  clear hM0
  obtain ⟨h2, h3, h4, h5, hs, hd⟩ := hG0
  go_enter Try.func41, Try.ntmps41
  go_wp2_with fail
  go_region
  go_wp2_with fail
  rw [HM.out]
  refine bodyPost_ret (v := .tuple #[.agg #[_, _, _, _, _, _], .bool _]) ?_ rfl ⟨rfl, ?_⟩
  · simp [results, Try.results41, go_sem, *]
  · (with_reducible first | exact hbel _ _ | exact (hbel _ _).drew | exact below_drewN (hbel _ _) _ | exact hbel3 _ _ _)

set_option maxHeartbeats 16000000 in
theorem rother_b0 (x : Insn) (w : World) (hG0 : (x.op == 212) = false ∧ (x.op == 220) = false ∧ (x.op == 215) = false ∧ (x.op == 24) = true ∧ (x.src == 0) = false ∧ (x.dst != 10) = false) (hM0 : rotherM x = (⟨4, 0, true, false, false, 0⟩, false)) : Calls Try.prog 41 #[x.val] w (WhatAnd w (rotherM x)) := by
  have HM := Lib.hid hM0
  have hbel : ∀ o o', Below w.heap.size w ((w.alloc o).alloc o') := fun o o' => below_two w o o'
  have hbel3 : ∀ o o' o'', Below w.heap.size w (((w.alloc o).alloc o').alloc o'') := fun o o' o'' => (below_two w o o').alloc (by rw [size_two]; omega) _
  clear hM0
  obtain ⟨h2, h3, h4, h5, hs, hd⟩ := hG0
  go_enter Try.func41, Try.ntmps41
  go_wp2_with fail
  go_region
  go_wp2_with fail
  rw [HM.out]
  refine bodyPost_ret (v := .tuple #[.agg #[_, _, _, _, _, _], .bool _]) ?_ rfl ⟨rfl, ?_⟩
  · simp [results, Try.results41, go_sem, *]
  · (with_reducible first | exact hbel _ _ | exact (hbel _ _).drew | exact below_drewN (hbel _ _) _ | exact hbel3 _ _ _)

set_option maxHeartbeats 16000000 in
theorem rother_b1 (x : Insn) (w : World) (hG0 : (x.op == 212) = false ∧ (x.op == 220) = false ∧ (x.op == 215) = false ∧ (x.op == 24) = true ∧ (x.src == 0) = false ∧ (x.dst != 10) = true ∧ (x.off == 0) = false) (hM0 : rotherM x = (⟨4, 0, true, false, false, 0⟩, false)) : Calls Try.prog 41 #[x.val] w (WhatAnd w (rotherM x)) := by
  have HM := Lib.hid hM0
  have hbel : ∀ o o', Below w.heap.size w ((w.alloc o).alloc o') := fun o o' => below_two w o o'
  have hbel3 : ∀ o o' o'', Below w.heap.size w (((w.alloc o).alloc o').alloc o'') := fun o o' o'' => (below_two w o o').alloc (by rw [size_two]; omega) _
  clear hM0
  obtain ⟨h2, h3, h4, h5, hs, hd, ho⟩ := hG0
  go_enter Try.func41, Try.ntmps41
  go_wp2_with fail
  go_region
  go_wp2_with fail
  rw [HM.out]
  refine bodyPost_ret (v := .tuple #[.agg #[_, _, _, _, _, _], .bool _]) ?_ rfl ⟨rfl, ?_⟩
  · simp [results, Try.results41, go_sem, *]
  · (with_reducible first | exact hbel _ _ | exact (hbel _ _).drew | exact below_drewN (hbel _ _) _ | exact hbel3 _ _ _)

set_option maxHeartbeats 16000000 in
theorem rother_b2 (x : Insn) (w : World) (hG0 : (x.op == 212) = false ∧ (x.op == 220) = false ∧ (x.op == 215) = false ∧ (x.op == 24) = true ∧ (x.src == 0) = false ∧ (x.dst != 10) = true ∧ (x.off == 0) = true ∧ (x.src == 1) = false) (hM0 : rotherM x = (⟨4, 0, true, false, false, 0⟩, false)) : Calls Try.prog 41 #[x.val] w (WhatAnd w (rotherM x)) := by
  have HM := Lib.hid hM0
  have hbel : ∀ o o', Below w.heap.size w ((w.alloc o).alloc o') := fun o o' => below_two w o o'
  have hbel3 : ∀ o o' o'', Below w.heap.size w (((w.alloc o).alloc o').alloc o'') := fun o o' o'' => (below_two w o o').alloc (by rw [size_two]; omega) _
  clear hM0
  obtain ⟨h2, h3, h4, h5, hs, hd, ho, hq⟩ := hG0
  go_enter Try.func41, Try.ntmps41
  go_wp2_with fail
  go_region
  go_wp2_with fail
  rw [HM.out]
  refine bodyPost_ret (v := .tuple #[.agg #[_, _, _, _, _, _], .bool _]) ?_ rfl ⟨rfl, ?_⟩
  · simp [results, Try.results41, go_sem, *]
  · (with_reducible first | exact hbel _ _ | exact (hbel _ _).drew | exact below_drewN (hbel _ _) _ | exact hbel3 _ _ _)

set_option maxHeartbeats 16000000 in
theorem rother_b3 (x : Insn) (w : World) (hG0 : (x.op == 212) = false ∧ (x.op == 220) = false ∧ (x.op == 215) = false ∧ (x.op == 24) = true ∧ (x.src == 0) = false ∧ (x.dst != 10) = true ∧ (x.off == 0) = true ∧ (x.src == 1) = true) (hM0 : rotherM x = (⟨4, 0, true, false, false, 0⟩, decide (0 ≤ x.imm))) : Calls Try.prog 41 #[x.val] w (WhatAnd w (rotherM x)) := by
  have HM := Lib.hid hM0
  have hbel : ∀ o o', Below w.heap.size w ((w.alloc o).alloc o') := fun o o' => below_two w o o'
  have hbel3 : ∀ o o' o'', Below w.heap.size w (((w.alloc o).alloc o').alloc o'') := fun o o' o'' => (below_two w o o').alloc (by rw [size_two]; omega) _
  clear hM0
  obtain ⟨h2, h3, h4, h5, hs, hd, ho, hq⟩ := hG0
  go_enter Try.func41, Try.ntmps41
  go_wp2_with fail
  go_region
  go_wp2_with fail
  rw [HM.out]
  refine bodyPost_ret (v := .tuple #[.agg #[_, _, _, _, _, _], .bool _]) ?_ rfl ⟨rfl, ?_⟩
  · simp [results, Try.results41, go_sem, *]
  · (with_reducible first | exact hbel _ _ | exact (hbel _ _).drew | exact below_drewN (hbel _ _) _ | exact hbel3 _ _ _)

set_option maxHeartbeats 16000000 in
theorem rother_s5n (x : Insn) (w : World) (hG0 : (x.op == 212) = false ∧ (x.op == 220) = false ∧ (x.op == 215) = false ∧ (x.op == 24) = false ∧ (x.op == 5) = true ∧ (x.dst == 0) = false) (hM0 : rotherM x = (kindW 9, false)) : Calls Try.prog 41 #[x.val] w (WhatAnd w (rotherM x)) := by
  have HM := Lib.hid hM0
  have hbel : ∀ o o', Below w.heap.size w ((w.alloc o).alloc o') := fun o o' => below_two w o o'
  have hbel3 : ∀ o o' o'', Below w.heap.size w (((w.alloc o).alloc o').alloc o'') := fun o o' o'' => (below_two w o o').alloc (by rw [size_two]; omega) _
  clear hM0
  obtain ⟨h2, h3, h4, h5, q5, hd⟩ := hG0
  go_enter Try.func41, Try.ntmps41
  go_wp2_with fail
  rw [HM.out]
  refine bodyPost_ret (v := .tuple #[.agg #[_, _, _, _, _, _], .bool _]) ?_ rfl ⟨rfl, ?_⟩
  · simp [results, Try.results41, go_sem, kindW, *]
  · (with_reducible first | exact hbel _ _ | exact (hbel _ _).drew | exact below_drewN (hbel _ _) _ | exact hbel3 _ _ _)
set_option maxHeartbeats 16000000 in
theorem rother_s5y (x : Insn) (w : World) (hG0 : (x.op == 212) = false ∧ (x.op == 220) = false ∧ (x.op == 215) = false ∧ (x.op == 24) = false ∧ (x.op == 5) = true ∧ (x.dst == 0) = true) (hM0 : rotherM x = (kindW 9, zerosB x true false true)) : Calls Try.prog 41 #[x.val] w (WhatAnd w (rotherM x)) := by
  have HM := Lib.hid hM0
  have hbel : ∀ o o', Below w.heap.size w ((w.alloc o).alloc o') := fun o o' => below_two w o o'
  have hbel3 : ∀ o o' o'', Below w.heap.size w (((w.alloc o).alloc o').alloc o'') := fun o o' o'' => (below_two w o o').alloc (by rw [size_two]; omega) _
  clear hM0
  obtain ⟨h2, h3, h4, h5, q5, hd⟩ := hG0
  go_enter Try.func41, Try.ntmps41
  have hz8 : ∀ w, Calls Try.prog 43 #[x.val, .bool false, .bool true, .bool false] w fun e w' => e = .returned (.bool (zerosB x true false true)) ∧ w' = w.alloc x.obj := fun w => only_is x false true false w
  generalize zerosB x true false true = zz at *
  go_wp2_with fail
  refine (hz8 _).mono ?_
  rintro e w' ⟨rfl, rfl⟩
  go_wp2_with fail
  rw [HM.out]
  refine bodyPost_ret (v := .tuple #[.agg #[_, _, _, _, _, _], .bool _]) ?_ rfl ⟨rfl, ?_⟩
  · simp [results, Try.results41, go_sem, kindW, *]
  · (with_reducible first | exact hbel _ _ | exact (hbel _ _).drew | exact below_drewN (hbel _ _) _ | exact hbel3 _ _ _)

set_option maxHeartbeats 16000000 in
theorem rother_s6n (x : Insn) (w : World) (hG0 : (x.op == 212) = false ∧ (x.op == 220) = false ∧ (x.op == 215) = false ∧ (x.op == 24) = false ∧ (x.op == 5) = false ∧ (x.op == 6) = true ∧ (x.dst == 0) = false) (hM0 : rotherM x = (kindW 9, false)) : Calls Try.prog 41 #[x.val] w (WhatAnd w (rotherM x)) := by
  have HM := Lib.hid hM0
  have hbel : ∀ o o', Below w.heap.size w ((w.alloc o).alloc o') := fun o o' => below_two w o o'
  have hbel3 : ∀ o o' o'', Below w.heap.size w (((w.alloc o).alloc o').alloc o'') := fun o o' o'' => (below_two w o o').alloc (by rw [size_two]; omega) _
  clear hM0
  obtain ⟨h2, h3, h4, h5, q5, q6, hd⟩ := hG0
  go_enter Try.func41, Try.ntmps41
  go_wp2_with fail
  rw [HM.out]
  refine bodyPost_ret (v := .tuple #[.agg #[_, _, _, _, _, _], .bool _]) ?_ rfl ⟨rfl, ?_⟩
  · simp [results, Try.results41, go_sem, kindW, *]
  · (with_reducible first | exact hbel _ _ | exact (hbel _ _).drew | exact below_drewN (hbel _ _) _ | exact hbel3 _ _ _)
set_option maxHeartbeats 16000000 in
theorem rother_s6y (x : Insn) (w : World) (hG0 : (x.op == 212) = false ∧ (x.op == 220) = false ∧ (x.op == 215) = false ∧ (x.op == 24) = false ∧ (x.op == 5) = false ∧ (x.op == 6) = true ∧ (x.dst == 0) = true) (hM0 : rotherM x = (kindW 9, zerosB x true true false)) : Calls Try.prog 41 #[x.val] w (WhatAnd w (rotherM x)) := by
  have HM := Lib.hid hM0
  have hbel : ∀ o o', Below w.heap.size w ((w.alloc o).alloc o') := fun o o' => below_two w o o'
  have hbel3 : ∀ o o' o'', Below w.heap.size w (((w.alloc o).alloc o').alloc o'') := fun o o' o'' => (below_two w o o').alloc (by rw [size_two]; omega) _
  clear hM0
  obtain ⟨h2, h3, h4, h5, q5, q6, hd⟩ := hG0
  go_enter Try.func41, Try.ntmps41
  have hz8 : ∀ w, Calls Try.prog 43 #[x.val, .bool false, .bool false, .bool true] w fun e w' => e = .returned (.bool (zerosB x true true false)) ∧ w' = w.alloc x.obj := fun w => only_is x false false true w
  generalize zerosB x true true false = zz at *
  go_wp2_with fail
  refine (hz8 _).mono ?_
  rintro e w' ⟨rfl, rfl⟩
  go_wp2_with fail
  rw [HM.out]
  refine bodyPost_ret (v := .tuple #[.agg #[_, _, _, _, _, _], .bool _]) ?_ rfl ⟨rfl, ?_⟩
  · simp [results, Try.results41, go_sem, kindW, *]
  · (with_reducible first | exact hbel _ _ | exact (hbel _ _).drew | exact below_drewN (hbel _ _) _ | exact hbel3 _ _ _)

set_option maxHeartbeats 16000000 in
theorem rother_s133n (x : Insn) (w : World) (hG0 : (x.op == 212) = false ∧ (x.op == 220) = false ∧ (x.op == 215) = false ∧ (x.op == 24) = false ∧ (x.op == 5) = false ∧ (x.op == 6) = false ∧ (x.op == 133) = true ∧ (x.dst == 0) = false) (hM0 : rotherM x = (kindW 11, false)) : Calls Try.prog 41 #[x.val] w (WhatAnd w (rotherM x)) := by
  have HM := Lib.hid hM0
  have hbel : ∀ o o', Below w.heap.size w ((w.alloc o).alloc o') := fun o o' => below_two w o o'
  have hbel3 : ∀ o o' o'', Below w.heap.size w (((w.alloc o).alloc o').alloc o'') := fun o o' o'' => (below_two w o o').alloc (by rw [size_two]; omega) _
  clear hM0
  obtain ⟨h2, h3, h4, h5, q5, q6, q133, hd⟩ := hG0
  go_enter Try.func41, Try.ntmps41
  go_wp2_with fail
  rw [HM.out]
  refine bodyPost_ret (v := .tuple #[.agg #[_, _, _, _, _, _], .bool _]) ?_ rfl ⟨rfl, ?_⟩
  · simp [results, Try.results41, go_sem, kindW, *]
  · (with_reducible first | exact hbel _ _ | exact (hbel _ _).drew | exact below_drewN (hbel _ _) _ | exact hbel3 _ _ _)
set_option maxHeartbeats 16000000 in
theorem rother_s133y (x : Insn) (w : World) (hG0 : (x.op == 212) = false ∧ (x.op == 220) = false ∧ (x.op == 215) = false ∧ (x.op == 24) = false ∧ (x.op == 5) = false ∧ (x.op == 6) = false ∧ (x.op == 133) = true ∧ (x.dst == 0) = true) (hM0 : rotherM x = (kindW 11, zerosB x true true false)) : Calls Try.prog 41 #[x.val] w (WhatAnd w (rotherM x)) := by
  have HM := Lib.hid hM0
  have hbel : ∀ o o', Below w.heap.size w ((w.alloc o).alloc o') := fun o o' => below_two w o o'
  have hbel3 : ∀ o o' o'', Below w.heap.size w (((w.alloc o).alloc o').alloc o'') := fun o o' o'' => (below_two w o o').alloc (by rw [size_two]; omega) _
  clear hM0
  obtain ⟨h2, h3, h4, h5, q5, q6, q133, hd⟩ := hG0
  go_enter Try.func41, Try.ntmps41
  have hz8 : ∀ w, Calls Try.prog 43 #[x.val, .bool false, .bool false, .bool true] w fun e w' => e = .returned (.bool (zerosB x true true false)) ∧ w' = w.alloc x.obj := fun w => only_is x false false true w
  generalize zerosB x true true false = zz at *
  go_wp2_with fail
  refine (hz8 _).mono ?_
  rintro e w' ⟨rfl, rfl⟩
  go_wp2_with fail
  rw [HM.out]
  refine bodyPost_ret (v := .tuple #[.agg #[_, _, _, _, _, _], .bool _]) ?_ rfl ⟨rfl, ?_⟩
  · simp [results, Try.results41, go_sem, kindW, *]
  · (with_reducible first | exact hbel _ _ | exact (hbel _ _).drew | exact below_drewN (hbel _ _) _ | exact hbel3 _ _ _)

set_option maxHeartbeats 16000000 in
theorem rother_s149n (x : Insn) (w : World) (hG0 : (x.op == 212) = false ∧ (x.op == 220) = false ∧ (x.op == 215) = false ∧ (x.op == 24) = false ∧ (x.op == 5) = false ∧ (x.op == 6) = false ∧ (x.op == 133) = false ∧ (x.op == 149) = true ∧ (x.dst == 0) = false) (hM0 : rotherM x = (kindW 12, false)) : Calls Try.prog 41 #[x.val] w (WhatAnd w (rotherM x)) := by
  have HM := Lib.hid hM0
  have hbel : ∀ o o', Below w.heap.size w ((w.alloc o).alloc o') := fun o o' => below_two w o o'
  have hbel3 : ∀ o o' o'', Below w.heap.size w (((w.alloc o).alloc o').alloc o'') := fun o o' o'' => (below_two w o o').alloc (by rw [size_two]; omega) _
  clear hM0
  obtain ⟨h2, h3, h4, h5, q5, q6, q133, q149, hd⟩ := hG0
  go_enter Try.func41, Try.ntmps41
  go_wp2_with fail
  rw [HM.out]
  refine bodyPost_ret (v := .tuple #[.agg #[_, _, _, _, _, _], .bool _]) ?_ rfl ⟨rfl, ?_⟩
  · simp [results, Try.results41, go_sem, kindW, *]
  · (with_reducible first | exact hbel _ _ | exact (hbel _ _).drew | exact below_drewN (hbel _ _) _ | exact hbel3 _ _ _)
set_option maxHeartbeats 16000000 in
theorem rother_s149y (x : Insn) (w : World) (hG0 : (x.op == 212) = false ∧ (x.op == 220) = false ∧ (x.op == 215) = false ∧ (x.op == 24) = false ∧ (x.op == 5) = false ∧ (x.op == 6) = false ∧ (x.op == 133) = false ∧ (x.op == 149) = true ∧ (x.dst == 0) = true) (hM0 : rotherM x = (kindW 12, zerosB x true true true)) : Calls Try.prog 41 #[x.val] w (WhatAnd w (rotherM x)) := by
  have HM := Lib.hid hM0
  have hbel : ∀ o o', Below w.heap.size w ((w.alloc o).alloc o') := fun o o' => below_two w o o'
  have hbel3 : ∀ o o' o'', Below w.heap.size w (((w.alloc o).alloc o').alloc o'') := fun o o' o'' => (below_two w o o').alloc (by rw [size_two]; omega) _
  clear hM0
  obtain ⟨h2, h3, h4, h5, q5, q6, q133, q149, hd⟩ := hG0
  go_enter Try.func41, Try.ntmps41
  have hz8 : ∀ w, Calls Try.prog 43 #[x.val, .bool false, .bool false, .bool false] w fun e w' => e = .returned (.bool (zerosB x true true true)) ∧ w' = w.alloc x.obj := fun w => only_is x false false false w
  generalize zerosB x true true true = zz at *
  go_wp2_with fail
  refine (hz8 _).mono ?_
  rintro e w' ⟨rfl, rfl⟩
  go_wp2_with fail
  rw [HM.out]
  refine bodyPost_ret (v := .tuple #[.agg #[_, _, _, _, _, _], .bool _]) ?_ rfl ⟨rfl, ?_⟩
  · simp [results, Try.results41, go_sem, kindW, *]
  · (with_reducible first | exact hbel _ _ | exact (hbel _ _).drew | exact below_drewN (hbel _ _) _ | exact hbel3 _ _ _)
end Go.Proofs.Ytncogaikiceidaa
end

section
/- The reference's other. No statement is proved here. -/
namespace Go.Proofs.Ytncogaikiceidaa
set_option maxRecDepth 100000
open Go.RowKit
set_option linter.unusedSimpArgs false
set_option linter.unusedVariables false
set_option linter.unnecessarySimpa false
theorem rswaps_any (x : Insn) (hx : x.Ok) (w : World) (hO : (x.op == 212) = true ∨ ((x.op == 212) = false ∧ (x.op == 220) = true) ∨ ((x.op == 212) = false ∧ (x.op == 220) = false ∧ (x.op == 215) = true)) : Calls Try.prog 41 #[x.val] w (WhatAnd w (rotherM x)) := by
  have hM : rotherM x = (⟨2, 0, x.op != 212, false, false, x.imm.tdiv 8⟩, x.dst != 10 && zerosB x true true false && (x.imm == 16 || x.imm == 32 || x.imm == 64)) := by
    unfold rotherM
    rw [if_pos (by simp at hO; omega)]
    rfl
  by_cases hd : x.dst = 10
  · exact rswaps_ten x hx w hd hO hM
  cases hz : zerosB x true true false
  · exact rswaps_no x hx w ⟨hd, hz⟩ hO hM
  cases h16 : (x.imm == 16)
  · cases h32 : (x.imm == 32)
    · cases h64 : (x.imm == 64)
      · exact rswaps_other x hx w ⟨hd, hz, h16, h32, h64⟩ hO hM
      · exact rswaps_i64 x hx w ⟨hd, hz, h16, h32, h64⟩ hO hM
    · exact rswaps_i32 x hx w ⟨hd, hz, h16, h32⟩ hO hM
  · exact rswaps_i16 x hx w ⟨hd, hz, h16⟩ hO hM
theorem rother_any (x : Insn) (hx : x.Ok) (hk : List.contains [212, 220, 215, 24, 5, 6, 133, 149] x.op = true) (w : World) : Calls Try.prog 41 #[x.val] w (WhatAnd w (rotherM x)) := by
  cases h212 : (x.op == 212)
  · cases h220 : (x.op == 220)
    · cases h215 : (x.op == 215)
      · have n1 : ¬ (x.op = 212 ∨ x.op = 220 ∨ x.op = 215) := by simp at h212 h220 h215; omega
        cases h24 : (x.op == 24)
        · have n24 : ¬ x.op = 24 := by simpa using h24
          cases h5 : (x.op == 5)
          · have n5 : ¬ x.op = 5 := by simpa using h5
            cases h6 : (x.op == 6)
            · have n6 : ¬ x.op = 6 := by simpa using h6
              cases h133 : (x.op == 133)
              · have n133 : ¬ x.op = 133 := by simpa using h133
                cases h149 : (x.op == 149)
                · simp at hk h149
                  omega
                · have n149 : x.op = 149 := by simpa using h149
                  cases hd : (x.dst == 0)
                  · exact rother_s149n x w ⟨h212, h220, h215, h24, h5, h6, h133, h149, hd⟩ (by unfold rotherM; rw [if_neg n1, if_neg n24, if_neg n5, if_neg n6, if_neg n133, if_pos n149, hd]; rfl)
                  · exact rother_s149y x w ⟨h212, h220, h215, h24, h5, h6, h133, h149, hd⟩ (by unfold rotherM; rw [if_neg n1, if_neg n24, if_neg n5, if_neg n6, if_neg n133, if_pos n149, hd]; rfl)
              · have n133 : x.op = 133 := by simpa using h133
                cases hd : (x.dst == 0)
                · exact rother_s133n x w ⟨h212, h220, h215, h24, h5, h6, h133, hd⟩ (by unfold rotherM; rw [if_neg n1, if_neg n24, if_neg n5, if_neg n6, if_pos n133, hd]; rfl)
                · exact rother_s133y x w ⟨h212, h220, h215, h24, h5, h6, h133, hd⟩ (by unfold rotherM; rw [if_neg n1, if_neg n24, if_neg n5, if_neg n6, if_pos n133, hd]; rfl)
            · have n6 : x.op = 6 := by simpa using h6
              cases hd : (x.dst == 0)
              · exact rother_s6n x w ⟨h212, h220, h215, h24, h5, h6, hd⟩ (by unfold rotherM; rw [if_neg n1, if_neg n24, if_neg n5, if_pos n6, hd]; rfl)
              · exact rother_s6y x w ⟨h212, h220, h215, h24, h5, h6, hd⟩ (by unfold rotherM; rw [if_neg n1, if_neg n24, if_neg n5, if_pos n6, hd]; rfl)
          · have n5 : x.op = 5 := by simpa using h5
            cases hd : (x.dst == 0)
            · exact rother_s5n x w ⟨h212, h220, h215, h24, h5, hd⟩ (by unfold rotherM; rw [if_neg n1, if_neg n24, if_pos n5, hd]; rfl)
            · exact rother_s5y x w ⟨h212, h220, h215, h24, h5, hd⟩ (by unfold rotherM; rw [if_neg n1, if_neg n24, if_pos n5, hd]; rfl)
        · have n24 : x.op = 24 := by simpa using h24
          cases hs : (x.src == 0)
          · have ns : ¬ x.src = 0 := by simpa using hs
            cases hd : (x.dst != 10)
            · exact rother_b0 x w ⟨h212, h220, h215, h24, hs, hd⟩ (by unfold rotherM; rw [if_neg n1, if_pos n24, if_neg ns, hd]; rfl)
            · cases ho : (x.off == 0)
              · exact rother_b1 x w ⟨h212, h220, h215, h24, hs, hd, ho⟩ (by unfold rotherM; rw [if_neg n1, if_pos n24, if_neg ns, hd, ho]; rfl)
              · cases hq : (x.src == 1)
                · exact rother_b2 x w ⟨h212, h220, h215, h24, hs, hd, ho, hq⟩ (by unfold rotherM; rw [if_neg n1, if_pos n24, if_neg ns, hd, ho, hq]; rfl)
                · exact rother_b3 x w ⟨h212, h220, h215, h24, hs, hd, ho, hq⟩ (by unfold rotherM; rw [if_neg n1, if_pos n24, if_neg ns, hd, ho, hq]; simp)
          · have ns : x.src = 0 := by simpa using hs
            cases hd : (x.dst != 10)
            · exact rother_a0 x w ⟨h212, h220, h215, h24, hs, hd⟩ (by unfold rotherM; rw [if_neg n1, if_pos n24, if_pos ns, hd]; rfl)
            · exact rother_a1 x w ⟨h212, h220, h215, h24, hs, hd⟩ (by unfold rotherM; rw [if_neg n1, if_pos n24, if_pos ns, hd]; simp)
      · exact rswaps_any x hx w (.inr (.inr ⟨h212, h220, h215⟩))
    · exact rswaps_any x hx w (.inr (.inl ⟨h212, h220⟩))
  · exact rswaps_any x hx w (.inl h212)
end Go.Proofs.Ytncogaikiceidaa
end
