/- Contracts for one closed run: values, the first state, a way, an instruction. No statement is proved here. -/
import Derived.Test.YtbfgffmebniooaaGreatKnown
import Derived.Deep.MidRow
import Derived.Deep.WholeRow
import Derived.Great.BuildSlice
import Derived.Test.YtbfgffmebniooaaGreatHopC

section
/- Contracts for one closed run: values, facts of one number, arithmetic on them, the first state. No statement is proved here. -/
namespace Go.Proofs.YtbfgffmebniooaaGreat
open Go.RowKit
set_option linter.unusedSimpArgs false
set_option linter.unusedVariables false
set_option linter.unnecessarySimpa false
theorem rfright_k (n : Int) (hn : U64 n) (w : World) : Calls Tryz.prog 68 #[.agg #[.int .u64 n, .int .u64 0, .int .u64 n, .int .u64 n]] w fun e w' => e = .returned (.bool true) ∧ Below w.heap.size w w' := by
  refine (rfright_any n 0 n n w).mono ?_
  rintro e w1 ⟨b, rfl, h, hb⟩
  have := h rfl hn
  subst this
  exact ⟨by simp, hb⟩

set_option maxRecDepth 100000 in
theorem rof_any (n : Int) (w : World) : Calls Tryz.prog 104 #[.int .u64 n] w fun e w' => e = .returned (.agg #[.int .u64 n, .int .u64 0, .int .u64 n, .int .u64 n]) ∧ Below w.heap.size w w' := by
  go_enter Tryz.func104, Tryz.ntmps104
  go_wp2_with fail
  exact bodyPost_ret (v := .agg #[.int .u64 n, .int .u64 0, .int .u64 n, .int .u64 n]) (by simp [results, Tryz.results104, go_sem]) rfl ⟨rfl, (Below.refl _ _).alloc (Nat.le_refl _) _⟩

set_option maxRecDepth 100000 in
theorem rnum12_k (n : Int) (hn : U64 n) (w : World) : Calls Tryz.prog 86 #[.agg #[.int .u64 n, .int .u64 0, .int .u64 n, .int .u64 n]] w fun e w' => e = .returned (.agg #[.int .u8 1, .int .u64 n, .int .u64 0, .int .u64 n, .int .u64 n, .int .i64 0, .int .i64 0]) ∧ Below w.heap.size w w' := by
  have hq := fun w => rfright_k n hn w
  have q0 : ((w.alloc (.cells #[.int .u64 n, .int .u64 0, .int .u64 n, .int .u64 n] 39)).alloc (.cells #[.int .u8 0, .int .u64 0, .int .u64 0, .int .u64 0, .int .u64 0, .int .i64 0, .int .i64 0] 41)).heap[w.heap.size]? = some (.cells #[.int .u64 n, .int .u64 0, .int .u64 n, .int .u64 n] 39) := heap2_0 _ _ _
  have a0 := boxc (k := 0) (u := .int .u64 n) q0 rfl
  have a1 := boxc (k := 1) (u := .int .u64 0) q0 rfl
  have a2 := boxc (k := 2) (u := .int .u64 n) q0 rfl
  have a3 := boxc (k := 3) (u := .int .u64 n) q0 rfl
  clear q0
  have q1 : ((w.alloc (.cells #[.int .u64 n, .int .u64 0, .int .u64 n, .int .u64 n] 39)).alloc (.cells #[.int .u8 0, .int .u64 0, .int .u64 0, .int .u64 0, .int .u64 0, .int .i64 0, .int .i64 0] 41)).heap[(w.heap.size + 1)]? = some (.cells #[.int .u8 0, .int .u64 0, .int .u64 0, .int .u64 0, .int .u64 0, .int .i64 0, .int .i64 0] 41) := heap2_1 _ _ _
  have b0 := boxc (k := 0) (u := .int .u8 0) q1 rfl
  have b1 := boxc (k := 1) (u := .int .u64 0) q1 rfl
  have b2 := boxc (k := 2) (u := .int .u64 0) q1 rfl
  have b3 := boxc (k := 3) (u := .int .u64 0) q1 rfl
  have b4 := boxc (k := 4) (u := .int .u64 0) q1 rfl
  have b5 := boxc (k := 5) (u := .int .i64 0) q1 rfl
  have b6 := boxc (k := 6) (u := .int .i64 0) q1 rfl
  have t1 := boxt q1
  clear q1
  have hW0 : Below w.heap.size w ((w.alloc (.cells #[.int .u64 n, .int .u64 0, .int .u64 n, .int .u64 n] 39)).alloc (.cells #[.int .u8 0, .int .u64 0, .int .u64 0, .int .u64 0, .int .u64 0, .int .i64 0, .int .i64 0] 41)) := below_boxes2 _ _ _
  have hr := Below.refl ((w.alloc (.cells #[.int .u64 n, .int .u64 0, .int .u64 n, .int .u64 n] 39)).alloc (.cells #[.int .u8 0, .int .u64 0, .int .u64 0, .int .u64 0, .int .u64 0, .int .i64 0, .int .i64 0] 41)).heap.size ((w.alloc (.cells #[.int .u64 n, .int .u64 0, .int .u64 n, .int .u64 n] 39)).alloc (.cells #[.int .u8 0, .int .u64 0, .int .u64 0, .int .u64 0, .int .u64 0, .int .i64 0, .int .i64 0] 41))
  go_enter Tryz.func86, Tryz.ntmps86
  go_upto_region 1 with fail
  generalize (w.alloc (.cells #[.int .u64 n, .int .u64 0, .int .u64 n, .int .u64 n] 39)).alloc (.cells #[.int .u8 0, .int .u64 0, .int .u64 0, .int .u64 0, .int .u64 0, .int .i64 0, .int .i64 0] 41) = W at *
  go_wp2_with fail
  refine (hq _).mono ?_
  rintro e w1 ⟨rfl, hc1⟩
  have hb1 : Below W.heap.size W w1 := hc1
  clear hc1
  have A0 := a0 _ hb1
  have A1 := a1 _ hb1
  have A2 := a2 _ hb1
  have A3 := a3 _ hb1
  have z0 := b0 _ hb1
  have z1 := b1 _ hb1
  have z2 := b2 _ hb1
  have z3 := b3 _ hb1
  have z4 := b4 _ hb1
  have z5 := b5 _ hb1
  have z6 := b6 _ hb1
  go_wp2_with fail
  refine bodyPost_ret (v := .agg #[.int .u8 1, .int .u64 n, .int .u64 0, .int .u64 n, .int .u64 n, .int .i64 0, .int .i64 0]) (by simp [results, Tryz.results86, go_sem, *]) rfl ⟨rfl, ?_⟩
  (repeat (refine Below.setCell ?_ (by first | exact Nat.le_refl _ | exact Nat.le_succ _ | (simp; done) | (simp; omega)) _))
  exact hW0.trans (hb1.mono hW0.size)

set_option maxRecDepth 100000 in
theorem rknown14 (n : Int) (hn : U64 n) (w : World) : Calls Tryz.prog 77 #[.int .u64 n] w fun e w' => e = .returned (.agg #[.int .u8 1, .int .u64 n, .int .u64 0, .int .u64 n, .int .u64 n, .int .i64 0, .int .i64 0]) ∧ Below w.heap.size w w' := by
  have q0 : (w.alloc (.cells #[.int .u8 0, .int .u64 0, .int .u64 0, .int .u64 0, .int .u64 0, .int .i64 0, .int .i64 0] 41)).heap[w.heap.size]? = some (.cells #[.int .u8 0, .int .u64 0, .int .u64 0, .int .u64 0, .int .u64 0, .int .i64 0, .int .i64 0] 41) := heap1_0 _ _
  have b0 := boxc (k := 0) (u := .int .u8 0) q0 rfl
  have b1 := boxc (k := 1) (u := .int .u64 0) q0 rfl
  have b2 := boxc (k := 2) (u := .int .u64 0) q0 rfl
  have b3 := boxc (k := 3) (u := .int .u64 0) q0 rfl
  have b4 := boxc (k := 4) (u := .int .u64 0) q0 rfl
  have b5 := boxc (k := 5) (u := .int .i64 0) q0 rfl
  have b6 := boxc (k := 6) (u := .int .i64 0) q0 rfl
  have t0 := boxt q0
  clear q0
  have hW0 : Below w.heap.size w (w.alloc (.cells #[.int .u8 0, .int .u64 0, .int .u64 0, .int .u64 0, .int .u64 0, .int .i64 0, .int .i64 0] 41)) := below_boxes1 _ _
  have hr := Below.refl (w.alloc (.cells #[.int .u8 0, .int .u64 0, .int .u64 0, .int .u64 0, .int .u64 0, .int .i64 0, .int .i64 0] 41)).heap.size (w.alloc (.cells #[.int .u8 0, .int .u64 0, .int .u64 0, .int .u64 0, .int .u64 0, .int .i64 0, .int .i64 0] 41))
  go_enter Tryz.func77, Tryz.ntmps77
  go_upto_region 1 with fail
  generalize w.alloc (.cells #[.int .u8 0, .int .u64 0, .int .u64 0, .int .u64 0, .int .u64 0, .int .i64 0, .int .i64 0] 41) = W at *
  go_wp2_with fail
  refine (rof_any n _).mono ?_
  rintro e w1 ⟨rfl, hc1⟩
  have hb1 : Below W.heap.size W w1 := hc1
  clear hc1
  go_wp2_with fail
  refine (rnum12_k n hn _).mono ?_
  rintro e w2 ⟨rfl, hc2⟩
  have hb2 := hb1.trans (hc2.mono hb1.size)
  clear hc2
  have z0 := b0 _ hb2
  have z1 := b1 _ hb2
  have z2 := b2 _ hb2
  have z3 := b3 _ hb2
  have z4 := b4 _ hb2
  have z5 := b5 _ hb2
  have z6 := b6 _ hb2
  go_wp2_with fail
  refine bodyPost_ret (v := .agg #[.int .u8 1, .int .u64 n, .int .u64 0, .int .u64 n, .int .u64 n, .int .i64 0, .int .i64 0]) (by simp [results, Tryz.results77, go_sem, *]) rfl ⟨rfl, ?_⟩
  (repeat (refine Below.setCell ?_ (by first | exact Nat.le_refl _ | exact Nat.le_succ _ | (simp; done) | (simp; omega)) _))
  exact hW0.trans (hb2.mono hW0.size)

set_option maxRecDepth 100000 in
theorem rnum14 (n : Int) (w : World) : Calls Tryz.prog 85 #[.agg #[.int .u8 1, .int .u64 n, .int .u64 0, .int .u64 n, .int .u64 n, .int .i64 0, .int .i64 0]] w fun e w' => e = .returned (.bool true) ∧ Below w.heap.size w w' := by
  go_enter Tryz.func85, Tryz.ntmps85
  go_wp2_with fail
  go_ret
  exact ⟨rfl, (Below.refl _ _).alloc (Nat.le_refl _) _⟩

set_option maxRecDepth 100000 in
theorem rval12_none  (w : World) : Calls Tryz.prog 72 #[.agg #[.int .u8 0, .int .u64 0, .int .u64 0, .int .u64 0, .int .u64 0, .int .i64 0, .int .i64 0]] w fun e w' => e = .returned (.bool true) ∧ Below w.heap.size w w' := by
  go_enter Tryz.func72, Tryz.ntmps72
  go_wp2_with fail
  go_ret
  refine ⟨rfl, ?_⟩
  (repeat (first | exact Below.refl _ _ | refine Below.setCell ?_ (by first | exact Nat.le_refl _ | exact Nat.le_succ _ | (simp; done) | (simp; omega)) _ | refine Below.alloc ?_ (by first | exact Nat.le_refl _ | exact Nat.le_succ _ | (simp; done) | (simp; omega)) _))

set_option maxRecDepth 100000 in
theorem rval12_ctx  (w : World) : Calls Tryz.prog 72 #[.agg #[.int .u8 2, .int .u64 0, .int .u64 0, .int .u64 0, .int .u64 0, .int .i64 0, .int .i64 0]] w fun e w' => e = .returned (.bool true) ∧ Below w.heap.size w w' := by
  go_enter Tryz.func72, Tryz.ntmps72
  go_wp2_with fail
  go_ret
  refine ⟨rfl, ?_⟩
  (repeat (first | exact Below.refl _ _ | refine Below.setCell ?_ (by first | exact Nat.le_refl _ | exact Nat.le_succ _ | (simp; done) | (simp; omega)) _ | refine Below.alloc ?_ (by first | exact Nat.le_refl _ | exact Nat.le_succ _ | (simp; done) | (simp; omega)) _))

set_option maxRecDepth 100000 in
theorem rval12_stk  (w : World) : Calls Tryz.prog 72 #[.agg #[.int .u8 3, .int .u64 0, .int .u64 0, .int .u64 0, .int .u64 0, .int .i64 0, .int .i64 512]] w fun e w' => e = .returned (.bool true) ∧ Below w.heap.size w w' := by
  go_enter Tryz.func72, Tryz.ntmps72
  go_wp2_with fail
  go_ret
  refine ⟨rfl, ?_⟩
  (repeat (first | exact Below.refl _ _ | refine Below.setCell ?_ (by first | exact Nat.le_refl _ | exact Nat.le_succ _ | (simp; done) | (simp; omega)) _ | refine Below.alloc ?_ (by first | exact Nat.le_refl _ | exact Nat.le_succ _ | (simp; done) | (simp; omega)) _))

set_option maxRecDepth 100000 in
theorem rval12_num (n : Int) (hn : U64 n) (w : World) : Calls Tryz.prog 72 #[.agg #[.int .u8 1, .int .u64 n, .int .u64 0, .int .u64 n, .int .u64 n, .int .i64 0, .int .i64 0]] w fun e w' => e = .returned (.bool true) ∧ Below w.heap.size w w' := by
  have hq := fun w => rfright_k n hn w
  have q0 : (w.alloc (.cells #[.int .u8 1, .int .u64 n, .int .u64 0, .int .u64 n, .int .u64 n, .int .i64 0, .int .i64 0] 41)).heap[w.heap.size]? = some (.cells #[.int .u8 1, .int .u64 n, .int .u64 0, .int .u64 n, .int .u64 n, .int .i64 0, .int .i64 0] 41) := heap1_0 _ _
  have a0 := boxc (k := 0) (u := .int .u8 1) q0 rfl
  have a1 := boxc (k := 1) (u := .int .u64 n) q0 rfl
  have a2 := boxc (k := 2) (u := .int .u64 0) q0 rfl
  have a3 := boxc (k := 3) (u := .int .u64 n) q0 rfl
  have a4 := boxc (k := 4) (u := .int .u64 n) q0 rfl
  have a5 := boxc (k := 5) (u := .int .i64 0) q0 rfl
  have a6 := boxc (k := 6) (u := .int .i64 0) q0 rfl
  clear q0
  have hW0 : Below w.heap.size w (w.alloc (.cells #[.int .u8 1, .int .u64 n, .int .u64 0, .int .u64 n, .int .u64 n, .int .i64 0, .int .i64 0] 41)) := below_boxes1 _ _
  have hr := Below.refl (w.alloc (.cells #[.int .u8 1, .int .u64 n, .int .u64 0, .int .u64 n, .int .u64 n, .int .i64 0, .int .i64 0] 41)).heap.size (w.alloc (.cells #[.int .u8 1, .int .u64 n, .int .u64 0, .int .u64 n, .int .u64 n, .int .i64 0, .int .i64 0] 41))
  go_enter Tryz.func72, Tryz.ntmps72
  go_upto_region 1 with fail
  generalize w.alloc (.cells #[.int .u8 1, .int .u64 n, .int .u64 0, .int .u64 n, .int .u64 n, .int .i64 0, .int .i64 0] 41) = W at *
  go_wp2_with fail
  refine (hq _).mono ?_
  rintro e w1 ⟨rfl, hc1⟩
  go_wp2_with fail
  go_ret
  exact ⟨rfl, (hW0.alloc hW0.size _).trans (hc1.mono (by simp; exact Nat.le_succ_of_le hW0.size))⟩

set_option maxRecDepth 100000 in
theorem rpointer12_num (n : Int) (hn : U64 n) (w : World) : Calls Tryz.prog 99 #[.agg #[.int .u8 1, .int .u64 n, .int .u64 0, .int .u64 n, .int .u64 n, .int .i64 0, .int .i64 0]] w fun e w' => e = .returned (.bool false) ∧ Below w.heap.size w w' := by
  have hq := fun w => rval12_num n hn w
  have q0 : (w.alloc (.cells #[.int .u8 1, .int .u64 n, .int .u64 0, .int .u64 n, .int .u64 n, .int .i64 0, .int .i64 0] 41)).heap[w.heap.size]? = some (.cells #[.int .u8 1, .int .u64 n, .int .u64 0, .int .u64 n, .int .u64 n, .int .i64 0, .int .i64 0] 41) := heap1_0 _ _
  have a0 := boxc (k := 0) (u := .int .u8 1) q0 rfl
  have a1 := boxc (k := 1) (u := .int .u64 n) q0 rfl
  have a2 := boxc (k := 2) (u := .int .u64 0) q0 rfl
  have a3 := boxc (k := 3) (u := .int .u64 n) q0 rfl
  have a4 := boxc (k := 4) (u := .int .u64 n) q0 rfl
  have a5 := boxc (k := 5) (u := .int .i64 0) q0 rfl
  have a6 := boxc (k := 6) (u := .int .i64 0) q0 rfl
  clear q0
  have hW0 : Below w.heap.size w (w.alloc (.cells #[.int .u8 1, .int .u64 n, .int .u64 0, .int .u64 n, .int .u64 n, .int .i64 0, .int .i64 0] 41)) := below_boxes1 _ _
  have hr := Below.refl (w.alloc (.cells #[.int .u8 1, .int .u64 n, .int .u64 0, .int .u64 n, .int .u64 n, .int .i64 0, .int .i64 0] 41)).heap.size (w.alloc (.cells #[.int .u8 1, .int .u64 n, .int .u64 0, .int .u64 n, .int .u64 n, .int .i64 0, .int .i64 0] 41))
  go_enter Tryz.func99, Tryz.ntmps99
  go_upto_region 1 with fail
  generalize w.alloc (.cells #[.int .u8 1, .int .u64 n, .int .u64 0, .int .u64 n, .int .u64 n, .int .i64 0, .int .i64 0] 41) = W at *
  go_wp2_with fail
  refine (hq _).mono ?_
  rintro e w1 ⟨rfl, hc1⟩
  have hb1 : Below W.heap.size W w1 := hc1
  clear hc1
  have A0 := a0 _ hb1
  have A1 := a1 _ hb1
  have A2 := a2 _ hb1
  have A3 := a3 _ hb1
  have A4 := a4 _ hb1
  have A5 := a5 _ hb1
  have A6 := a6 _ hb1
  go_wp2_with fail
  go_ret
  exact ⟨rfl, hW0.trans (hb1.mono hW0.size)⟩

set_option maxRecDepth 100000 in
theorem rimm_5 (x0 x1 x2 x3 : Int) (w : World) : Calls Tryz.prog 128 #[.agg #[.int .u8 x0, .int .u8 x1, .int .u8 x2, .int .i16 x3, .int .i32 5]] w fun e w' => e = .returned (.int .u64 5) ∧ Below w.heap.size w w' := by
  have hq := fun w => rsign32_any 5 ⟨by decide, by decide⟩ w
  rw [show sign32 5 = 5 by decide] at hq
  go_enter Tryz.func128, Tryz.ntmps128
  go_wp2_with fail
  refine (hq _).mono ?_
  rintro e w1 ⟨rfl, rfl⟩
  go_wp2_with fail
  go_ret
  exact ⟨rfl, (Below.refl _ _).alloc (Nat.le_refl _) _⟩

set_option maxRecDepth 100000 in
theorem rimm_2 (x0 x1 x2 x3 : Int) (w : World) : Calls Tryz.prog 128 #[.agg #[.int .u8 x0, .int .u8 x1, .int .u8 x2, .int .i16 x3, .int .i32 2]] w fun e w' => e = .returned (.int .u64 2) ∧ Below w.heap.size w w' := by
  have hq := fun w => rsign32_any 2 ⟨by decide, by decide⟩ w
  rw [show sign32 2 = 2 by decide] at hq
  go_enter Tryz.func128, Tryz.ntmps128
  go_wp2_with fail
  refine (hq _).mono ?_
  rintro e w1 ⟨rfl, rfl⟩
  go_wp2_with fail
  go_ret
  exact ⟨rfl, (Below.refl _ _).alloc (Nat.le_refl _) _⟩

set_option maxRecDepth 100000 in
theorem rcut64_any (n : Int) (w : World) : Calls Tryz.prog 23 #[.int .u64 n, .int .i64 64] w fun e w' => e = .returned (.int .u64 n) ∧ w' = w := by
  go_enter Tryz.func23, Tryz.ntmps23
  go_wp2_with fail
  go_ret
  exact ⟨rfl, rfl⟩

set_option maxRecDepth 100000 in
theorem rdo2_0 (w : World) : Calls Tryz.prog 129 #[.int .u8 0, .bool true, .int .i16 0, .int .u64 0, .int .u64 0] w fun e w' => e = .returned (.tuple #[.int .u64 0, .int .i64 0]) ∧ w' = w := by
  go_enter Tryz.func129, Tryz.ntmps129
  go_wp2_with fail
  refine (rcut64_any _ _).mono ?_
  rintro e w1 ⟨rfl, rfl⟩
  go_wp2_with fail
  refine (rcut64_any _ _).mono ?_
  rintro e w2 ⟨rfl, rfl⟩
  go_wp2_with fail
  refine (rcut64_any _ _).mono ?_
  rintro e w3 ⟨rfl, rfl⟩
  go_wp2_with fail
  go_ret2
  exact ⟨rfl, rfl⟩

set_option maxRecDepth 100000 in
theorem rdo2_5 (w : World) : Calls Tryz.prog 129 #[.int .u8 0, .bool true, .int .i16 0, .int .u64 5, .int .u64 2] w fun e w' => e = .returned (.tuple #[.int .u64 7, .int .i64 0]) ∧ w' = w := by
  go_enter Tryz.func129, Tryz.ntmps129
  go_wp2_with fail
  refine (rcut64_any _ _).mono ?_
  rintro e w1 ⟨rfl, rfl⟩
  go_wp2_with fail
  refine (rcut64_any _ _).mono ?_
  rintro e w2 ⟨rfl, rfl⟩
  go_wp2_with fail
  refine (rcut64_any _ _).mono ?_
  rintro e w3 ⟨rfl, rfl⟩
  go_wp2_with fail
  go_ret2
  exact ⟨rfl, rfl⟩

set_option maxRecDepth 100000 in
theorem rwide_k  (w : World) : Calls Tryz.prog 130 #[.int .u8 0, .bool false, .int .i16 0, .agg #[.int .u64 5, .int .u64 0, .int .u64 5, .int .u64 5], .agg #[.int .u64 2, .int .u64 0, .int .u64 2, .int .u64 2]] w fun e w' => e = .returned (.agg #[.int .u64 7, .int .u64 0, .int .u64 7, .int .u64 7]) ∧ Below w.heap.size w w' := by
  have hk1 := fun w => rfknown_any 5 0 5 5 ⟨by decide, by decide⟩ w
  have hk2 := fun w => rfknown_any 2 0 2 2 ⟨by decide, by decide⟩ w
  rw [show knownF 5 0 5 5 = (5, true) by decide] at hk1
  rw [show knownF 2 0 2 2 = (2, true) by decide] at hk2
  simp only at hk1 hk2
  have q0 : (((w.alloc (.cells #[.int .u64 5, .int .u64 0, .int .u64 5, .int .u64 5] 39)).alloc (.cells #[.int .u64 2, .int .u64 0, .int .u64 2, .int .u64 2] 39)).alloc (.cells #[.int .u64 0, .int .u64 0, .int .u64 0, .int .u64 0] 39)).heap[w.heap.size]? = some (.cells #[.int .u64 5, .int .u64 0, .int .u64 5, .int .u64 5] 39) := heap3_0 _ _ _ _
  have a0 := boxc (k := 0) (u := .int .u64 5) q0 rfl
  have a1 := boxc (k := 1) (u := .int .u64 0) q0 rfl
  have a2 := boxc (k := 2) (u := .int .u64 5) q0 rfl
  have a3 := boxc (k := 3) (u := .int .u64 5) q0 rfl
  clear q0
  have q1 : (((w.alloc (.cells #[.int .u64 5, .int .u64 0, .int .u64 5, .int .u64 5] 39)).alloc (.cells #[.int .u64 2, .int .u64 0, .int .u64 2, .int .u64 2] 39)).alloc (.cells #[.int .u64 0, .int .u64 0, .int .u64 0, .int .u64 0] 39)).heap[(w.heap.size + 1)]? = some (.cells #[.int .u64 2, .int .u64 0, .int .u64 2, .int .u64 2] 39) := heap3_1 _ _ _ _
  have b0 := boxc (k := 0) (u := .int .u64 2) q1 rfl
  have b1 := boxc (k := 1) (u := .int .u64 0) q1 rfl
  have b2 := boxc (k := 2) (u := .int .u64 2) q1 rfl
  have b3 := boxc (k := 3) (u := .int .u64 2) q1 rfl
  clear q1
  have q2 : (((w.alloc (.cells #[.int .u64 5, .int .u64 0, .int .u64 5, .int .u64 5] 39)).alloc (.cells #[.int .u64 2, .int .u64 0, .int .u64 2, .int .u64 2] 39)).alloc (.cells #[.int .u64 0, .int .u64 0, .int .u64 0, .int .u64 0] 39)).heap[(w.heap.size + 2)]? = some (.cells #[.int .u64 0, .int .u64 0, .int .u64 0, .int .u64 0] 39) := heap3_2 _ _ _ _
  have c0 := boxc (k := 0) (u := .int .u64 0) q2 rfl
  have c1 := boxc (k := 1) (u := .int .u64 0) q2 rfl
  have c2 := boxc (k := 2) (u := .int .u64 0) q2 rfl
  have c3 := boxc (k := 3) (u := .int .u64 0) q2 rfl
  have t2 := boxt q2
  clear q2
  have hW0 : Below w.heap.size w (((w.alloc (.cells #[.int .u64 5, .int .u64 0, .int .u64 5, .int .u64 5] 39)).alloc (.cells #[.int .u64 2, .int .u64 0, .int .u64 2, .int .u64 2] 39)).alloc (.cells #[.int .u64 0, .int .u64 0, .int .u64 0, .int .u64 0] 39)) := below_boxes3 _ _ _ _
  have hr := Below.refl (((w.alloc (.cells #[.int .u64 5, .int .u64 0, .int .u64 5, .int .u64 5] 39)).alloc (.cells #[.int .u64 2, .int .u64 0, .int .u64 2, .int .u64 2] 39)).alloc (.cells #[.int .u64 0, .int .u64 0, .int .u64 0, .int .u64 0] 39)).heap.size (((w.alloc (.cells #[.int .u64 5, .int .u64 0, .int .u64 5, .int .u64 5] 39)).alloc (.cells #[.int .u64 2, .int .u64 0, .int .u64 2, .int .u64 2] 39)).alloc (.cells #[.int .u64 0, .int .u64 0, .int .u64 0, .int .u64 0] 39))
  go_enter Tryz.func130, Tryz.ntmps130
  go_upto_region 1 with fail
  generalize ((w.alloc (.cells #[.int .u64 5, .int .u64 0, .int .u64 5, .int .u64 5] 39)).alloc (.cells #[.int .u64 2, .int .u64 0, .int .u64 2, .int .u64 2] 39)).alloc (.cells #[.int .u64 0, .int .u64 0, .int .u64 0, .int .u64 0] 39) = W at *
  go_wp2_with fail
  refine (hk1 _).mono ?_
  rintro e w1 ⟨rfl, hc1⟩
  have hb1 : Below W.heap.size W w1 := hc1
  clear hc1
  have B0 := b0 _ hb1
  have B1 := b1 _ hb1
  have B2 := b2 _ hb1
  have B3 := b3 _ hb1
  go_wp2_with fail
  refine (hk2 _).mono ?_
  rintro e w2 ⟨rfl, hc2⟩
  have hb2 := hb1.trans (hc2.mono hb1.size)
  clear hc2
  go_wp2_with fail
  refine (rdo2_5 _).mono ?_
  rintro e w3 ⟨rfl, rfl⟩
  go_wp2_with fail
  refine (rof_any 7 _).mono ?_
  rintro e w4 ⟨rfl, hc4⟩
  have hb4 := hb2.trans (hc4.mono hb2.size)
  clear hc4
  have z0 := c0 _ hb4
  have z1 := c1 _ hb4
  have z2 := c2 _ hb4
  have z3 := c3 _ hb4
  go_wp2_with fail
  refine bodyPost_ret (v := .agg #[.int .u64 7, .int .u64 0, .int .u64 7, .int .u64 7]) (by simp [results, Tryz.results130, go_sem, *]) rfl ⟨rfl, ?_⟩
  (repeat (refine Below.setCell ?_ (by first | exact Nat.le_refl _ | exact Nat.le_succ _ | (simp; done) | (simp; omega)) _))
  exact hW0.trans (hb4.mono hW0.size)

set_option maxRecDepth 100000 in
theorem rdo6_k  (w : World) : Calls Tryz.prog 101 #[.int .u8 0, .bool true, .int .i16 0, .agg #[.int .u64 5, .int .u64 0, .int .u64 5, .int .u64 5], .agg #[.int .u64 2, .int .u64 0, .int .u64 2, .int .u64 2]] w fun e w' => e = .returned (.tuple #[.agg #[.int .u64 7, .int .u64 0, .int .u64 7, .int .u64 7], .int .i64 0]) ∧ Below w.heap.size w w' := by
  have hk1 := fun w => rfright_k 5 ⟨by decide, by decide⟩ w
  have hk2 := fun w => rfright_k 2 ⟨by decide, by decide⟩ w
  have q0 : (((w.alloc (.cells #[.int .u64 5, .int .u64 0, .int .u64 5, .int .u64 5] 39)).alloc (.cells #[.int .u64 2, .int .u64 0, .int .u64 2, .int .u64 2] 39)).alloc (.cells #[.int .u64 0, .int .u64 0, .int .u64 0, .int .u64 0] 39)).heap[w.heap.size]? = some (.cells #[.int .u64 5, .int .u64 0, .int .u64 5, .int .u64 5] 39) := heap3_0 _ _ _ _
  have a0 := boxc (k := 0) (u := .int .u64 5) q0 rfl
  have a1 := boxc (k := 1) (u := .int .u64 0) q0 rfl
  have a2 := boxc (k := 2) (u := .int .u64 5) q0 rfl
  have a3 := boxc (k := 3) (u := .int .u64 5) q0 rfl
  clear q0
  have q1 : (((w.alloc (.cells #[.int .u64 5, .int .u64 0, .int .u64 5, .int .u64 5] 39)).alloc (.cells #[.int .u64 2, .int .u64 0, .int .u64 2, .int .u64 2] 39)).alloc (.cells #[.int .u64 0, .int .u64 0, .int .u64 0, .int .u64 0] 39)).heap[(w.heap.size + 1)]? = some (.cells #[.int .u64 2, .int .u64 0, .int .u64 2, .int .u64 2] 39) := heap3_1 _ _ _ _
  have b0 := boxc (k := 0) (u := .int .u64 2) q1 rfl
  have b1 := boxc (k := 1) (u := .int .u64 0) q1 rfl
  have b2 := boxc (k := 2) (u := .int .u64 2) q1 rfl
  have b3 := boxc (k := 3) (u := .int .u64 2) q1 rfl
  clear q1
  have q2 : (((w.alloc (.cells #[.int .u64 5, .int .u64 0, .int .u64 5, .int .u64 5] 39)).alloc (.cells #[.int .u64 2, .int .u64 0, .int .u64 2, .int .u64 2] 39)).alloc (.cells #[.int .u64 0, .int .u64 0, .int .u64 0, .int .u64 0] 39)).heap[(w.heap.size + 2)]? = some (.cells #[.int .u64 0, .int .u64 0, .int .u64 0, .int .u64 0] 39) := heap3_2 _ _ _ _
  have c0 := boxc (k := 0) (u := .int .u64 0) q2 rfl
  have c1 := boxc (k := 1) (u := .int .u64 0) q2 rfl
  have c2 := boxc (k := 2) (u := .int .u64 0) q2 rfl
  have c3 := boxc (k := 3) (u := .int .u64 0) q2 rfl
  have t2 := boxt q2
  clear q2
  have hW0 : Below w.heap.size w (((w.alloc (.cells #[.int .u64 5, .int .u64 0, .int .u64 5, .int .u64 5] 39)).alloc (.cells #[.int .u64 2, .int .u64 0, .int .u64 2, .int .u64 2] 39)).alloc (.cells #[.int .u64 0, .int .u64 0, .int .u64 0, .int .u64 0] 39)) := below_boxes3 _ _ _ _
  have hr := Below.refl (((w.alloc (.cells #[.int .u64 5, .int .u64 0, .int .u64 5, .int .u64 5] 39)).alloc (.cells #[.int .u64 2, .int .u64 0, .int .u64 2, .int .u64 2] 39)).alloc (.cells #[.int .u64 0, .int .u64 0, .int .u64 0, .int .u64 0] 39)).heap.size (((w.alloc (.cells #[.int .u64 5, .int .u64 0, .int .u64 5, .int .u64 5] 39)).alloc (.cells #[.int .u64 2, .int .u64 0, .int .u64 2, .int .u64 2] 39)).alloc (.cells #[.int .u64 0, .int .u64 0, .int .u64 0, .int .u64 0] 39))
  go_enter Tryz.func101, Tryz.ntmps101
  go_upto_region 1 with fail
  generalize ((w.alloc (.cells #[.int .u64 5, .int .u64 0, .int .u64 5, .int .u64 5] 39)).alloc (.cells #[.int .u64 2, .int .u64 0, .int .u64 2, .int .u64 2] 39)).alloc (.cells #[.int .u64 0, .int .u64 0, .int .u64 0, .int .u64 0] 39) = W at *
  go_wp2_with fail
  refine (rdo2_0 _).mono ?_
  rintro e W ⟨rfl, rfl⟩
  go_wp2_with fail
  refine (hk1 _).mono ?_
  rintro e w1 ⟨rfl, hc1⟩
  have hb1 : Below W.heap.size W w1 := hc1
  clear hc1
  have B0 := b0 _ hb1
  have B1 := b1 _ hb1
  have B2 := b2 _ hb1
  have B3 := b3 _ hb1
  go_wp2_with fail
  refine (hk2 _).mono ?_
  rintro e w2 ⟨rfl, hc2⟩
  have hb2 := hb1.trans (hc2.mono hb1.size)
  clear hc2
  have D0 := a0 _ hb2
  have D1 := a1 _ hb2
  have D2 := a2 _ hb2
  have D3 := a3 _ hb2
  have E0 := b0 _ hb2
  have E1 := b1 _ hb2
  have E2 := b2 _ hb2
  have E3 := b3 _ hb2
  go_wp2_with fail
  refine (rwide_k _).mono ?_
  rintro e w4 ⟨rfl, hc4⟩
  have hb4 := hb2.trans (hc4.mono hb2.size)
  clear hc4
  have z0 := c0 _ hb4
  have z1 := c1 _ hb4
  have z2 := c2 _ hb4
  have z3 := c3 _ hb4
  go_wp2_with fail
  refine bodyPost_ret (v := .tuple #[.agg #[.int .u64 7, .int .u64 0, .int .u64 7, .int .u64 7], .int .i64 0]) (by simp [results, Tryz.results101, go_sem, *]) rfl ⟨rfl, ?_⟩
  (repeat (refine Below.setCell ?_ (by first | exact Nat.le_refl _ | exact Nat.le_succ _ | (simp; done) | (simp; omega)) _))
  exact hW0.trans (hb4.mono hW0.size)

theorem info82 : (Tryz.prog.info? 82).map (·.size) = some 589 := by kernel_rfl
theorem zc82_one : Tryz.zeroCells82.all (·.oneCell') = true := by unfold Tryz.zeroCells82; decide +kernel
theorem storeZ82 (w : World) : (storeCells ⟨w.heap.size, 0, none⟩ Tryz.zeroCells82.toList 0).run Tryz.prog (w.alloc (.cells Tryz.zeroCells82 82)) = .ok () (w.alloc (.cells Tryz.zeroCells82 82)) :=
  run_storeCells_new w 82 _ _ (by rw [info82, Tryz.zeroCells82_size]) rfl zc82_one
abbrev Z7L : List Value := [.int .u8 0, .int .u64 0, .int .u64 0, .int .u64 0, .int .u64 0, .int .i64 0, .int .i64 0]
def restS : List Value := [.int .u8 2, .int .u64 0, .int .u64 0, .int .u64 0, .int .u64 0, .int .i64 0, .int .i64 0] ++ (List.replicate 8 Z7L).flatten ++ [.int .u8 3, .int .u64 0, .int .u64 0, .int .u64 0, .int .u64 0, .int .i64 0, .int .i64 512] ++ (List.replicate 64 [.int .u8 0, .int .u64 0, .int .u64 0, .int .u64 0, .int .u64 0, .int .i64 0, .int .i64 0, .int .u8 0]).flatten
/-- The cells of a state: what is known of r0; r1 the context, r10 the frame, no other thing set. -/
def SVl (r : List Value) : List Value := r ++ restS
theorem restS_len : restS.length = 582 := by decide +kernel
theorem restS_one : restS.all (·.oneCell') = true := by decide +kernel
theorem SVl_len {r : List Value} (h : r.length = 7) : (SVl r).length = 589 := by rw [SVl, List.length_append, h, restS_len]
theorem first_eq : (((((((((((((((Tryz.zeroCells82.setIfInBounds 7 (Value.int IntKind.u8 2)).setIfInBounds 8 (Value.int IntKind.u64 0)).setIfInBounds 9 (Value.int IntKind.u64 0)).setIfInBounds 10 (Value.int IntKind.u64 0)).setIfInBounds 11 (Value.int IntKind.u64 0)).setIfInBounds 12 (Value.int IntKind.i64 0)).setIfInBounds 13 (Value.int IntKind.i64 0)).setIfInBounds 70 (Value.int IntKind.u8 3)).setIfInBounds 71 (Value.int IntKind.u64 0)).setIfInBounds 72 (Value.int IntKind.u64 0)).setIfInBounds 73 (Value.int IntKind.u64 0)).setIfInBounds 74 (Value.int IntKind.u64 0)).setIfInBounds 75 (Value.int IntKind.i64 0)).setIfInBounds 76 (Value.int IntKind.i64 512))) = (SVl Z7L).toArray := by
  unfold Tryz.zeroCells82
  kernel_rfl
abbrev d82 : TypeDesc := .struct #[{ name := "Regs", type := 77, offset := 0, embedded := false, tag := "", pkgPath := "", byteOffset := 0 }, { name := "Slots", type := 80, offset := 77, embedded := false, tag := "", pkgPath := "", byteOffset := 616 }]
theorem und82 : Tryz.prog.underlying 82 = some d82 := by kernel_rfl
theorem below_setCells {B : Nat} {a : World} (b : Nat) (hb : B ≤ b) : ∀ (vs : List Value) (o : Nat) {w : World}, Below B a w → Below B a (w.setCells b o vs)
  | [], _, _, h => h
  | v :: r, o, w, h => by
    rw [World.setCells]
    exact below_setCells b hb r (o + 1) (h.setCell hb _)
theorem ld82 {op : Oper} {a : Act} {w : World} {K : Act → World → Prop} {Q : Exit → Act → World → Prop} (x : Operand) (ho : op.op = .load 82 x) (b o : Nat) (hx : a.eval x = .pointer (some ⟨b, o, none⟩)) (cs : List Value) (hc : w.rangeAt b o cs) (hn : cs.length = 589)
    (h : K (a.put op.dst (.agg cs.toArray)) w) : op.wp Tryz.prog a w K Q :=
  wp_load_mid 82 x ho b o hx cs d82 hc und82 rfl (by rw [info82, hn]) h
theorem st82 {op : Oper} {a : Act} {w : World} {K : Act → World → Prop} {Q : Exit → Act → World → Prop} (x y : Operand) (ho : op.op = .store 82 x y) (b o : Nat) (cs : List Value) (hx : a.eval x = .pointer (some ⟨b, o, none⟩)) (hy : a.eval y = .agg cs.toArray)
    (ht : w.there b o 589) (hn : cs.length = 589) (h1 : ∀ v ∈ cs, v.oneCell' = true) (h : K (a.put op.dst undef) (w.setCells b o cs)) : op.wp Tryz.prog a w K Q :=
  wp_store_mid 82 x y ho b o cs.toArray hx hy (by simpa [hn] using ht) (by rw [info82]; simp [hn]) (all_oneCell_toArray h1) (by simpa using h)
theorem store_mid {P : Program} {w : World} {b o : Nat} {xs : List Value} (ht : w.there b o xs.length) (h1 : ∀ v ∈ xs, v.oneCell' = true) : (storeCells ⟨b, o, none⟩ xs 0).run P w = .ok () (w.setCells b o xs) := by
  have := run_storeCells_cells (P := P) b o xs 0 w (fun j hj => by simpa using (ht j hj).1) (fun j hj => by simpa using (ht j hj).2) h1
  simpa using this
theorem results_cell {P : Program} {fn : Func} {tmps : Array Value} {i : Nat} {t : TypeId} {p : Addr} {v : Value} {V : World} (hr : fn.results = #[.cell i t]) (hp : tmps.getD i undef = .pointer (some p)) (hl : (loadVar t p).run P V = .ok v V) : (results fn tmps).run P V = .ok v V := by
  have hp' : tmps[i]?.getD undef = .pointer (some p) := by simpa using hp
  rw [results, hr]
  simp [Sem.run_bind, hp', hl, asAddr]
theorem restS_ones : ∀ v ∈ restS, v.oneCell' = true := fun v hv => List.all_eq_true.1 restS_one v hv
theorem range_of_block {w : World} {b : Nat} {xs : List Value} {t : TypeId} (h : w.heap[b]? = some (.cells xs.toArray t)) : w.rangeAt b 0 xs := fun j v hv => by
  rw [cell_of_row w b _ _ t (0, 0) h]; simpa using hv
theorem there_of_block {w : World} {b : Nat} {C : Array Value} {t : TypeId} (h : w.heap[b]? = some (.cells C t)) (n : Nat) (hn : C.size = n) : w.there b 0 n := fun j hj => by
  constructor
  · rw [cell_of_row w b _ _ t (0, 0) h]; simp; omega
  · exact frozen_of_row w b _ _ t h
set_option maxRecDepth 100000 in
set_option maxHeartbeats 2000000 in
theorem rfirst13 (w : World) : Calls Tryz.prog 31 #[] w fun e w' => e = .returned (.agg (SVl Z7L).toArray) ∧ Below w.heap.size w w' := by
  have hs : ∀ a, (storeCells ⟨w.heap.size + 1, 0, none⟩ Tryz.zeroCells82.toList 0).run Tryz.prog ((w.alloc a).alloc (.cells Tryz.zeroCells82 82)) = .ok () ((w.alloc a).alloc (.cells Tryz.zeroCells82 82)) := fun a => by
    have := storeZ82 (w.alloc a)
    rwa [show (w.alloc a).heap.size = w.heap.size + 1 by simp] at this
  go_enter Tryz.func31, Tryz.ntmps31
  go_upto_region 4 with fail
  rw [first_eq]
  clear hs
  have hA := SVl_len (r := Z7L) rfl
  have hA1 : ∀ v ∈ SVl Z7L, v.oneCell' = true := by intro v hv; rcases List.mem_append.1 hv with h | h; exact (by decide : ∀ v ∈ Z7L, v.oneCell' = true) v h; exact restS_ones v h
  generalize hA0 : SVl Z7L = A at hA hA1 ⊢
  have q0 : ((w.alloc (.cells Tryz.zeroCells82 82)).alloc (.cells A.toArray 82)).heap[w.heap.size]? = some (.cells Tryz.zeroCells82 82) := heap2_0 _ _ _
  have q1 : ((w.alloc (.cells Tryz.zeroCells82 82)).alloc (.cells A.toArray 82)).heap[w.heap.size + 1]? = some (.cells A.toArray 82) := heap2_1 _ _ _
  have hW0 : Below w.heap.size w ((w.alloc (.cells Tryz.zeroCells82 82)).alloc (.cells A.toArray 82)) := below_boxes2 _ _ _
  generalize (w.alloc (.cells Tryz.zeroCells82 82)).alloc (.cells A.toArray 82) = W at *
  have hst := store_mid (P := Tryz.prog) (w := W) (b := w.heap.size) (o := 0) (xs := A) (by rw [hA]; exact there_of_block q0 _ Tryz.zeroCells82_size) hA1
  go_wp2_with fail
  refine ld82 _ rfl (w.heap.size + 1) 0 rfl A (range_of_block q1) hA ?_
  go_wp2_with fail
  have hr := World.rangeAt_setCells_same W w.heap.size 0 A (by rw [hA]; exact there_of_block q0 _ Tryz.zeroCells82_size)
  have hb := below_setCells w.heap.size (Nat.le_refl _) A 0 hW0
  generalize W.setCells w.heap.size 0 A = V at *
  exact bodyPost_ret (v := .agg A.toArray) (results_cell Tryz.results31 rfl (run_loadVar_mid (P := Tryz.prog) V w.heap.size 0 82 A d82 hr und82 rfl (by rw [info82, hA]))) rfl ⟨by rw [hA0], hb⟩

end Go.Proofs.YtbfgffmebniooaaGreat
end

section
/- The check of a state of the closed run. No statement is proved here. -/
namespace Go.Proofs.YtbfgffmebniooaaGreat
open Go.RowKit
set_option linter.unusedSimpArgs false
set_option linter.unusedVariables false
set_option linter.unnecessarySimpa false
abbrev NumL (n : Int) : List Value := [.int .u8 1, .int .u64 n, .int .u64 0, .int .u64 n, .int .u64 n, .int .i64 0, .int .i64 0]
abbrev CtxL : List Value := [.int .u8 2, .int .u64 0, .int .u64 0, .int .u64 0, .int .u64 0, .int .i64 0, .int .i64 0]
abbrev StkL : List Value := [.int .u8 3, .int .u64 0, .int .u64 0, .int .u64 0, .int .u64 0, .int .i64 0, .int .i64 512]
/-- One of the values that a register of the closed run holds. -/
def ValOk (v : List Value) : Prop := v = Z7L ∨ v = CtxL ∨ v = StkL ∨ ∃ n, U64 n ∧ v = NumL n
theorem ValOk.get {v : List Value} (h : ValOk v) : ∃ v0 v1 v2 v3 v4 v5 v6, v = [v0, v1, v2, v3, v4, v5, v6] ∧ ∀ w, Calls Tryz.prog 72 #[.agg #[v0, v1, v2, v3, v4, v5, v6]] w fun e w' => e = .returned (.bool true) ∧ Below w.heap.size w w' := by
  rcases h with rfl | rfl | rfl | ⟨n, hn, rfl⟩
  · exact ⟨_, _, _, _, _, _, _, rfl, rval12_none⟩
  · exact ⟨_, _, _, _, _, _, _, rfl, rval12_ctx⟩
  · exact ⟨_, _, _, _, _, _, _, rfl, rval12_stk⟩
  · exact ⟨_, _, _, _, _, _, _, rfl, rval12_num n hn⟩
theorem seven {j : Nat} (h : j < 7) : j = 0 ∨ j = 1 ∨ j = 2 ∨ j = 3 ∨ j = 4 ∨ j = 5 ∨ j = 6 := by omega
theorem SV_reg {r : List Value} (hr : ValOk r) {i : Nat} (hi : i < 11) : ∃ v, ValOk v ∧ ∀ j, j < 7 → (SVl r)[7 * i + j]? = v[j]? := by
  obtain ⟨r0, r1, r2, r3, r4, r5, r6, rfl, _⟩ := hr.get
  have hcs : i = 0 ∨ i = 1 ∨ i = 10 ∨ i = 2 ∨ i = 3 ∨ i = 4 ∨ i = 5 ∨ i = 6 ∨ i = 7 ∨ i = 8 ∨ i = 9 := by omega
  rcases hcs with rfl | rfl | rfl | hcs
  · exact ⟨_, hr, fun j hj => by rcases seven hj with rfl | rfl | rfl | rfl | rfl | rfl | rfl <;> rfl⟩
  · exact ⟨CtxL, .inr (.inl rfl), fun j hj => by rcases seven hj with rfl | rfl | rfl | rfl | rfl | rfl | rfl <;> rfl⟩
  · exact ⟨StkL, .inr (.inr (.inl rfl)), fun j hj => by rcases seven hj with rfl | rfl | rfl | rfl | rfl | rfl | rfl <;> rfl⟩
  · refine ⟨Z7L, .inl rfl, fun j hj => ?_⟩
    rcases hcs with rfl | rfl | rfl | rfl | rfl | rfl | rfl | rfl <;> (rcases seven hj with rfl | rfl | rfl | rfl | rfl | rfl | rfl <;> rfl)
theorem flat_at {α : Type} (xs : List α) {m : Nat} (hm : xs.length = m) : ∀ (n i j : Nat), i < n → j < m → ((List.replicate n xs).flatten)[m * i + j]? = xs[j]?
  | 0, i, _, h, _ => absurd h (by omega)
  | n + 1, 0, j, _, hj => by
    rw [List.replicate_succ, List.flatten_cons, List.getElem?_append_left (by omega)]; congr 1; omega
  | n + 1, i + 1, j, h, hj => by
    rw [List.replicate_succ, List.flatten_cons, List.getElem?_append_right (by rw [hm, Nat.mul_succ]; omega), hm, show m * (i + 1) + j - m = m * i + j by rw [Nat.mul_succ]; omega]
    exact flat_at xs hm n i j (by omega) hj
abbrev Z8L : List Value := [.int .u8 0, .int .u64 0, .int .u64 0, .int .u64 0, .int .u64 0, .int .i64 0, .int .i64 0, .int .u8 0]
theorem SV_slot {r : List Value} (hr : r.length = 7) {i j : Nat} (hi : i < 64) (hj : j < 8) : (SVl r)[77 + 8 * i + j]? = Z8L[j]? := by
  rw [SVl, restS, ← List.append_assoc, List.getElem?_append_right (by simp [hr]; omega)]
  rw [← flat_at Z8L (m := 8) rfl 64 i j hi hj]
  congr 1
  simp [hr]; omega
set_option maxRecDepth 100000 in
set_option maxHeartbeats 2000000 in
theorem rright13 {r : List Value} (hr : ValOk r) (w : World) : Calls Tryz.prog 60 #[.agg (SVl r).toArray] w fun e w' => e = .returned (.bool true) ∧ Below w.heap.size w w' := by
  have hl7 : r.length = 7 := by obtain ⟨r0, r1, r2, r3, r4, r5, r6, rfl, _⟩ := hr.get; rfl
  have hreg := fun (i : Nat) (hi : i < 11) => SV_reg hr hi
  have hslot := fun (i j : Nat) (hi : i < 64) (hj : j < 8) => SV_slot hl7 (i := i) (j := j) hi hj
  generalize SVl r = A at *
  have q0 := heap1_0 w (.cells A.toArray 82)
  have hc : ∀ k u, A[k]? = some u → ∀ w', Below (w.alloc (.cells A.toArray 82)).heap.size (w.alloc (.cells A.toArray 82)) w' → w'.cell? ⟨w.heap.size, k, none⟩ = some u := fun k u hu => boxc q0 (by simpa using hu)
  clear q0
  have hW0 : Below w.heap.size w (w.alloc (.cells A.toArray 82)) := below_boxes1 _ _
  have hrf := Below.refl (w.alloc (.cells A.toArray 82)).heap.size (w.alloc (.cells A.toArray 82))
  go_enter Tryz.func60, Tryz.ntmps60
  go_upto_region 1 with fail
  generalize w.alloc (.cells A.toArray 82) = W at *
  have HREG := Lib.hid hreg
  have HSLOT := Lib.hid hslot
  have HC := Lib.hid hc
  clear hreg hslot hc hr
  go_wp2_with fail
  go_loopw [3] (fun k wr => ∃ j : Nat, j ≤ 11 ∧ k = .int .i64 j ∧ Below W.heap.size W wr) (fun k _ => 11 - (intOf k).toNat)
  case atStart => exact ⟨0, by omega, rfl, hrf⟩
  case round =>
    obtain ⟨j, hj, rfl, hb⟩ := hrel
    rcases Nat.lt_or_ge j 11 with hlt | hge
    · obtain ⟨v, hv, hvc⟩ := HREG.out j hlt
      obtain ⟨v0, v1, v2, v3, v4, v5, v6, rfl, hcall⟩ := hv.get
      have c0 := HC.out (j * 7) v0 (by rw [show j * 7 = 7 * j + 0 by omega, hvc 0 (by omega)]; rfl) _ hb
      have c1 := HC.out (j * 7 + 1) v1 (by rw [show j * 7 + 1 = 7 * j + 1 by omega, hvc 1 (by omega)]; rfl) _ hb
      have c2 := HC.out (j * 7 + 2) v2 (by rw [show j * 7 + 2 = 7 * j + 2 by omega, hvc 2 (by omega)]; rfl) _ hb
      have c3 := HC.out (j * 7 + 3) v3 (by rw [show j * 7 + 3 = 7 * j + 3 by omega, hvc 3 (by omega)]; rfl) _ hb
      have c4 := HC.out (j * 7 + 4) v4 (by rw [show j * 7 + 4 = 7 * j + 4 by omega, hvc 4 (by omega)]; rfl) _ hb
      have c5 := HC.out (j * 7 + 5) v5 (by rw [show j * 7 + 5 = 7 * j + 5 by omega, hvc 5 (by omega)]; rfl) _ hb
      have c6 := HC.out (j * 7 + 6) v6 (by rw [show j * 7 + 6 = 7 * j + 6 by omega, hvc 6 (by omega)]; rfl) _ hb
      clear hvc hv
      go_wp2_with fail
      refine (hcall _).mono ?_
      rintro e w1 ⟨rfl, hc1⟩
      have hb1 := hb.trans (hc1.mono hb.size)
      clear hc1
      go_wp2_with fail
      go_roundw
      case rel => exact ⟨j + 1, by omega, by go_num, hb1⟩
      case measure => simp [intOf]; omega
    · go_wp2_with fail
      go_loopw [4] (fun k wr => ∃ j : Nat, j ≤ 64 ∧ k = .int .i64 j ∧ Below W.heap.size W wr) (fun k _ => 64 - (intOf k).toNat)
      case atStart => exact ⟨0, by omega, rfl, hb⟩
      case round =>
        clear hb hge
        obtain ⟨j, hj, rfl, hb⟩ := hrel
        rcases Nat.lt_or_ge j 64 with hlt | hge
        · have c0 := HC.out (77 + j * 8) (.int .u8 0) (by rw [show 77 + j * 8 = 77 + 8 * j + 0 by omega, HSLOT.out j 0 hlt (by omega)]; rfl)
          have c1 := HC.out (77 + j * 8 + 1) (.int .u64 0) (by rw [show 77 + j * 8 + 1 = 77 + 8 * j + 1 by omega, HSLOT.out j 1 hlt (by omega)]; rfl)
          have c2 := HC.out (77 + j * 8 + 2) (.int .u64 0) (by rw [show 77 + j * 8 + 2 = 77 + 8 * j + 2 by omega, HSLOT.out j 2 hlt (by omega)]; rfl)
          have c3 := HC.out (77 + j * 8 + 3) (.int .u64 0) (by rw [show 77 + j * 8 + 3 = 77 + 8 * j + 3 by omega, HSLOT.out j 3 hlt (by omega)]; rfl)
          have c4 := HC.out (77 + j * 8 + 4) (.int .u64 0) (by rw [show 77 + j * 8 + 4 = 77 + 8 * j + 4 by omega, HSLOT.out j 4 hlt (by omega)]; rfl)
          have c5 := HC.out (77 + j * 8 + 5) (.int .i64 0) (by rw [show 77 + j * 8 + 5 = 77 + 8 * j + 5 by omega, HSLOT.out j 5 hlt (by omega)]; rfl)
          have c6 := HC.out (77 + j * 8 + 6) (.int .i64 0) (by rw [show 77 + j * 8 + 6 = 77 + 8 * j + 6 by omega, HSLOT.out j 6 hlt (by omega)]; rfl)
          have c7 := HC.out (77 + j * 8 + 7) (.int .u8 0) (by rw [show 77 + j * 8 + 7 = 77 + 8 * j + 7 by omega, HSLOT.out j 7 hlt (by omega)]; rfl)
          have hz := rval12_none
          have C := c0 _ hb
          go_wp2_with fail
          refine (hz _).mono ?_
          rintro e w1 ⟨rfl, hc1⟩
          have hb1 := hb.trans (hc1.mono hb.size)
          clear hc1
          have C0 := c0 _ hb1
          go_wp2_with fail
          go_roundw
          case rel => exact ⟨j + 1, by omega, by go_num, hb1⟩
          case measure => simp [intOf]; omega
        · go_wp2_with fail
          go_ret
          exact ⟨rfl, hW0.trans (hb.mono hW0.size)⟩

end Go.Proofs.YtbfgffmebniooaaGreat
end

section
/- Rows of hundreds of cells, and the way on, of the closed run. No statement is proved here. -/
namespace Go.Proofs.YtbfgffmebniooaaGreat
open Go.RowKit
set_option linter.unusedSimpArgs false
set_option linter.unusedVariables false
set_option linter.unnecessarySimpa false
/-! ### Rows of hundreds of cells: never opened cell by cell -/
def ldRow (a : Addr) (n : Nat) : Sem (Array Value) := loadCells a n
theorem ldFrom_589 (a : Addr) : loadCellsFrom a 0 589 #[] = ldRow a 589 := rfl
theorem ldFrom_604 (a : Addr) : loadCellsFrom a 0 604 #[] = ldRow a 604 := rfl
theorem run_ldRow {P : Program} {w : World} {b o n : Nat} {cs : List Value} (h : w.rangeAt b o cs) (hn : cs.length = n) : (ldRow ⟨b, o, none⟩ n).run P w = .ok cs.toArray w := by
  have := run_loadCells_list (P := P) w ⟨b, o, none⟩ cs (fun j v hv => by rw [Addr.add_mid]; exact h j v hv)
  rw [hn] at this
  exact this
def PlacesOk (place : Nat → Option (Nat × Nat)) : Nat → Nat → List Value → Prop
  | _, _, [] => True
  | i, off, v :: vs => place i = some (off, v.cells.size) ∧ PlacesOk place (i + 1) (off + v.cells.size) vs
theorem fill_places (place : Nat → Option (Nat × Nat)) : ∀ (vs : List Value) (i0 off : Nat) (cells : Array Value), PlacesOk place i0 off vs → off + (vs.flatMap fun v => v.cells.toList).length ≤ cells.size →
    ∃ r, Instr.fill place cells ((vs.zipIdx i0).map fun x => (x.2, x.1)) = some r ∧ r.size = cells.size ∧ ∀ k, r[k]? = if off ≤ k ∧ k < off + (vs.flatMap fun v => v.cells.toList).length then (vs.flatMap fun v => v.cells.toList)[k - off]? else cells[k]?
  | [], i0, off, cells, _, _ => by
    refine ⟨cells, rfl, rfl, fun k => ?_⟩
    rw [if_neg (by simp)]
  | v :: vs, i0, off, cells, hp, hle => by
    obtain ⟨hp0, hp1⟩ := hp
    rw [List.flatMap_cons, List.length_append, Array.length_toList] at hle
    obtain ⟨g1, g2⟩ := Great.foldl_set off v.cells.toList 0 cells
    obtain ⟨r, hr, hsz, hk⟩ := fill_places place vs (i0 + 1) (off + v.cells.size) ((v.cells.toList.zipIdx 0).foldl (fun cs (x : Value × Nat) => cs.setIfInBounds (off + x.2) x.1) cells) hp1 (by rw [g1]; omega)
    refine ⟨r, ?_, by rw [hsz, g1], fun k => ?_⟩
    · simp only [List.zipIdx_cons, List.map_cons]
      unfold Instr.fill
      simp only [hp0]
      rw [if_neg (by simp; omega)]
      rw [← hr]
      congr 1
      rw [← Array.foldl_toList, Array.toList_zipIdx]
    · rw [hk k, g2 k]
      simp only [Nat.add_zero, Array.length_toList, List.flatMap_cons, List.length_append]
      by_cases hA : off + v.cells.size ≤ k ∧ k < off + v.cells.size + (vs.flatMap fun v => v.cells.toList).length
      · rw [if_pos hA, if_pos (by omega), List.getElem?_append_right (by simp; omega)]
        congr 1
        simp; omega
      · rw [if_neg hA]
        by_cases hB : off ≤ k ∧ k < off + v.cells.size
        · rw [if_pos (by omega), if_pos (by omega), List.getElem?_append_left (by simp; omega)]
        · rw [if_neg (by omega), if_neg (by omega)]
theorem fill_whole_places (place : Nat → Option (Nat × Nat)) (vs : List Value) (cells : Array Value) (hp : PlacesOk place 0 0 vs) (hn : (vs.flatMap fun v => v.cells.toList).length = cells.size) :
    Instr.fill place cells ((vs.zipIdx 0).map fun x => (x.2, x.1)) = some (vs.flatMap fun v => v.cells.toList).toArray := by
  obtain ⟨r, hr, hsz, hk⟩ := fill_places place vs 0 0 cells hp (by omega)
  rw [hr]
  congr 1
  apply Array.ext_getElem?
  intro k
  rw [hk k]
  by_cases h : k < (vs.flatMap fun v => v.cells.toList).length
  · rw [if_pos (by omega)]; simp
  · rw [if_neg (by omega), Array.getElem?_eq_none (by omega)]
    rw [List.getElem?_toArray, List.getElem?_eq_none (by omega)]
def mkS89 (parts : Array (Nat × Value)) : Sem Value := Instr.buildSlice 89 1 parts
theorem mkS89_eq (parts : Array (Nat × Value)) : Instr.buildSlice 89 1 parts = mkS89 parts := rfl
theorem info94 : (Tryz.prog.info? 94).map (fun i => (i.zero.map (·.cells.size), i.size)) = some (some 590, 590) := by kernel_rfl
theorem run_mkS89 (A : List Value) (hA : A.length = 590) (w : World) : (mkS89 #[(0, .agg A.toArray)]).run Tryz.prog w = .ok (.slice (some ⟨w.heap.size, 0, none⟩) 1 1) (w.alloc (.cells A.toArray 94)) := by
  cases hi : Tryz.prog.info? 94 with
  | none => have := info94; rw [hi] at this; cases this
  | some ie =>
    have h := info94
    rw [hi] at h
    simp only [Option.map_some, Option.some.injEq, Prod.mk.injEq] at h
    obtain ⟨hz, hs⟩ := h
    cases hzz : ie.zero with
    | none => rw [hzz] at hz; cases hz
    | some z =>
      rw [hzz] at hz
      simp only [Option.map_some, Option.some.injEq] at hz
      have hf := Great.fill_whole (s := 590) (by omega) [.agg A.toArray] ((Array.range (1 * 590)).map (z.cells[· % z.cells.size]!)) (fun v hv => by simp at hv; subst hv; simpa [Value.cells] using hA) (by simp)
      exact run_buildSlice w 89 94 1 #[(0, .agg A.toArray)] _ ie z Tryz.underlying89 hi hzz (by rw [hs]; omega) (by rw [hs]; omega) (by rw [hs]; simpa [Value.cells] using hf)
def mkW94 (parts : Array (Nat × Value)) : Sem Value := Instr.build 94 parts
theorem mkW94_eq (parts : Array (Nat × Value)) : Instr.build 94 parts = mkW94 parts := rfl
def mkW108 (parts : Array (Nat × Value)) : Sem Value := Instr.build 108 parts
theorem mkW108_eq (parts : Array (Nat × Value)) : Instr.build 108 parts = mkW108 parts := rfl
theorem run_mkW94 (n : Int) (S : List Value) (hS : S.length = 589) (w : World) : (mkW94 #[(0, .int .i64 n), (1, .agg S.toArray)]).run Tryz.prog w = .ok (.agg (.int .i64 n :: S).toArray) w := by
  have hf : Instr.fill (fun x => [(0, 1), (1, 589)][x]?) (Value.agg Tryz.zeroCells94).cells [(0, .int .i64 n), (1, .agg S.toArray)] = some (.int .i64 n :: S).toArray := by
    refine (fill_whole_places (fun x => [(0, 1), (1, 589)][x]?) [.int .i64 n, .agg S.toArray] _ (by simp [PlacesOk, Value.cells, hS]) ?_).trans ?_
    · show _ = Tryz.zeroCells94.size
      rw [Tryz.zeroCells94_size]; simp [Value.cells, hS]
    · simp [Value.cells]
  unfold mkW94 Instr.build
  simp [Sem.run_bind, Tryz.zeroValue94, Tryz.runUnderlying94, Tryz.sizeOf3, Tryz.sizeOf82, hf]
theorem run_mkW108 (a0 : Value) (b0 b1 : Value) (at' : Int) (x0 x1 x2 x3 x4 : Value) (w0 w1 w2 w3 w4 w5 : Value) (S : List Value) (hS : S.length = 589) (h0 : a0.cells = #[a0]) (w : World) :
    (mkW108 #[(0, a0), (1, .agg #[b0, b1]), (2, .int .i64 at'), (3, .agg #[x0, x1, x2, x3, x4]), (4, .agg #[w0, w1, w2, w3, w4, w5]), (5, .agg S.toArray)]).run Tryz.prog w = .ok (.agg (a0 :: b0 :: b1 :: .int .i64 at' :: x0 :: x1 :: x2 :: x3 :: x4 :: w0 :: w1 :: w2 :: w3 :: w4 :: w5 :: S).toArray) w := by
  have hf : Instr.fill (fun x => [(0, 1), (1, 2), (3, 1), (4, 5), (9, 6), (15, 589)][x]?) (Value.agg Tryz.zeroCells108).cells [(0, a0), (1, .agg #[b0, b1]), (2, .int .i64 at'), (3, .agg #[x0, x1, x2, x3, x4]), (4, .agg #[w0, w1, w2, w3, w4, w5]), (5, .agg S.toArray)] = some (a0 :: b0 :: b1 :: .int .i64 at' :: x0 :: x1 :: x2 :: x3 :: x4 :: w0 :: w1 :: w2 :: w3 :: w4 :: w5 :: S).toArray := by
    refine (fill_whole_places (fun x => [(0, 1), (1, 2), (3, 1), (4, 5), (9, 6), (15, 589)][x]?) [a0, .agg #[b0, b1], .int .i64 at', .agg #[x0, x1, x2, x3, x4], .agg #[w0, w1, w2, w3, w4, w5], .agg S.toArray] _ (by rw [PlacesOk, h0]; simp [PlacesOk, Value.cells, hS]) ?_).trans ?_
    · show _ = Tryz.zeroCells108.size
      rw [Tryz.zeroCells108_size, List.flatMap_cons, h0]; simp [Value.cells, hS]
    · rw [List.flatMap_cons, h0]; simp [Value.cells]
  unfold mkW108 Instr.build
  simp [Sem.run_bind, Tryz.zeroValue108, Tryz.runUnderlying108, Tryz.sizeOf3, Tryz.sizeOf22, Tryz.sizeOf59, Tryz.sizeOf50, Tryz.sizeOf61, Tryz.sizeOf82, hf]

attribute [local go_sem ↓] ldFrom_589 ldFrom_604 mkS89_eq mkW94_eq mkW108_eq
set_option maxRecDepth 100000 in
set_option maxHeartbeats 2000000 in
theorem ron14 (l : List Insn) (Ad : Option Addr) (c j : Nat) (hn : l.length ≤ 100000) (hj : j < l.length) (K S : List Value) (h0 : K[0]? = some (.slice Ad l.length c)) (h3 : K[3]? = some (.int .i64 j)) (hs : S.length = 589) (w : World) (hat : SAt w w.heap.size 5 Ad l.length (insnsV l)) :
    Calls Tryz.prog 98 #[.agg K.toArray, .agg S.toArray] w fun e w' => ∃ b, e = .returned (.tuple #[.slice (some ⟨b, 0, none⟩) 1 1, .int .i64 0]) ∧ w.heap.size ≤ b ∧ w'.rangeAt b 0 (.int .i64 (stepN l j : Nat) :: S) ∧ Below w.heap.size w w' := by
  have hnx := fun (w' : World) (hb : Below w.heap.size w w') => rnext_at l Ad c j hn hj w w' hat hb
  have q0 := heap2_0 w (.cells K.toArray 108) (.cells S.toArray 82)
  have q1 := heap2_1 w (.cells K.toArray 108) (.cells S.toArray 82)
  have k0 := boxc (k := 0) (u := .slice Ad l.length c) q0 (by simpa using h0)
  have k3 := boxc (k := 3) (u := .int .i64 j) q0 (by simpa using h3)
  have hc : ∀ w', Below ((w.alloc (.cells K.toArray 108)).alloc (.cells S.toArray 82)).heap.size ((w.alloc (.cells K.toArray 108)).alloc (.cells S.toArray 82)) w' → w'.rangeAt (w.heap.size + 1) 0 S := fun w' h => fun k u hu => by rw [Nat.zero_add]; exact boxc q1 (by simpa using hu) w' h
  clear q0 q1
  have hW0 : Below w.heap.size w ((w.alloc (.cells K.toArray 108)).alloc (.cells S.toArray 82)) := below_boxes2 _ _ _
  have hrf := Below.refl ((w.alloc (.cells K.toArray 108)).alloc (.cells S.toArray 82)).heap.size ((w.alloc (.cells K.toArray 108)).alloc (.cells S.toArray 82))
  go_enter Tryz.func98, Tryz.ntmps98
  go_upto_region 1 with fail
  generalize (w.alloc (.cells K.toArray 108)).alloc (.cells S.toArray 82) = W at *
  have hld : ∀ w', Below W.heap.size W w' → (ldRow ⟨w.heap.size + 1, 0, none⟩ 589).run Tryz.prog w' = .ok S.toArray w' := fun w' h => run_ldRow (hc w' h) hs
  have hmw := fun (n : Int) (w1 : World) => run_mkW94 n S hs w1
  have hms := fun (n : Int) (w1 : World) => run_mkS89 (.int .i64 n :: S) (by rw [List.length_cons, hs]) w1
  have hnW := fun (w' : World) (hb : Below W.heap.size W w') => hnx w' (hW0.trans (hb.mono hW0.size))
  clear hnx
  go_region_held3 (fun w' => Below W.heap.size W w') (first | assumption | exact sbelow_drew (by assumption) | exact sbelow_alloc (by assumption) (Nat.le_refl _))
    (first | (go_at_call 24; refine (hnW _ (by assumption)).mono ?_; rintro e w1 ⟨rfl, hc1⟩; have hS1 : Below W.heap.size W w1 := below_step (by assumption) (Nat.le_refl _) hc1))
  go_wp2_with fail
  go_ret2
  have hB := hW0.trans (hS1.mono hW0.size)
  exact ⟨w1.heap.size, rfl, hB.size, fun k u hu => by rw [Nat.zero_add]; exact boxc (heap1_0 w1 _) (by simpa using hu) _ (Below.refl _ _), hB.alloc hB.size _⟩

end Go.Proofs.YtbfgffmebniooaaGreat
end

section
/- Readings of a walk of the closed run. No statement is proved here. -/
namespace Go.Proofs.YtbfgffmebniooaaGreat
open Go.RowKit
set_option linter.unusedSimpArgs false
set_option linter.unusedVariables false
set_option linter.unnecessarySimpa false
attribute [local go_sem ↓] ldFrom_589 ldFrom_604 mkS89_eq mkW94_eq mkW108_eq

set_option maxRecDepth 100000 in
set_option maxHeartbeats 4000000 in
theorem rdst14 (x0 : Int) (x2 x3 x4 m0 m1 m2 m3 m4 m5 : Value) (r0 r1 r2 r3 r4 r5 r6 : Int) (l : List Insn) (Ad : Option Addr) (c j : Nat) (K : List Value) (hK : K = [.slice Ad l.length c, .slice none 0 0, .int .i64 0, .int .i64 j, .int .u8 x0, .int .u8 0, x2, x3, x4, m0, m1, m2, m3, m4, m5] ++ SVl [.int .u8 r0, .int .u64 r1, .int .u64 r2, .int .u64 r3, .int .u64 r4, .int .i64 r5, .int .i64 r6]) (hKn : K.length = 604) (w : World) : Calls Tryz.prog 96 #[.agg K.toArray] w fun e w' => e = .returned (.agg #[.int .u8 r0, .int .u64 r1, .int .u64 r2, .int .u64 r3, .int .u64 r4, .int .i64 r5, .int .i64 r6]) ∧ Below w.heap.size w w' := by
  have q0 : ((w.alloc (.cells K.toArray 108)).alloc (.cells #[.int .u8 0, .int .u64 0, .int .u64 0, .int .u64 0, .int .u64 0, .int .i64 0, .int .i64 0] 41)).heap[w.heap.size]? = some (.cells K.toArray 108) := heap2_0 _ _ _
  have k5 := boxc (k := 5) (u := .int .u8 0) q0 (by rw [hK]; rfl)
  have k15 := boxc (k := 15) (u := .int .u8 r0) q0 (by rw [hK]; rfl)
  have k16 := boxc (k := 16) (u := .int .u64 r1) q0 (by rw [hK]; rfl)
  have k17 := boxc (k := 17) (u := .int .u64 r2) q0 (by rw [hK]; rfl)
  have k18 := boxc (k := 18) (u := .int .u64 r3) q0 (by rw [hK]; rfl)
  have k19 := boxc (k := 19) (u := .int .u64 r4) q0 (by rw [hK]; rfl)
  have k20 := boxc (k := 20) (u := .int .i64 r5) q0 (by rw [hK]; rfl)
  have k21 := boxc (k := 21) (u := .int .i64 r6) q0 (by rw [hK]; rfl)
  clear q0
  have q1 : ((w.alloc (.cells K.toArray 108)).alloc (.cells #[.int .u8 0, .int .u64 0, .int .u64 0, .int .u64 0, .int .u64 0, .int .i64 0, .int .i64 0] 41)).heap[(w.heap.size + 1)]? = some (.cells #[.int .u8 0, .int .u64 0, .int .u64 0, .int .u64 0, .int .u64 0, .int .i64 0, .int .i64 0] 41) := heap2_1 _ _ _
  have b0 := boxc (k := 0) (u := .int .u8 0) q1 rfl
  have b1 := boxc (k := 1) (u := .int .u64 0) q1 rfl
  have b2 := boxc (k := 2) (u := .int .u64 0) q1 rfl
  have b3 := boxc (k := 3) (u := .int .u64 0) q1 rfl
  have b4 := boxc (k := 4) (u := .int .u64 0) q1 rfl
  have b5 := boxc (k := 5) (u := .int .i64 0) q1 rfl
  have b6 := boxc (k := 6) (u := .int .i64 0) q1 rfl
  have t1 := boxt q1
  clear q1
  have hW0 : Below w.heap.size w ((w.alloc (.cells K.toArray 108)).alloc (.cells #[.int .u8 0, .int .u64 0, .int .u64 0, .int .u64 0, .int .u64 0, .int .i64 0, .int .i64 0] 41)) := below_boxes2 _ _ _
  have hrf := Below.refl ((w.alloc (.cells K.toArray 108)).alloc (.cells #[.int .u8 0, .int .u64 0, .int .u64 0, .int .u64 0, .int .u64 0, .int .i64 0, .int .i64 0] 41)).heap.size ((w.alloc (.cells K.toArray 108)).alloc (.cells #[.int .u8 0, .int .u64 0, .int .u64 0, .int .u64 0, .int .u64 0, .int .i64 0, .int .i64 0] 41))
  clear hK
  go_enter Tryz.func96, Tryz.ntmps96
  go_upto_region 1 with fail
  generalize (w.alloc (.cells K.toArray 108)).alloc (.cells #[.int .u8 0, .int .u64 0, .int .u64 0, .int .u64 0, .int .u64 0, .int .i64 0, .int .i64 0] 41) = W at *
  have z0 := b0 _ hrf
  have z1 := b1 _ hrf
  have z2 := b2 _ hrf
  have z3 := b3 _ hrf
  have z4 := b4 _ hrf
  have z5 := b5 _ hrf
  have z6 := b6 _ hrf
  go_wp2_with fail
  refine bodyPost_ret (v := .agg #[.int .u8 r0, .int .u64 r1, .int .u64 r2, .int .u64 r3, .int .u64 r4, .int .i64 r5, .int .i64 r6]) (by simp [results, Tryz.results96, go_sem, *]) rfl ⟨rfl, ?_⟩
  (repeat (refine Below.setCell ?_ (by first | exact Nat.le_refl _ | exact Nat.le_succ _ | (simp; done) | (simp; omega)) _))
  exact hW0.trans (hrf.mono hW0.size)

set_option maxRecDepth 100000 in
set_option maxHeartbeats 4000000 in
theorem rsecond14_5 (x0 x1 x2 x3 : Int) (m0 m1 m2 m4 m5 : Value) (r0 r1 r2 r3 r4 r5 r6 : Int) (l : List Insn) (Ad : Option Addr) (c j : Nat) (K : List Value) (hK : K = [.slice Ad l.length c, .slice none 0 0, .int .i64 0, .int .i64 j, .int .u8 x0, .int .u8 x1, .int .u8 x2, .int .i16 x3, .int .i32 5, m0, m1, m2, .bool false, m4, m5] ++ SVl [.int .u8 r0, .int .u64 r1, .int .u64 r2, .int .u64 r3, .int .u64 r4, .int .i64 r5, .int .i64 r6]) (hKn : K.length = 604) (w : World) : Calls Tryz.prog 97 #[.agg K.toArray] w fun e w' => e = .returned (.agg #[.int .u8 1, .int .u64 5, .int .u64 0, .int .u64 5, .int .u64 5, .int .i64 0, .int .i64 0]) ∧ Below w.heap.size w w' := by
  have q0 : ((w.alloc (.cells K.toArray 108)).alloc (.cells #[.int .u8 0, .int .u64 0, .int .u64 0, .int .u64 0, .int .u64 0, .int .i64 0, .int .i64 0] 41)).heap[w.heap.size]? = some (.cells K.toArray 108) := heap2_0 _ _ _
  have k4 := boxc (k := 4) (u := .int .u8 x0) q0 (by rw [hK]; rfl)
  have k5 := boxc (k := 5) (u := .int .u8 x1) q0 (by rw [hK]; rfl)
  have k6 := boxc (k := 6) (u := .int .u8 x2) q0 (by rw [hK]; rfl)
  have k7 := boxc (k := 7) (u := .int .i16 x3) q0 (by rw [hK]; rfl)
  have k8 := boxc (k := 8) (u := .int .i32 5) q0 (by rw [hK]; rfl)
  have k12 := boxc (k := 12) (u := .bool false) q0 (by rw [hK]; rfl)
  clear q0
  have q1 : ((w.alloc (.cells K.toArray 108)).alloc (.cells #[.int .u8 0, .int .u64 0, .int .u64 0, .int .u64 0, .int .u64 0, .int .i64 0, .int .i64 0] 41)).heap[(w.heap.size + 1)]? = some (.cells #[.int .u8 0, .int .u64 0, .int .u64 0, .int .u64 0, .int .u64 0, .int .i64 0, .int .i64 0] 41) := heap2_1 _ _ _
  have b0 := boxc (k := 0) (u := .int .u8 0) q1 rfl
  have b1 := boxc (k := 1) (u := .int .u64 0) q1 rfl
  have b2 := boxc (k := 2) (u := .int .u64 0) q1 rfl
  have b3 := boxc (k := 3) (u := .int .u64 0) q1 rfl
  have b4 := boxc (k := 4) (u := .int .u64 0) q1 rfl
  have b5 := boxc (k := 5) (u := .int .i64 0) q1 rfl
  have b6 := boxc (k := 6) (u := .int .i64 0) q1 rfl
  have t1 := boxt q1
  clear q1
  have hW0 : Below w.heap.size w ((w.alloc (.cells K.toArray 108)).alloc (.cells #[.int .u8 0, .int .u64 0, .int .u64 0, .int .u64 0, .int .u64 0, .int .i64 0, .int .i64 0] 41)) := below_boxes2 _ _ _
  have hrf := Below.refl ((w.alloc (.cells K.toArray 108)).alloc (.cells #[.int .u8 0, .int .u64 0, .int .u64 0, .int .u64 0, .int .u64 0, .int .i64 0, .int .i64 0] 41)).heap.size ((w.alloc (.cells K.toArray 108)).alloc (.cells #[.int .u8 0, .int .u64 0, .int .u64 0, .int .u64 0, .int .u64 0, .int .i64 0, .int .i64 0] 41))
  clear hK
  go_enter Tryz.func97, Tryz.ntmps97
  go_upto_region 1 with fail
  generalize (w.alloc (.cells K.toArray 108)).alloc (.cells #[.int .u8 0, .int .u64 0, .int .u64 0, .int .u64 0, .int .u64 0, .int .i64 0, .int .i64 0] 41) = W at *
  go_wp2_with fail
  refine (rimm_5 x0 x1 x2 x3 _).mono ?_
  rintro e w1 ⟨rfl, hb1⟩
  go_wp2_with fail
  refine (rknown14 5 ⟨by decide, by decide⟩ _).mono ?_
  rintro e w2 ⟨rfl, hc2⟩
  have hb2 := hb1.trans (hc2.mono hb1.size)
  clear hc2
  have z0 := b0 _ hb2
  have z1 := b1 _ hb2
  have z2 := b2 _ hb2
  have z3 := b3 _ hb2
  have z4 := b4 _ hb2
  have z5 := b5 _ hb2
  have z6 := b6 _ hb2
  go_wp2_with fail
  refine bodyPost_ret (v := .agg #[.int .u8 1, .int .u64 5, .int .u64 0, .int .u64 5, .int .u64 5, .int .i64 0, .int .i64 0]) (by simp [results, Tryz.results97, go_sem, *]) rfl ⟨rfl, ?_⟩
  (repeat (refine Below.setCell ?_ (by first | exact Nat.le_refl _ | exact Nat.le_succ _ | (simp; done) | (simp; omega)) _))
  exact hW0.trans (hb2.mono hW0.size)

set_option maxRecDepth 100000 in
set_option maxHeartbeats 4000000 in
theorem rsecond14_2 (x0 x1 x2 x3 : Int) (m0 m1 m2 m4 m5 : Value) (r0 r1 r2 r3 r4 r5 r6 : Int) (l : List Insn) (Ad : Option Addr) (c j : Nat) (K : List Value) (hK : K = [.slice Ad l.length c, .slice none 0 0, .int .i64 0, .int .i64 j, .int .u8 x0, .int .u8 x1, .int .u8 x2, .int .i16 x3, .int .i32 2, m0, m1, m2, .bool false, m4, m5] ++ SVl [.int .u8 r0, .int .u64 r1, .int .u64 r2, .int .u64 r3, .int .u64 r4, .int .i64 r5, .int .i64 r6]) (hKn : K.length = 604) (w : World) : Calls Tryz.prog 97 #[.agg K.toArray] w fun e w' => e = .returned (.agg #[.int .u8 1, .int .u64 2, .int .u64 0, .int .u64 2, .int .u64 2, .int .i64 0, .int .i64 0]) ∧ Below w.heap.size w w' := by
  have q0 : ((w.alloc (.cells K.toArray 108)).alloc (.cells #[.int .u8 0, .int .u64 0, .int .u64 0, .int .u64 0, .int .u64 0, .int .i64 0, .int .i64 0] 41)).heap[w.heap.size]? = some (.cells K.toArray 108) := heap2_0 _ _ _
  have k4 := boxc (k := 4) (u := .int .u8 x0) q0 (by rw [hK]; rfl)
  have k5 := boxc (k := 5) (u := .int .u8 x1) q0 (by rw [hK]; rfl)
  have k6 := boxc (k := 6) (u := .int .u8 x2) q0 (by rw [hK]; rfl)
  have k7 := boxc (k := 7) (u := .int .i16 x3) q0 (by rw [hK]; rfl)
  have k8 := boxc (k := 8) (u := .int .i32 2) q0 (by rw [hK]; rfl)
  have k12 := boxc (k := 12) (u := .bool false) q0 (by rw [hK]; rfl)
  clear q0
  have q1 : ((w.alloc (.cells K.toArray 108)).alloc (.cells #[.int .u8 0, .int .u64 0, .int .u64 0, .int .u64 0, .int .u64 0, .int .i64 0, .int .i64 0] 41)).heap[(w.heap.size + 1)]? = some (.cells #[.int .u8 0, .int .u64 0, .int .u64 0, .int .u64 0, .int .u64 0, .int .i64 0, .int .i64 0] 41) := heap2_1 _ _ _
  have b0 := boxc (k := 0) (u := .int .u8 0) q1 rfl
  have b1 := boxc (k := 1) (u := .int .u64 0) q1 rfl
  have b2 := boxc (k := 2) (u := .int .u64 0) q1 rfl
  have b3 := boxc (k := 3) (u := .int .u64 0) q1 rfl
  have b4 := boxc (k := 4) (u := .int .u64 0) q1 rfl
  have b5 := boxc (k := 5) (u := .int .i64 0) q1 rfl
  have b6 := boxc (k := 6) (u := .int .i64 0) q1 rfl
  have t1 := boxt q1
  clear q1
  have hW0 : Below w.heap.size w ((w.alloc (.cells K.toArray 108)).alloc (.cells #[.int .u8 0, .int .u64 0, .int .u64 0, .int .u64 0, .int .u64 0, .int .i64 0, .int .i64 0] 41)) := below_boxes2 _ _ _
  have hrf := Below.refl ((w.alloc (.cells K.toArray 108)).alloc (.cells #[.int .u8 0, .int .u64 0, .int .u64 0, .int .u64 0, .int .u64 0, .int .i64 0, .int .i64 0] 41)).heap.size ((w.alloc (.cells K.toArray 108)).alloc (.cells #[.int .u8 0, .int .u64 0, .int .u64 0, .int .u64 0, .int .u64 0, .int .i64 0, .int .i64 0] 41))
  clear hK
  go_enter Tryz.func97, Tryz.ntmps97
  go_upto_region 1 with fail
  generalize (w.alloc (.cells K.toArray 108)).alloc (.cells #[.int .u8 0, .int .u64 0, .int .u64 0, .int .u64 0, .int .u64 0, .int .i64 0, .int .i64 0] 41) = W at *
  go_wp2_with fail
  refine (rimm_2 x0 x1 x2 x3 _).mono ?_
  rintro e w1 ⟨rfl, hb1⟩
  go_wp2_with fail
  refine (rknown14 2 ⟨by decide, by decide⟩ _).mono ?_
  rintro e w2 ⟨rfl, hc2⟩
  have hb2 := hb1.trans (hc2.mono hb1.size)
  clear hc2
  have z0 := b0 _ hb2
  have z1 := b1 _ hb2
  have z2 := b2 _ hb2
  have z3 := b3 _ hb2
  have z4 := b4 _ hb2
  have z5 := b5 _ hb2
  have z6 := b6 _ hb2
  go_wp2_with fail
  refine bodyPost_ret (v := .agg #[.int .u8 1, .int .u64 2, .int .u64 0, .int .u64 2, .int .u64 2, .int .i64 0, .int .i64 0]) (by simp [results, Tryz.results97, go_sem, *]) rfl ⟨rfl, ?_⟩
  (repeat (refine Below.setCell ?_ (by first | exact Nat.le_refl _ | exact Nat.le_succ _ | (simp; done) | (simp; omega)) _))
  exact hW0.trans (hb2.mono hW0.size)

theorem field41_0 (k : IntKind) (n : Int) (c1 c2 c3 c4 c5 c6 : Value) (w : World) : (Instr.field 41 (.agg #[.int k n, c1, c2, c3, c4, c5, c6]) 0).run Tryz.prog w = .ok (.int k n) w := by
  unfold Instr.field
  simp [Sem.run_bind, Tryz.runUnderlying41, asAgg, go_sem]
theorem field55_3 (c0 c1 c2 : Value) (A : Option Addr) (n c : Nat) (w : World) : (Instr.field 55 (.agg #[c0, c1, c2, .slice A n c]) 3).run Tryz.prog w = .ok (.slice A n c) w := by
  unfold Instr.field
  simp [Sem.run_bind, Tryz.runUnderlying55, asAgg, go_sem]
attribute [local go_sem ↓] ldFrom_589 ldFrom_604 mkS89_eq mkW94_eq mkW108_eq
set_option maxRecDepth 100000 in
set_option maxHeartbeats 4000000 in
theorem runset14_0 (l : List Insn) (Ad : Option Addr) (c j : Nat) (K : List Value) (hK : K = [.slice Ad l.length c, .slice none 0 0, .int .i64 0, .int .i64 j, .int .u8 183, .int .u8 0, .int .u8 0, .int .i16 0, .int .i32 5, .int .u8 1, .int .u8 176, .bool true, .bool false, .bool false, .int .i64 0] ++ SVl [.int .u8 0, .int .u64 0, .int .u64 0, .int .u64 0, .int .u64 0, .int .i64 0, .int .i64 0]) (hKn : K.length = 604) (w : World) : Calls Tryz.prog 73 #[.agg K.toArray] w fun e w' => e = .returned (.bool false) ∧ Below w.heap.size w w' := by
  have hfl := field41_0
  have hK0 := hK
  have hsec := fun w1 => rsecond14_5 183 0 0 0 (.int .u8 1) (.int .u8 176) (.bool true) (.bool false) (.int .i64 0) 0 0 0 0 0 0 0 l Ad c j K hK0 hKn w1
  clear hK0
  have q0 : (w.alloc (.cells K.toArray 108)).heap[w.heap.size]? = some (.cells K.toArray 108) := heap1_0 _ _
  have k0 := boxc (k := 0) (u := .slice Ad l.length c) q0 (by rw [hK]; rfl)
  have k1 := boxc (k := 1) (u := .slice none 0 0) q0 (by rw [hK]; rfl)
  have k2 := boxc (k := 2) (u := .int .i64 0) q0 (by rw [hK]; rfl)
  have k3 := boxc (k := 3) (u := .int .i64 j) q0 (by rw [hK]; rfl)
  have k4 := boxc (k := 4) (u := .int .u8 183) q0 (by rw [hK]; rfl)
  have k5 := boxc (k := 5) (u := .int .u8 0) q0 (by rw [hK]; rfl)
  have k6 := boxc (k := 6) (u := .int .u8 0) q0 (by rw [hK]; rfl)
  have k7 := boxc (k := 7) (u := .int .i16 0) q0 (by rw [hK]; rfl)
  have k8 := boxc (k := 8) (u := .int .i32 5) q0 (by rw [hK]; rfl)
  have k9 := boxc (k := 9) (u := .int .u8 1) q0 (by rw [hK]; rfl)
  have k10 := boxc (k := 10) (u := .int .u8 176) q0 (by rw [hK]; rfl)
  have k11 := boxc (k := 11) (u := .bool true) q0 (by rw [hK]; rfl)
  have k12 := boxc (k := 12) (u := .bool false) q0 (by rw [hK]; rfl)
  have k13 := boxc (k := 13) (u := .bool false) q0 (by rw [hK]; rfl)
  have k14 := boxc (k := 14) (u := .int .i64 0) q0 (by rw [hK]; rfl)
  have k15 := boxc (k := 15) (u := .int .u8 0) q0 (by rw [hK]; rfl)
  have k16 := boxc (k := 16) (u := .int .u64 0) q0 (by rw [hK]; rfl)
  have k17 := boxc (k := 17) (u := .int .u64 0) q0 (by rw [hK]; rfl)
  have k18 := boxc (k := 18) (u := .int .u64 0) q0 (by rw [hK]; rfl)
  have k19 := boxc (k := 19) (u := .int .u64 0) q0 (by rw [hK]; rfl)
  have k20 := boxc (k := 20) (u := .int .i64 0) q0 (by rw [hK]; rfl)
  have k21 := boxc (k := 21) (u := .int .i64 0) q0 (by rw [hK]; rfl)
  have hRK : ∀ w', Below (w.alloc (.cells K.toArray 108)).heap.size (w.alloc (.cells K.toArray 108)) w' → w'.rangeAt w.heap.size 0 K := fun w' h k u hu => by rw [Nat.zero_add]; exact boxc q0 (by simpa using hu) w' h
  clear q0
  have hW0 : Below w.heap.size w (w.alloc (.cells K.toArray 108)) := below_boxes1 _ _
  have hrf := Below.refl (w.alloc (.cells K.toArray 108)).heap.size (w.alloc (.cells K.toArray 108))
  clear hK
  go_enter Tryz.func73, Tryz.ntmps73
  go_upto_region 1 with fail
  generalize w.alloc (.cells K.toArray 108) = W at *
  have hlK : ∀ w', Below W.heap.size W w' → (ldRow ⟨w.heap.size, 0, none⟩ 604).run Tryz.prog w' = .ok K.toArray w' := fun w' h => run_ldRow (hRK w' h) hKn
  have HL := hlK _ hrf
  go_wp2_with fail
  refine (hsec _).mono ?_
  rintro e w1 ⟨rfl, hc1⟩
  have hb1 : Below W.heap.size W w1 := hc1
  clear hc1
  go_wp2_with fail
  go_ret
  exact ⟨rfl, hW0.trans (hb1.mono hW0.size)⟩

set_option maxRecDepth 100000 in
set_option maxHeartbeats 4000000 in
theorem runset14_1 (l : List Insn) (Ad : Option Addr) (c j : Nat) (K : List Value) (hK : K = [.slice Ad l.length c, .slice none 0 0, .int .i64 0, .int .i64 j, .int .u8 7, .int .u8 0, .int .u8 0, .int .i16 0, .int .i32 2, .int .u8 1, .int .u8 0, .bool true, .bool false, .bool false, .int .i64 0] ++ SVl [.int .u8 1, .int .u64 5, .int .u64 0, .int .u64 5, .int .u64 5, .int .i64 0, .int .i64 0]) (hKn : K.length = 604) (w : World) : Calls Tryz.prog 73 #[.agg K.toArray] w fun e w' => e = .returned (.bool false) ∧ Below w.heap.size w w' := by
  have hfl := field41_0
  have hK0 := hK
  have hdst := fun w1 => rdst14 7 (.int .u8 0) (.int .i16 0) (.int .i32 2) (.int .u8 1) (.int .u8 0) (.bool true) (.bool false) (.bool false) (.int .i64 0) 1 5 0 5 5 0 0 l Ad c j K hK0 hKn w1
  have hsec := fun w1 => rsecond14_2 7 0 0 0 (.int .u8 1) (.int .u8 0) (.bool true) (.bool false) (.int .i64 0) 1 5 0 5 5 0 0 l Ad c j K hK0 hKn w1
  clear hK0
  have q0 : (w.alloc (.cells K.toArray 108)).heap[w.heap.size]? = some (.cells K.toArray 108) := heap1_0 _ _
  have k0 := boxc (k := 0) (u := .slice Ad l.length c) q0 (by rw [hK]; rfl)
  have k1 := boxc (k := 1) (u := .slice none 0 0) q0 (by rw [hK]; rfl)
  have k2 := boxc (k := 2) (u := .int .i64 0) q0 (by rw [hK]; rfl)
  have k3 := boxc (k := 3) (u := .int .i64 j) q0 (by rw [hK]; rfl)
  have k4 := boxc (k := 4) (u := .int .u8 7) q0 (by rw [hK]; rfl)
  have k5 := boxc (k := 5) (u := .int .u8 0) q0 (by rw [hK]; rfl)
  have k6 := boxc (k := 6) (u := .int .u8 0) q0 (by rw [hK]; rfl)
  have k7 := boxc (k := 7) (u := .int .i16 0) q0 (by rw [hK]; rfl)
  have k8 := boxc (k := 8) (u := .int .i32 2) q0 (by rw [hK]; rfl)
  have k9 := boxc (k := 9) (u := .int .u8 1) q0 (by rw [hK]; rfl)
  have k10 := boxc (k := 10) (u := .int .u8 0) q0 (by rw [hK]; rfl)
  have k11 := boxc (k := 11) (u := .bool true) q0 (by rw [hK]; rfl)
  have k12 := boxc (k := 12) (u := .bool false) q0 (by rw [hK]; rfl)
  have k13 := boxc (k := 13) (u := .bool false) q0 (by rw [hK]; rfl)
  have k14 := boxc (k := 14) (u := .int .i64 0) q0 (by rw [hK]; rfl)
  have k15 := boxc (k := 15) (u := .int .u8 1) q0 (by rw [hK]; rfl)
  have k16 := boxc (k := 16) (u := .int .u64 5) q0 (by rw [hK]; rfl)
  have k17 := boxc (k := 17) (u := .int .u64 0) q0 (by rw [hK]; rfl)
  have k18 := boxc (k := 18) (u := .int .u64 5) q0 (by rw [hK]; rfl)
  have k19 := boxc (k := 19) (u := .int .u64 5) q0 (by rw [hK]; rfl)
  have k20 := boxc (k := 20) (u := .int .i64 0) q0 (by rw [hK]; rfl)
  have k21 := boxc (k := 21) (u := .int .i64 0) q0 (by rw [hK]; rfl)
  have hRK : ∀ w', Below (w.alloc (.cells K.toArray 108)).heap.size (w.alloc (.cells K.toArray 108)) w' → w'.rangeAt w.heap.size 0 K := fun w' h k u hu => by rw [Nat.zero_add]; exact boxc q0 (by simpa using hu) w' h
  clear q0
  have hW0 : Below w.heap.size w (w.alloc (.cells K.toArray 108)) := below_boxes1 _ _
  have hrf := Below.refl (w.alloc (.cells K.toArray 108)).heap.size (w.alloc (.cells K.toArray 108))
  clear hK
  go_enter Tryz.func73, Tryz.ntmps73
  go_upto_region 1 with fail
  generalize w.alloc (.cells K.toArray 108) = W at *
  have hlK : ∀ w', Below W.heap.size W w' → (ldRow ⟨w.heap.size, 0, none⟩ 604).run Tryz.prog w' = .ok K.toArray w' := fun w' h => run_ldRow (hRK w' h) hKn
  have HL := hlK _ hrf
  go_wp2_with fail
  refine (hdst _).mono ?_
  rintro e w1 ⟨rfl, hc1⟩
  have hb1 : Below W.heap.size W w1 := hc1
  clear hc1
  have HL1 := hlK _ hb1
  go_wp2_with fail
  refine (hsec _).mono ?_
  rintro e w2 ⟨rfl, hc2⟩
  have hb2 := hb1.trans (hc2.mono hb1.size)
  clear hc2
  go_wp2_with fail
  go_ret
  exact ⟨rfl, hW0.trans (hb2.mono hW0.size)⟩

set_option maxRecDepth 100000 in
set_option maxHeartbeats 4000000 in
theorem runset14_2 (l : List Insn) (Ad : Option Addr) (c j : Nat) (K : List Value) (hK : K = [.slice Ad l.length c, .slice none 0 0, .int .i64 0, .int .i64 j, .int .u8 149, .int .u8 0, .int .u8 0, .int .i16 0, .int .i32 0, .int .u8 12, .int .u8 0, .bool false, .bool false, .bool false, .int .i64 0] ++ SVl [.int .u8 1, .int .u64 7, .int .u64 0, .int .u64 7, .int .u64 7, .int .i64 0, .int .i64 0]) (hKn : K.length = 604) (w : World) : Calls Tryz.prog 73 #[.agg K.toArray] w fun e w' => e = .returned (.bool false) ∧ Below w.heap.size w w' := by
  have hfl := field41_0
  have hK0 := hK
  clear hK0
  have q0 : (w.alloc (.cells K.toArray 108)).heap[w.heap.size]? = some (.cells K.toArray 108) := heap1_0 _ _
  have k0 := boxc (k := 0) (u := .slice Ad l.length c) q0 (by rw [hK]; rfl)
  have k1 := boxc (k := 1) (u := .slice none 0 0) q0 (by rw [hK]; rfl)
  have k2 := boxc (k := 2) (u := .int .i64 0) q0 (by rw [hK]; rfl)
  have k3 := boxc (k := 3) (u := .int .i64 j) q0 (by rw [hK]; rfl)
  have k4 := boxc (k := 4) (u := .int .u8 149) q0 (by rw [hK]; rfl)
  have k5 := boxc (k := 5) (u := .int .u8 0) q0 (by rw [hK]; rfl)
  have k6 := boxc (k := 6) (u := .int .u8 0) q0 (by rw [hK]; rfl)
  have k7 := boxc (k := 7) (u := .int .i16 0) q0 (by rw [hK]; rfl)
  have k8 := boxc (k := 8) (u := .int .i32 0) q0 (by rw [hK]; rfl)
  have k9 := boxc (k := 9) (u := .int .u8 12) q0 (by rw [hK]; rfl)
  have k10 := boxc (k := 10) (u := .int .u8 0) q0 (by rw [hK]; rfl)
  have k11 := boxc (k := 11) (u := .bool false) q0 (by rw [hK]; rfl)
  have k12 := boxc (k := 12) (u := .bool false) q0 (by rw [hK]; rfl)
  have k13 := boxc (k := 13) (u := .bool false) q0 (by rw [hK]; rfl)
  have k14 := boxc (k := 14) (u := .int .i64 0) q0 (by rw [hK]; rfl)
  have k15 := boxc (k := 15) (u := .int .u8 1) q0 (by rw [hK]; rfl)
  have k16 := boxc (k := 16) (u := .int .u64 7) q0 (by rw [hK]; rfl)
  have k17 := boxc (k := 17) (u := .int .u64 0) q0 (by rw [hK]; rfl)
  have k18 := boxc (k := 18) (u := .int .u64 7) q0 (by rw [hK]; rfl)
  have k19 := boxc (k := 19) (u := .int .u64 7) q0 (by rw [hK]; rfl)
  have k20 := boxc (k := 20) (u := .int .i64 0) q0 (by rw [hK]; rfl)
  have k21 := boxc (k := 21) (u := .int .i64 0) q0 (by rw [hK]; rfl)
  have hRK : ∀ w', Below (w.alloc (.cells K.toArray 108)).heap.size (w.alloc (.cells K.toArray 108)) w' → w'.rangeAt w.heap.size 0 K := fun w' h k u hu => by rw [Nat.zero_add]; exact boxc q0 (by simpa using hu) w' h
  clear q0
  have hW0 : Below w.heap.size w (w.alloc (.cells K.toArray 108)) := below_boxes1 _ _
  have hrf := Below.refl (w.alloc (.cells K.toArray 108)).heap.size (w.alloc (.cells K.toArray 108))
  clear hK
  go_enter Tryz.func73, Tryz.ntmps73
  go_upto_region 1 with fail
  generalize w.alloc (.cells K.toArray 108) = W at *
  have hlK : ∀ w', Below W.heap.size W w' → (ldRow ⟨w.heap.size, 0, none⟩ 604).run Tryz.prog w' = .ok K.toArray w' := fun w' h => run_ldRow (hRK w' h) hKn
  go_wp2_with fail
  go_ret
  exact ⟨rfl, hW0.trans (hrf.mono hW0.size)⟩

end Go.Proofs.YtbfgffmebniooaaGreat
end

section
/- The arithmetic of a walk of the closed run, and what it becomes. No statement is proved here. -/
namespace Go.Proofs.YtbfgffmebniooaaGreat
open Go.RowKit
set_option linter.unusedSimpArgs false
set_option linter.unusedVariables false
set_option linter.unnecessarySimpa false
attribute [local go_sem ↓] ldFrom_589 ldFrom_604 mkS89_eq mkW94_eq mkW108_eq
theorem range_put {W : World} {b : Nat} {A B C vs : List Value} (h : W.rangeAt b 0 (A ++ (B ++ C))) (hl : vs.length = B.length) : (W.setCells b A.length vs).rangeAt b 0 (A ++ (vs ++ C)) := by
  intro k u hu
  rw [Nat.zero_add]
  by_cases h1 : k < A.length
  · rw [List.getElem?_append_left h1] at hu
    rw [World.cell?_setCells_out b vs _ W _ (fun _ _ => .inl h1)]
    have := h k u (by rw [List.getElem?_append_left h1]; exact hu)
    rwa [Nat.zero_add] at this
  · rw [List.getElem?_append_right (by omega)] at hu
    by_cases h2 : k - A.length < vs.length
    · rw [List.getElem?_append_left h2] at hu
      have := World.cell?_setCells_in b vs A.length W (fun i hi => by
        have hg : (A ++ (B ++ C))[A.length + i]? = some (B[i]'(by omega)) := by
          rw [List.getElem?_append_right (by omega), show A.length + i - A.length = i by omega, List.getElem?_append_left (by omega), List.getElem?_eq_getElem]
        have := h _ _ hg
        rw [Nat.zero_add] at this
        rw [this]; rfl) (k - A.length) h2
      rw [show A.length + (k - A.length) = k by omega] at this
      rw [this, ← hu, List.getElem?_eq_getElem h2]
    · rw [List.getElem?_append_right (by omega)] at hu
      rw [World.cell?_setCells_out b vs _ W _ (fun _ _ => .inr (by show A.length + vs.length ≤ k; omega))]
      have := h k u (by rw [List.getElem?_append_right (by omega), List.getElem?_append_right (by omega), ← hl]; exact hu)
      rwa [Nat.zero_add] at this
theorem range_drop {W : World} {b : Nat} {A S : List Value} (h : W.rangeAt b 0 (A ++ S)) : W.rangeAt b A.length S := fun k u hu => by
  have := h (A.length + k) u (by rw [List.getElem?_append_right (by omega), show A.length + k - A.length = k by omega]; exact hu)
  rwa [Nat.zero_add] at this

set_option maxRecDepth 100000 in
set_option maxHeartbeats 4000000 in
theorem rbecomes14 (n x0 : Int) (x2 x3 x4 m0 m1 m2 m3 m4 m5 : Value) (r0 r1 r2 r3 r4 r5 r6 : Int) (l : List Insn) (Ad : Option Addr) (c j : Nat) (K : List Value) (hK : K = [.slice Ad l.length c, .slice none 0 0, .int .i64 0, .int .i64 j, .int .u8 x0, .int .u8 0, x2, x3, x4, m0, m1, m2, m3, m4, m5] ++ SVl [.int .u8 r0, .int .u64 r1, .int .u64 r2, .int .u64 r3, .int .u64 r4, .int .i64 r5, .int .i64 r6]) (hKn : K.length = 604) (hn : l.length ≤ 100000) (hj : j < l.length) (w : World) (hat : SAt w w.heap.size 5 Ad l.length (insnsV l)) :
    Calls Tryz.prog 74 #[.agg K.toArray, .agg #[.int .u8 1, .int .u64 n, .int .u64 0, .int .u64 n, .int .u64 n, .int .i64 0, .int .i64 0], .int .i64 0] w fun e w' => ∃ b, e = .returned (.tuple #[.slice (some ⟨b, 0, none⟩) 1 1, .int .i64 0]) ∧ w.heap.size ≤ b ∧ w'.rangeAt b 0 (.int .i64 (stepN l j : Nat) :: SVl [.int .u8 1, .int .u64 n, .int .u64 0, .int .u64 n, .int .u64 n, .int .i64 0, .int .i64 0]) ∧ Below w.heap.size w w' := by
  have hK0 := Lib.hid hK
  have hpl : (SVl [.int .u8 1, .int .u64 n, .int .u64 0, .int .u64 n, .int .u64 n, .int .i64 0, .int .i64 0]).length = 589 := SVl_len rfl
  have hon := fun (w' : World) (hb : Below w.heap.size w w') => ron14 l Ad c j hn hj ([.slice Ad l.length c, .slice none 0 0, .int .i64 0, .int .i64 j, .int .u8 x0, .int .u8 0, x2, x3, x4, m0, m1, m2, m3, m4, m5] ++ SVl [.int .u8 1, .int .u64 n, .int .u64 0, .int .u64 n, .int .u64 n, .int .i64 0, .int .i64 0]) (SVl [.int .u8 1, .int .u64 n, .int .u64 0, .int .u64 n, .int .u64 n, .int .i64 0, .int .i64 0]) rfl rfl (SVl_len rfl) w' ((hat.below hb).more hb.size)
  have q0 : ((w.alloc (.cells K.toArray 108)).alloc (.cells #[.int .u8 1, .int .u64 n, .int .u64 0, .int .u64 n, .int .u64 n, .int .i64 0, .int .i64 0] 41)).heap[w.heap.size]? = some (.cells K.toArray 108) := heap2_0 _ _ _
  have k5 := boxc (k := 5) (u := .int .u8 0) q0 (by rw [hK]; rfl)
  have k15 := boxc (k := 15) (u := .int .u8 r0) q0 (by rw [hK]; rfl)
  have k16 := boxc (k := 16) (u := .int .u64 r1) q0 (by rw [hK]; rfl)
  have k17 := boxc (k := 17) (u := .int .u64 r2) q0 (by rw [hK]; rfl)
  have k18 := boxc (k := 18) (u := .int .u64 r3) q0 (by rw [hK]; rfl)
  have k19 := boxc (k := 19) (u := .int .u64 r4) q0 (by rw [hK]; rfl)
  have k20 := boxc (k := 20) (u := .int .i64 r5) q0 (by rw [hK]; rfl)
  have k21 := boxc (k := 21) (u := .int .i64 r6) q0 (by rw [hK]; rfl)
  have hRK : ∀ w', Below ((w.alloc (.cells K.toArray 108)).alloc (.cells #[.int .u8 1, .int .u64 n, .int .u64 0, .int .u64 n, .int .u64 n, .int .i64 0, .int .i64 0] 41)).heap.size ((w.alloc (.cells K.toArray 108)).alloc (.cells #[.int .u8 1, .int .u64 n, .int .u64 0, .int .u64 n, .int .u64 n, .int .i64 0, .int .i64 0] 41)) w' → w'.rangeAt w.heap.size 0 K := fun w' h k u hu => by rw [Nat.zero_add]; exact boxc q0 (by simpa using hu) w' h
  have tK := boxt q0
  clear q0
  have q1 : ((w.alloc (.cells K.toArray 108)).alloc (.cells #[.int .u8 1, .int .u64 n, .int .u64 0, .int .u64 n, .int .u64 n, .int .i64 0, .int .i64 0] 41)).heap[(w.heap.size + 1)]? = some (.cells #[.int .u8 1, .int .u64 n, .int .u64 0, .int .u64 n, .int .u64 n, .int .i64 0, .int .i64 0] 41) := heap2_1 _ _ _
  have b0 := boxc (k := 0) (u := .int .u8 1) q1 rfl
  have b1 := boxc (k := 1) (u := .int .u64 n) q1 rfl
  have b2 := boxc (k := 2) (u := .int .u64 0) q1 rfl
  have b3 := boxc (k := 3) (u := .int .u64 n) q1 rfl
  have b4 := boxc (k := 4) (u := .int .u64 n) q1 rfl
  have b5 := boxc (k := 5) (u := .int .i64 0) q1 rfl
  have b6 := boxc (k := 6) (u := .int .i64 0) q1 rfl
  clear q1
  have hW0 : Below w.heap.size w ((w.alloc (.cells K.toArray 108)).alloc (.cells #[.int .u8 1, .int .u64 n, .int .u64 0, .int .u64 n, .int .u64 n, .int .i64 0, .int .i64 0] 41)) := below_boxes2 _ _ _
  have hrf := Below.refl ((w.alloc (.cells K.toArray 108)).alloc (.cells #[.int .u8 1, .int .u64 n, .int .u64 0, .int .u64 n, .int .u64 n, .int .i64 0, .int .i64 0] 41)).heap.size ((w.alloc (.cells K.toArray 108)).alloc (.cells #[.int .u8 1, .int .u64 n, .int .u64 0, .int .u64 n, .int .u64 n, .int .i64 0, .int .i64 0] 41))
  clear hK
  go_enter Tryz.func74, Tryz.ntmps74
  go_upto_region 1 with fail
  generalize (w.alloc (.cells K.toArray 108)).alloc (.cells #[.int .u8 1, .int .u64 n, .int .u64 0, .int .u64 n, .int .u64 n, .int .i64 0, .int .i64 0] 41) = W at *
  have hlK : ∀ w', Below W.heap.size W w' → (ldRow ⟨w.heap.size, 0, none⟩ 604).run Tryz.prog w' = .ok K.toArray w' := fun w' h => run_ldRow (hRK w' h) hKn
  rw [hK0.out] at hRK
  have HR := Lib.hid (hRK _ hrf)
  clear hRK hlK
  have z0 := k15 _ hrf
  have z1 := k16 _ hrf
  have z2 := k17 _ hrf
  have z3 := k18 _ hrf
  have z4 := k19 _ hrf
  have z5 := k20 _ hrf
  have z6 := k21 _ hrf
  go_upto_region 4 with fail
  have hV : Below w.heap.size w ((((((((W).setCell ⟨w.heap.size, 15, none⟩ (.int .u8 1)).setCell ⟨w.heap.size, 16, none⟩ (.int .u64 n)).setCell ⟨w.heap.size, 17, none⟩ (.int .u64 0)).setCell ⟨w.heap.size, 18, none⟩ (.int .u64 n)).setCell ⟨w.heap.size, 19, none⟩ (.int .u64 n)).setCell ⟨w.heap.size, 20, none⟩ (.int .i64 0)).setCell ⟨w.heap.size, 21, none⟩ (.int .i64 0)) := below_setCells w.heap.size (Nat.le_refl _) [.int .u8 1, .int .u64 n, .int .u64 0, .int .u64 n, .int .u64 n, .int .i64 0, .int .i64 0] 15 hW0
  have hR : World.rangeAt ((((((((W).setCell ⟨w.heap.size, 15, none⟩ (.int .u8 1)).setCell ⟨w.heap.size, 16, none⟩ (.int .u64 n)).setCell ⟨w.heap.size, 17, none⟩ (.int .u64 0)).setCell ⟨w.heap.size, 18, none⟩ (.int .u64 n)).setCell ⟨w.heap.size, 19, none⟩ (.int .u64 n)).setCell ⟨w.heap.size, 20, none⟩ (.int .i64 0)).setCell ⟨w.heap.size, 21, none⟩ (.int .i64 0)) w.heap.size 0 ([.slice Ad l.length c, .slice none 0 0, .int .i64 0, .int .i64 j, .int .u8 x0, .int .u8 0, x2, x3, x4, m0, m1, m2, m3, m4, m5] ++ SVl [.int .u8 1, .int .u64 n, .int .u64 0, .int .u64 n, .int .u64 n, .int .i64 0, .int .i64 0]) := range_put (A := [.slice Ad l.length c, .slice none 0 0, .int .i64 0, .int .i64 j, .int .u8 x0, .int .u8 0, x2, x3, x4, m0, m1, m2, m3, m4, m5]) (B := [.int .u8 r0, .int .u64 r1, .int .u64 r2, .int .u64 r3, .int .u64 r4, .int .i64 r5, .int .i64 r6]) (C := restS) (vs := [.int .u8 1, .int .u64 n, .int .u64 0, .int .u64 n, .int .u64 n, .int .i64 0, .int .i64 0]) HR.out rfl
  have hS : World.rangeAt ((((((((W).setCell ⟨w.heap.size, 15, none⟩ (.int .u8 1)).setCell ⟨w.heap.size, 16, none⟩ (.int .u64 n)).setCell ⟨w.heap.size, 17, none⟩ (.int .u64 0)).setCell ⟨w.heap.size, 18, none⟩ (.int .u64 n)).setCell ⟨w.heap.size, 19, none⟩ (.int .u64 n)).setCell ⟨w.heap.size, 20, none⟩ (.int .i64 0)).setCell ⟨w.heap.size, 21, none⟩ (.int .i64 0)) w.heap.size 15 (SVl [.int .u8 1, .int .u64 n, .int .u64 0, .int .u64 n, .int .u64 n, .int .i64 0, .int .i64 0]) := range_drop (A := [.slice Ad l.length c, .slice none 0 0, .int .i64 0, .int .i64 j, .int .u8 x0, .int .u8 0, x2, x3, x4, m0, m1, m2, m3, m4, m5]) hR
  generalize (((((((W).setCell ⟨w.heap.size, 15, none⟩ (.int .u8 1)).setCell ⟨w.heap.size, 16, none⟩ (.int .u64 n)).setCell ⟨w.heap.size, 17, none⟩ (.int .u64 0)).setCell ⟨w.heap.size, 18, none⟩ (.int .u64 n)).setCell ⟨w.heap.size, 19, none⟩ (.int .u64 n)).setCell ⟨w.heap.size, 20, none⟩ (.int .i64 0)).setCell ⟨w.heap.size, 21, none⟩ (.int .i64 0) = V at *
  have hl1 := run_ldRow (P := Tryz.prog) (n := 604) hR (by rw [List.length_append, hpl]; rfl)
  have hl2 := run_ldRow (P := Tryz.prog) (n := 589) hS hpl
  have hon1 := hon _ hV
  generalize hK2 : [.slice Ad l.length c, .slice none 0 0, .int .i64 0, .int .i64 j, .int .u8 x0, .int .u8 0, x2, x3, x4, m0, m1, m2, m3, m4, m5] ++ SVl [.int .u8 1, .int .u64 n, .int .u64 0, .int .u64 n, .int .u64 n, .int .i64 0, .int .i64 0] = K2 at *
  generalize hS2 : SVl [.int .u8 1, .int .u64 n, .int .u64 0, .int .u64 n, .int .u64 n, .int .i64 0, .int .i64 0] = S2 at *
  clear hR hS hK2 hon HR hK0
  go_wp2_with fail
  refine hon1.mono ?_
  rintro e w1 ⟨b, rfl, hb0, hb1, hb2⟩
  go_wp2_with fail
  go_ret2
  exact ⟨b, rfl, Nat.le_trans hV.size hb0, by rw [hS2]; exact hb1, hV.trans (hb2.mono hV.size)⟩

attribute [local go_sem ↓] ldFrom_589 ldFrom_604 mkS89_eq mkW94_eq mkW108_eq
set_option maxRecDepth 100000 in
set_option maxHeartbeats 4000000 in
theorem rarith14_0 (l : List Insn) (Ad : Option Addr) (c j : Nat) (K : List Value) (hK : K = [.slice Ad l.length c, .slice none 0 0, .int .i64 0, .int .i64 j, .int .u8 183, .int .u8 0, .int .u8 0, .int .i16 0, .int .i32 5, .int .u8 1, .int .u8 176, .bool true, .bool false, .bool false, .int .i64 0] ++ SVl [.int .u8 0, .int .u64 0, .int .u64 0, .int .u64 0, .int .u64 0, .int .i64 0, .int .i64 0]) (hKn : K.length = 604) (w : World) : Calls Tryz.prog 75 #[.agg K.toArray] w fun e w' => e = .returned (.tuple #[.agg #[.int .u8 1, .int .u64 5, .int .u64 0, .int .u64 5, .int .u64 5, .int .i64 0, .int .i64 0], .int .i64 0]) ∧ Below w.heap.size w w' := by
  have HK0 := Lib.hid hK
  have hdst := fun w1 => rdst14 183 (.int .u8 0) (.int .i16 0) (.int .i32 5) (.int .u8 1) (.int .u8 176) (.bool true) (.bool false) (.bool false) (.int .i64 0) 0 0 0 0 0 0 0 l Ad c j K hK hKn w1
  have hsec := fun w1 => rsecond14_5 183 0 0 0 (.int .u8 1) (.int .u8 176) (.bool true) (.bool false) (.int .i64 0) 0 0 0 0 0 0 0 l Ad c j K hK hKn w1
  clear HK0
  have q0 : ((w.alloc (.cells K.toArray 108)).alloc (.cells #[.int .u8 0, .int .u64 0, .int .u64 0, .int .u64 0, .int .u64 0, .int .i64 0, .int .i64 0] 41)).heap[w.heap.size]? = some (.cells K.toArray 108) := heap2_0 _ _ _
  have k7 := boxc (k := 7) (u := .int .i16 0) q0 (by rw [hK]; rfl)
  have k8 := boxc (k := 8) (u := .int .i32 5) q0 (by rw [hK]; rfl)
  have k9 := boxc (k := 9) (u := .int .u8 1) q0 (by rw [hK]; rfl)
  have k10 := boxc (k := 10) (u := .int .u8 176) q0 (by rw [hK]; rfl)
  have k11 := boxc (k := 11) (u := .bool true) q0 (by rw [hK]; rfl)
  have hRK : ∀ w', Below ((w.alloc (.cells K.toArray 108)).alloc (.cells #[.int .u8 0, .int .u64 0, .int .u64 0, .int .u64 0, .int .u64 0, .int .i64 0, .int .i64 0] 41)).heap.size ((w.alloc (.cells K.toArray 108)).alloc (.cells #[.int .u8 0, .int .u64 0, .int .u64 0, .int .u64 0, .int .u64 0, .int .i64 0, .int .i64 0] 41)) w' → w'.rangeAt w.heap.size 0 K := fun w' h k u hu => by rw [Nat.zero_add]; exact boxc q0 (by simpa using hu) w' h
  clear q0
  have q1 : ((w.alloc (.cells K.toArray 108)).alloc (.cells #[.int .u8 0, .int .u64 0, .int .u64 0, .int .u64 0, .int .u64 0, .int .i64 0, .int .i64 0] 41)).heap[(w.heap.size + 1)]? = some (.cells #[.int .u8 0, .int .u64 0, .int .u64 0, .int .u64 0, .int .u64 0, .int .i64 0, .int .i64 0] 41) := heap2_1 _ _ _
  have b0 := boxc (k := 0) (u := .int .u8 0) q1 rfl
  have b1 := boxc (k := 1) (u := .int .u64 0) q1 rfl
  have b2 := boxc (k := 2) (u := .int .u64 0) q1 rfl
  have b3 := boxc (k := 3) (u := .int .u64 0) q1 rfl
  have b4 := boxc (k := 4) (u := .int .u64 0) q1 rfl
  have b5 := boxc (k := 5) (u := .int .i64 0) q1 rfl
  have b6 := boxc (k := 6) (u := .int .i64 0) q1 rfl
  have t1 := boxt q1
  clear q1
  have hW0 : Below w.heap.size w ((w.alloc (.cells K.toArray 108)).alloc (.cells #[.int .u8 0, .int .u64 0, .int .u64 0, .int .u64 0, .int .u64 0, .int .i64 0, .int .i64 0] 41)) := below_boxes2 _ _ _
  have hrf := Below.refl ((w.alloc (.cells K.toArray 108)).alloc (.cells #[.int .u8 0, .int .u64 0, .int .u64 0, .int .u64 0, .int .u64 0, .int .i64 0, .int .i64 0] 41)).heap.size ((w.alloc (.cells K.toArray 108)).alloc (.cells #[.int .u8 0, .int .u64 0, .int .u64 0, .int .u64 0, .int .u64 0, .int .i64 0, .int .i64 0] 41))
  clear hK
  go_enter Tryz.func75, Tryz.ntmps75
  go_upto_region 1 with fail
  generalize (w.alloc (.cells K.toArray 108)).alloc (.cells #[.int .u8 0, .int .u64 0, .int .u64 0, .int .u64 0, .int .u64 0, .int .i64 0, .int .i64 0] 41) = W at *
  have hlK : ∀ w', Below W.heap.size W w' → (ldRow ⟨w.heap.size, 0, none⟩ 604).run Tryz.prog w' = .ok K.toArray w' := fun w' h => run_ldRow (hRK w' h) hKn
  have HL := hlK _ hrf
  go_wp2_with fail
  refine (hdst _).mono ?_
  rintro e w1 ⟨rfl, hc1⟩
  have hb1 : Below W.heap.size W w1 := hc1
  clear hc1
  go_upto_region 2 with fail
  have hb2 : Below W.heap.size W (w1.alloc (.cells #[.int .u8 0, .int .u64 0, .int .u64 0, .int .u64 0, .int .u64 0, .int .i64 0, .int .i64 0] 41)) := hb1.alloc hb1.size _
  have A0 : ∀ w', Below (w1.alloc (.cells #[.int .u8 0, .int .u64 0, .int .u64 0, .int .u64 0, .int .u64 0, .int .i64 0, .int .i64 0] 41)).heap.size (w1.alloc (.cells #[.int .u8 0, .int .u64 0, .int .u64 0, .int .u64 0, .int .u64 0, .int .i64 0, .int .i64 0] 41)) w' → w'.cell? ⟨w1.heap.size, 0, none⟩ = some (.int .u8 0) := boxc (heap1_0 w1 _) rfl
  have A1 : ∀ w', Below (w1.alloc (.cells #[.int .u8 0, .int .u64 0, .int .u64 0, .int .u64 0, .int .u64 0, .int .i64 0, .int .i64 0] 41)).heap.size (w1.alloc (.cells #[.int .u8 0, .int .u64 0, .int .u64 0, .int .u64 0, .int .u64 0, .int .i64 0, .int .i64 0] 41)) w' → w'.cell? ⟨w1.heap.size, 1, none⟩ = some (.int .u64 0) := boxc (heap1_0 w1 _) rfl
  have A2 : ∀ w', Below (w1.alloc (.cells #[.int .u8 0, .int .u64 0, .int .u64 0, .int .u64 0, .int .u64 0, .int .i64 0, .int .i64 0] 41)).heap.size (w1.alloc (.cells #[.int .u8 0, .int .u64 0, .int .u64 0, .int .u64 0, .int .u64 0, .int .i64 0, .int .i64 0] 41)) w' → w'.cell? ⟨w1.heap.size, 2, none⟩ = some (.int .u64 0) := boxc (heap1_0 w1 _) rfl
  have A3 : ∀ w', Below (w1.alloc (.cells #[.int .u8 0, .int .u64 0, .int .u64 0, .int .u64 0, .int .u64 0, .int .i64 0, .int .i64 0] 41)).heap.size (w1.alloc (.cells #[.int .u8 0, .int .u64 0, .int .u64 0, .int .u64 0, .int .u64 0, .int .i64 0, .int .i64 0] 41)) w' → w'.cell? ⟨w1.heap.size, 3, none⟩ = some (.int .u64 0) := boxc (heap1_0 w1 _) rfl
  have A4 : ∀ w', Below (w1.alloc (.cells #[.int .u8 0, .int .u64 0, .int .u64 0, .int .u64 0, .int .u64 0, .int .i64 0, .int .i64 0] 41)).heap.size (w1.alloc (.cells #[.int .u8 0, .int .u64 0, .int .u64 0, .int .u64 0, .int .u64 0, .int .i64 0, .int .i64 0] 41)) w' → w'.cell? ⟨w1.heap.size, 4, none⟩ = some (.int .u64 0) := boxc (heap1_0 w1 _) rfl
  have A5 : ∀ w', Below (w1.alloc (.cells #[.int .u8 0, .int .u64 0, .int .u64 0, .int .u64 0, .int .u64 0, .int .i64 0, .int .i64 0] 41)).heap.size (w1.alloc (.cells #[.int .u8 0, .int .u64 0, .int .u64 0, .int .u64 0, .int .u64 0, .int .i64 0, .int .i64 0] 41)) w' → w'.cell? ⟨w1.heap.size, 5, none⟩ = some (.int .i64 0) := boxc (heap1_0 w1 _) rfl
  have A6 : ∀ w', Below (w1.alloc (.cells #[.int .u8 0, .int .u64 0, .int .u64 0, .int .u64 0, .int .u64 0, .int .i64 0, .int .i64 0] 41)).heap.size (w1.alloc (.cells #[.int .u8 0, .int .u64 0, .int .u64 0, .int .u64 0, .int .u64 0, .int .i64 0, .int .i64 0] 41)) w' → w'.cell? ⟨w1.heap.size, 6, none⟩ = some (.int .i64 0) := boxc (heap1_0 w1 _) rfl
  generalize w1.alloc (.cells #[.int .u8 0, .int .u64 0, .int .u64 0, .int .u64 0, .int .u64 0, .int .i64 0, .int .i64 0] 41) = U at *
  have HL2 := hlK _ hb2
  clear HL
  go_wp2_with fail
  refine (hsec _).mono ?_
  rintro e w3 ⟨rfl, hc3⟩
  have hb3 := hb2.trans (hc3.mono hb2.size)
  have hU3 : Below U.heap.size U w3 := hc3
  clear hc3
  go_upto_region 3 with fail
  have hb4 : Below W.heap.size W (w3.alloc (.cells #[.int .u8 1, .int .u64 5, .int .u64 0, .int .u64 5, .int .u64 5, .int .i64 0, .int .i64 0] 41)) := hb3.alloc hb3.size _
  have hU4 : Below U.heap.size U (w3.alloc (.cells #[.int .u8 1, .int .u64 5, .int .u64 0, .int .u64 5, .int .u64 5, .int .i64 0, .int .i64 0] 41)) := hU3.alloc hU3.size _
  have B0 : ∀ w', Below (w3.alloc (.cells #[.int .u8 1, .int .u64 5, .int .u64 0, .int .u64 5, .int .u64 5, .int .i64 0, .int .i64 0] 41)).heap.size (w3.alloc (.cells #[.int .u8 1, .int .u64 5, .int .u64 0, .int .u64 5, .int .u64 5, .int .i64 0, .int .i64 0] 41)) w' → w'.cell? ⟨w3.heap.size, 0, none⟩ = some (.int .u8 1) := boxc (heap1_0 w3 _) rfl
  have B1 : ∀ w', Below (w3.alloc (.cells #[.int .u8 1, .int .u64 5, .int .u64 0, .int .u64 5, .int .u64 5, .int .i64 0, .int .i64 0] 41)).heap.size (w3.alloc (.cells #[.int .u8 1, .int .u64 5, .int .u64 0, .int .u64 5, .int .u64 5, .int .i64 0, .int .i64 0] 41)) w' → w'.cell? ⟨w3.heap.size, 1, none⟩ = some (.int .u64 5) := boxc (heap1_0 w3 _) rfl
  have B2 : ∀ w', Below (w3.alloc (.cells #[.int .u8 1, .int .u64 5, .int .u64 0, .int .u64 5, .int .u64 5, .int .i64 0, .int .i64 0] 41)).heap.size (w3.alloc (.cells #[.int .u8 1, .int .u64 5, .int .u64 0, .int .u64 5, .int .u64 5, .int .i64 0, .int .i64 0] 41)) w' → w'.cell? ⟨w3.heap.size, 2, none⟩ = some (.int .u64 0) := boxc (heap1_0 w3 _) rfl
  have B3 : ∀ w', Below (w3.alloc (.cells #[.int .u8 1, .int .u64 5, .int .u64 0, .int .u64 5, .int .u64 5, .int .i64 0, .int .i64 0] 41)).heap.size (w3.alloc (.cells #[.int .u8 1, .int .u64 5, .int .u64 0, .int .u64 5, .int .u64 5, .int .i64 0, .int .i64 0] 41)) w' → w'.cell? ⟨w3.heap.size, 3, none⟩ = some (.int .u64 5) := boxc (heap1_0 w3 _) rfl
  have B4 : ∀ w', Below (w3.alloc (.cells #[.int .u8 1, .int .u64 5, .int .u64 0, .int .u64 5, .int .u64 5, .int .i64 0, .int .i64 0] 41)).heap.size (w3.alloc (.cells #[.int .u8 1, .int .u64 5, .int .u64 0, .int .u64 5, .int .u64 5, .int .i64 0, .int .i64 0] 41)) w' → w'.cell? ⟨w3.heap.size, 4, none⟩ = some (.int .u64 5) := boxc (heap1_0 w3 _) rfl
  have B5 : ∀ w', Below (w3.alloc (.cells #[.int .u8 1, .int .u64 5, .int .u64 0, .int .u64 5, .int .u64 5, .int .i64 0, .int .i64 0] 41)).heap.size (w3.alloc (.cells #[.int .u8 1, .int .u64 5, .int .u64 0, .int .u64 5, .int .u64 5, .int .i64 0, .int .i64 0] 41)) w' → w'.cell? ⟨w3.heap.size, 5, none⟩ = some (.int .i64 0) := boxc (heap1_0 w3 _) rfl
  have B6 : ∀ w', Below (w3.alloc (.cells #[.int .u8 1, .int .u64 5, .int .u64 0, .int .u64 5, .int .u64 5, .int .i64 0, .int .i64 0] 41)).heap.size (w3.alloc (.cells #[.int .u8 1, .int .u64 5, .int .u64 0, .int .u64 5, .int .u64 5, .int .i64 0, .int .i64 0] 41)) w' → w'.cell? ⟨w3.heap.size, 6, none⟩ = some (.int .i64 0) := boxc (heap1_0 w3 _) rfl
  generalize w3.alloc (.cells #[.int .u8 1, .int .u64 5, .int .u64 0, .int .u64 5, .int .u64 5, .int .i64 0, .int .i64 0] 41) = R at *
  have hrR := Below.refl R.heap.size R
  have HL4 := hlK _ hb4
  clear HL2
  have z0 := b0 _ hb4
  have z1 := b1 _ hb4
  have z2 := b2 _ hb4
  have z3 := b3 _ hb4
  have z4 := b4 _ hb4
  have z5 := b5 _ hb4
  have z6 := b6 _ hb4
  go_wp2_with fail
  refine bodyPost_ret (v := .tuple #[.agg #[.int .u8 1, .int .u64 5, .int .u64 0, .int .u64 5, .int .u64 5, .int .i64 0, .int .i64 0], .int .i64 0]) (by simp [results, Tryz.results75, go_sem, *]) rfl ⟨rfl, ?_⟩
  (repeat (refine Below.setCell ?_ (by first | exact Nat.le_refl _ | exact Nat.le_succ _ | (simp; done) | (simp; omega)) _))
  exact hW0.trans (hb4.mono hW0.size)

set_option maxRecDepth 100000 in
set_option maxHeartbeats 4000000 in
theorem rarith14_1 (l : List Insn) (Ad : Option Addr) (c j : Nat) (K : List Value) (hK : K = [.slice Ad l.length c, .slice none 0 0, .int .i64 0, .int .i64 j, .int .u8 7, .int .u8 0, .int .u8 0, .int .i16 0, .int .i32 2, .int .u8 1, .int .u8 0, .bool true, .bool false, .bool false, .int .i64 0] ++ SVl [.int .u8 1, .int .u64 5, .int .u64 0, .int .u64 5, .int .u64 5, .int .i64 0, .int .i64 0]) (hKn : K.length = 604) (w : World) : Calls Tryz.prog 75 #[.agg K.toArray] w fun e w' => e = .returned (.tuple #[.agg #[.int .u8 1, .int .u64 7, .int .u64 0, .int .u64 7, .int .u64 7, .int .i64 0, .int .i64 0], .int .i64 0]) ∧ Below w.heap.size w w' := by
  have HK0 := Lib.hid hK
  have hdst := fun w1 => rdst14 7 (.int .u8 0) (.int .i16 0) (.int .i32 2) (.int .u8 1) (.int .u8 0) (.bool true) (.bool false) (.bool false) (.int .i64 0) 1 5 0 5 5 0 0 l Ad c j K hK hKn w1
  have hsec := fun w1 => rsecond14_2 7 0 0 0 (.int .u8 1) (.int .u8 0) (.bool true) (.bool false) (.int .i64 0) 1 5 0 5 5 0 0 l Ad c j K hK hKn w1
  clear HK0
  have q0 : ((w.alloc (.cells K.toArray 108)).alloc (.cells #[.int .u8 0, .int .u64 0, .int .u64 0, .int .u64 0, .int .u64 0, .int .i64 0, .int .i64 0] 41)).heap[w.heap.size]? = some (.cells K.toArray 108) := heap2_0 _ _ _
  have k7 := boxc (k := 7) (u := .int .i16 0) q0 (by rw [hK]; rfl)
  have k8 := boxc (k := 8) (u := .int .i32 2) q0 (by rw [hK]; rfl)
  have k9 := boxc (k := 9) (u := .int .u8 1) q0 (by rw [hK]; rfl)
  have k10 := boxc (k := 10) (u := .int .u8 0) q0 (by rw [hK]; rfl)
  have k11 := boxc (k := 11) (u := .bool true) q0 (by rw [hK]; rfl)
  have hRK : ∀ w', Below ((w.alloc (.cells K.toArray 108)).alloc (.cells #[.int .u8 0, .int .u64 0, .int .u64 0, .int .u64 0, .int .u64 0, .int .i64 0, .int .i64 0] 41)).heap.size ((w.alloc (.cells K.toArray 108)).alloc (.cells #[.int .u8 0, .int .u64 0, .int .u64 0, .int .u64 0, .int .u64 0, .int .i64 0, .int .i64 0] 41)) w' → w'.rangeAt w.heap.size 0 K := fun w' h k u hu => by rw [Nat.zero_add]; exact boxc q0 (by simpa using hu) w' h
  clear q0
  have q1 : ((w.alloc (.cells K.toArray 108)).alloc (.cells #[.int .u8 0, .int .u64 0, .int .u64 0, .int .u64 0, .int .u64 0, .int .i64 0, .int .i64 0] 41)).heap[(w.heap.size + 1)]? = some (.cells #[.int .u8 0, .int .u64 0, .int .u64 0, .int .u64 0, .int .u64 0, .int .i64 0, .int .i64 0] 41) := heap2_1 _ _ _
  have b0 := boxc (k := 0) (u := .int .u8 0) q1 rfl
  have b1 := boxc (k := 1) (u := .int .u64 0) q1 rfl
  have b2 := boxc (k := 2) (u := .int .u64 0) q1 rfl
  have b3 := boxc (k := 3) (u := .int .u64 0) q1 rfl
  have b4 := boxc (k := 4) (u := .int .u64 0) q1 rfl
  have b5 := boxc (k := 5) (u := .int .i64 0) q1 rfl
  have b6 := boxc (k := 6) (u := .int .i64 0) q1 rfl
  have t1 := boxt q1
  clear q1
  have hW0 : Below w.heap.size w ((w.alloc (.cells K.toArray 108)).alloc (.cells #[.int .u8 0, .int .u64 0, .int .u64 0, .int .u64 0, .int .u64 0, .int .i64 0, .int .i64 0] 41)) := below_boxes2 _ _ _
  have hrf := Below.refl ((w.alloc (.cells K.toArray 108)).alloc (.cells #[.int .u8 0, .int .u64 0, .int .u64 0, .int .u64 0, .int .u64 0, .int .i64 0, .int .i64 0] 41)).heap.size ((w.alloc (.cells K.toArray 108)).alloc (.cells #[.int .u8 0, .int .u64 0, .int .u64 0, .int .u64 0, .int .u64 0, .int .i64 0, .int .i64 0] 41))
  clear hK
  go_enter Tryz.func75, Tryz.ntmps75
  go_upto_region 1 with fail
  generalize (w.alloc (.cells K.toArray 108)).alloc (.cells #[.int .u8 0, .int .u64 0, .int .u64 0, .int .u64 0, .int .u64 0, .int .i64 0, .int .i64 0] 41) = W at *
  have hlK : ∀ w', Below W.heap.size W w' → (ldRow ⟨w.heap.size, 0, none⟩ 604).run Tryz.prog w' = .ok K.toArray w' := fun w' h => run_ldRow (hRK w' h) hKn
  have HL := hlK _ hrf
  go_wp2_with fail
  refine (hdst _).mono ?_
  rintro e w1 ⟨rfl, hc1⟩
  have hb1 : Below W.heap.size W w1 := hc1
  clear hc1
  go_upto_region 2 with fail
  have hb2 : Below W.heap.size W (w1.alloc (.cells #[.int .u8 1, .int .u64 5, .int .u64 0, .int .u64 5, .int .u64 5, .int .i64 0, .int .i64 0] 41)) := hb1.alloc hb1.size _
  have A0 : ∀ w', Below (w1.alloc (.cells #[.int .u8 1, .int .u64 5, .int .u64 0, .int .u64 5, .int .u64 5, .int .i64 0, .int .i64 0] 41)).heap.size (w1.alloc (.cells #[.int .u8 1, .int .u64 5, .int .u64 0, .int .u64 5, .int .u64 5, .int .i64 0, .int .i64 0] 41)) w' → w'.cell? ⟨w1.heap.size, 0, none⟩ = some (.int .u8 1) := boxc (heap1_0 w1 _) rfl
  have A1 : ∀ w', Below (w1.alloc (.cells #[.int .u8 1, .int .u64 5, .int .u64 0, .int .u64 5, .int .u64 5, .int .i64 0, .int .i64 0] 41)).heap.size (w1.alloc (.cells #[.int .u8 1, .int .u64 5, .int .u64 0, .int .u64 5, .int .u64 5, .int .i64 0, .int .i64 0] 41)) w' → w'.cell? ⟨w1.heap.size, 1, none⟩ = some (.int .u64 5) := boxc (heap1_0 w1 _) rfl
  have A2 : ∀ w', Below (w1.alloc (.cells #[.int .u8 1, .int .u64 5, .int .u64 0, .int .u64 5, .int .u64 5, .int .i64 0, .int .i64 0] 41)).heap.size (w1.alloc (.cells #[.int .u8 1, .int .u64 5, .int .u64 0, .int .u64 5, .int .u64 5, .int .i64 0, .int .i64 0] 41)) w' → w'.cell? ⟨w1.heap.size, 2, none⟩ = some (.int .u64 0) := boxc (heap1_0 w1 _) rfl
  have A3 : ∀ w', Below (w1.alloc (.cells #[.int .u8 1, .int .u64 5, .int .u64 0, .int .u64 5, .int .u64 5, .int .i64 0, .int .i64 0] 41)).heap.size (w1.alloc (.cells #[.int .u8 1, .int .u64 5, .int .u64 0, .int .u64 5, .int .u64 5, .int .i64 0, .int .i64 0] 41)) w' → w'.cell? ⟨w1.heap.size, 3, none⟩ = some (.int .u64 5) := boxc (heap1_0 w1 _) rfl
  have A4 : ∀ w', Below (w1.alloc (.cells #[.int .u8 1, .int .u64 5, .int .u64 0, .int .u64 5, .int .u64 5, .int .i64 0, .int .i64 0] 41)).heap.size (w1.alloc (.cells #[.int .u8 1, .int .u64 5, .int .u64 0, .int .u64 5, .int .u64 5, .int .i64 0, .int .i64 0] 41)) w' → w'.cell? ⟨w1.heap.size, 4, none⟩ = some (.int .u64 5) := boxc (heap1_0 w1 _) rfl
  have A5 : ∀ w', Below (w1.alloc (.cells #[.int .u8 1, .int .u64 5, .int .u64 0, .int .u64 5, .int .u64 5, .int .i64 0, .int .i64 0] 41)).heap.size (w1.alloc (.cells #[.int .u8 1, .int .u64 5, .int .u64 0, .int .u64 5, .int .u64 5, .int .i64 0, .int .i64 0] 41)) w' → w'.cell? ⟨w1.heap.size, 5, none⟩ = some (.int .i64 0) := boxc (heap1_0 w1 _) rfl
  have A6 : ∀ w', Below (w1.alloc (.cells #[.int .u8 1, .int .u64 5, .int .u64 0, .int .u64 5, .int .u64 5, .int .i64 0, .int .i64 0] 41)).heap.size (w1.alloc (.cells #[.int .u8 1, .int .u64 5, .int .u64 0, .int .u64 5, .int .u64 5, .int .i64 0, .int .i64 0] 41)) w' → w'.cell? ⟨w1.heap.size, 6, none⟩ = some (.int .i64 0) := boxc (heap1_0 w1 _) rfl
  generalize w1.alloc (.cells #[.int .u8 1, .int .u64 5, .int .u64 0, .int .u64 5, .int .u64 5, .int .i64 0, .int .i64 0] 41) = U at *
  have HL2 := hlK _ hb2
  clear HL
  go_wp2_with fail
  refine (hsec _).mono ?_
  rintro e w3 ⟨rfl, hc3⟩
  have hb3 := hb2.trans (hc3.mono hb2.size)
  have hU3 : Below U.heap.size U w3 := hc3
  clear hc3
  go_upto_region 3 with fail
  have hb4 : Below W.heap.size W (w3.alloc (.cells #[.int .u8 1, .int .u64 2, .int .u64 0, .int .u64 2, .int .u64 2, .int .i64 0, .int .i64 0] 41)) := hb3.alloc hb3.size _
  have hU4 : Below U.heap.size U (w3.alloc (.cells #[.int .u8 1, .int .u64 2, .int .u64 0, .int .u64 2, .int .u64 2, .int .i64 0, .int .i64 0] 41)) := hU3.alloc hU3.size _
  have B0 : ∀ w', Below (w3.alloc (.cells #[.int .u8 1, .int .u64 2, .int .u64 0, .int .u64 2, .int .u64 2, .int .i64 0, .int .i64 0] 41)).heap.size (w3.alloc (.cells #[.int .u8 1, .int .u64 2, .int .u64 0, .int .u64 2, .int .u64 2, .int .i64 0, .int .i64 0] 41)) w' → w'.cell? ⟨w3.heap.size, 0, none⟩ = some (.int .u8 1) := boxc (heap1_0 w3 _) rfl
  have B1 : ∀ w', Below (w3.alloc (.cells #[.int .u8 1, .int .u64 2, .int .u64 0, .int .u64 2, .int .u64 2, .int .i64 0, .int .i64 0] 41)).heap.size (w3.alloc (.cells #[.int .u8 1, .int .u64 2, .int .u64 0, .int .u64 2, .int .u64 2, .int .i64 0, .int .i64 0] 41)) w' → w'.cell? ⟨w3.heap.size, 1, none⟩ = some (.int .u64 2) := boxc (heap1_0 w3 _) rfl
  have B2 : ∀ w', Below (w3.alloc (.cells #[.int .u8 1, .int .u64 2, .int .u64 0, .int .u64 2, .int .u64 2, .int .i64 0, .int .i64 0] 41)).heap.size (w3.alloc (.cells #[.int .u8 1, .int .u64 2, .int .u64 0, .int .u64 2, .int .u64 2, .int .i64 0, .int .i64 0] 41)) w' → w'.cell? ⟨w3.heap.size, 2, none⟩ = some (.int .u64 0) := boxc (heap1_0 w3 _) rfl
  have B3 : ∀ w', Below (w3.alloc (.cells #[.int .u8 1, .int .u64 2, .int .u64 0, .int .u64 2, .int .u64 2, .int .i64 0, .int .i64 0] 41)).heap.size (w3.alloc (.cells #[.int .u8 1, .int .u64 2, .int .u64 0, .int .u64 2, .int .u64 2, .int .i64 0, .int .i64 0] 41)) w' → w'.cell? ⟨w3.heap.size, 3, none⟩ = some (.int .u64 2) := boxc (heap1_0 w3 _) rfl
  have B4 : ∀ w', Below (w3.alloc (.cells #[.int .u8 1, .int .u64 2, .int .u64 0, .int .u64 2, .int .u64 2, .int .i64 0, .int .i64 0] 41)).heap.size (w3.alloc (.cells #[.int .u8 1, .int .u64 2, .int .u64 0, .int .u64 2, .int .u64 2, .int .i64 0, .int .i64 0] 41)) w' → w'.cell? ⟨w3.heap.size, 4, none⟩ = some (.int .u64 2) := boxc (heap1_0 w3 _) rfl
  have B5 : ∀ w', Below (w3.alloc (.cells #[.int .u8 1, .int .u64 2, .int .u64 0, .int .u64 2, .int .u64 2, .int .i64 0, .int .i64 0] 41)).heap.size (w3.alloc (.cells #[.int .u8 1, .int .u64 2, .int .u64 0, .int .u64 2, .int .u64 2, .int .i64 0, .int .i64 0] 41)) w' → w'.cell? ⟨w3.heap.size, 5, none⟩ = some (.int .i64 0) := boxc (heap1_0 w3 _) rfl
  have B6 : ∀ w', Below (w3.alloc (.cells #[.int .u8 1, .int .u64 2, .int .u64 0, .int .u64 2, .int .u64 2, .int .i64 0, .int .i64 0] 41)).heap.size (w3.alloc (.cells #[.int .u8 1, .int .u64 2, .int .u64 0, .int .u64 2, .int .u64 2, .int .i64 0, .int .i64 0] 41)) w' → w'.cell? ⟨w3.heap.size, 6, none⟩ = some (.int .i64 0) := boxc (heap1_0 w3 _) rfl
  generalize w3.alloc (.cells #[.int .u8 1, .int .u64 2, .int .u64 0, .int .u64 2, .int .u64 2, .int .i64 0, .int .i64 0] 41) = R at *
  have hrR := Below.refl R.heap.size R
  have HL4 := hlK _ hb4
  clear HL2
  go_wp2_with fail
  refine (rpointer12_num 5 ⟨by decide, by decide⟩ _).mono ?_
  rintro e w5 ⟨rfl, hc5⟩
  have hb5 : Below R.heap.size R w5 := hc5
  clear hc5
  have hb6 := hb4.trans (hb5.mono hb4.size)
  have hU6 := hU4.trans (hb5.mono hU4.size)
  have hfl := rnum14
  go_wp2_with fail
  refine (rnum14 5 _).mono ?_
  rintro e w7 ⟨rfl, hc7⟩
  have hb7 := hb6.trans (hc7.mono hb6.size)
  have hU7 := hU6.trans (hc7.mono hU6.size)
  have hR7 := hb5.trans (hc7.mono hb5.size)
  clear hc7
  go_wp2_with fail
  refine (rnum14 2 _).mono ?_
  rintro e w8 ⟨rfl, hc8⟩
  have hb8 := hb7.trans (hc8.mono hb7.size)
  have hU8 := hU7.trans (hc8.mono hU7.size)
  have hR8 := hR7.trans (hc8.mono hR7.size)
  clear hc8
  go_wp2_with fail
  refine (rdo6_k _).mono ?_
  rintro e w9 ⟨rfl, hc9⟩
  have hb9 := hb8.trans (hc9.mono hb8.size)
  have hU9 := hU8.trans (hc9.mono hU8.size)
  have hR9 := hR8.trans (hc9.mono hR8.size)
  clear hc9
  go_wp2_with fail
  refine (rnum12_k 7 ⟨by decide, by decide⟩ _).mono ?_
  rintro e w10 ⟨rfl, hc10⟩
  have hb10 : Below W.heap.size W w10 := (hb9.alloc hb9.size _).trans (hc10.mono (Nat.le_trans hb9.size (by simp)))
  clear hc10
  have z0 := b0 _ hb10
  have z1 := b1 _ hb10
  have z2 := b2 _ hb10
  have z3 := b3 _ hb10
  have z4 := b4 _ hb10
  have z5 := b5 _ hb10
  have z6 := b6 _ hb10
  go_wp2_with fail
  refine bodyPost_ret (v := .tuple #[.agg #[.int .u8 1, .int .u64 7, .int .u64 0, .int .u64 7, .int .u64 7, .int .i64 0, .int .i64 0], .int .i64 0]) (by simp [results, Tryz.results75, go_sem, *]) rfl ⟨rfl, ?_⟩
  (repeat (refine Below.setCell ?_ (by first | exact Nat.le_refl _ | exact Nat.le_succ _ | (simp; done) | (simp; omega)) _))
  exact hW0.trans (hb10.mono hW0.size)

end Go.Proofs.YtbfgffmebniooaaGreat
end

section
/- The steps of a walk of the closed run. No statement is proved here. -/
namespace Go.Proofs.YtbfgffmebniooaaGreat
open Go.RowKit
set_option linter.unusedSimpArgs false
set_option linter.unusedVariables false
set_option linter.unnecessarySimpa false
attribute [local go_sem ↓] ldFrom_589 ldFrom_604 mkS89_eq mkW94_eq mkW108_eq
set_option maxRecDepth 100000 in
set_option maxHeartbeats 4000000 in
theorem rstep14_0 (l : List Insn) (Ad : Option Addr) (c j : Nat) (K : List Value) (hK : K = [.slice Ad l.length c, .slice none 0 0, .int .i64 0, .int .i64 j, .int .u8 183, .int .u8 0, .int .u8 0, .int .i16 0, .int .i32 5, .int .u8 1, .int .u8 176, .bool true, .bool false, .bool false, .int .i64 0] ++ SVl [.int .u8 0, .int .u64 0, .int .u64 0, .int .u64 0, .int .u64 0, .int .i64 0, .int .i64 0]) (hKn : K.length = 604) (hn : l.length ≤ 100000) (hj : j < l.length) (w : World) (hat : SAt w w.heap.size 5 Ad l.length (insnsV l)) :
    Calls Tryz.prog 61 #[.agg K.toArray] w fun e w' => ∃ b, e = .returned (.tuple #[.slice (some ⟨b, 0, none⟩) 1 1, .int .i64 0]) ∧ w.heap.size ≤ b ∧ w'.rangeAt b 0 (.int .i64 (stepN l j : Nat) :: SVl [.int .u8 1, .int .u64 5, .int .u64 0, .int .u64 5, .int .u64 5, .int .i64 0, .int .i64 0]) ∧ Below w.heap.size w w' := by
  have hun := fun w1 => runset14_0 l Ad c j K hK hKn w1
  have har := fun w1 => rarith14_0 l Ad c j K hK hKn w1
  have hbe := fun (w1 : World) (hb : Below w.heap.size w w1) => rbecomes14 5 183 (.int .u8 0) (.int .i16 0) (.int .i32 5) (.int .u8 1) (.int .u8 176) (.bool true) (.bool false) (.bool false) (.int .i64 0) 0 0 0 0 0 0 0 l Ad c j K hK hKn hn hj w1 ((hat.below hb).more hb.size)
  have q0 : (w.alloc (.cells K.toArray 108)).heap[w.heap.size]? = some (.cells K.toArray 108) := heap1_0 _ _
  have k9 := boxc (k := 9) (u := .int .u8 1) q0 (by rw [hK]; rfl)
  have hRK : ∀ w', Below (w.alloc (.cells K.toArray 108)).heap.size (w.alloc (.cells K.toArray 108)) w' → w'.rangeAt w.heap.size 0 K := fun w' h k u hu => by rw [Nat.zero_add]; exact boxc q0 (by simpa using hu) w' h
  clear q0
  have hW0 : Below w.heap.size w (w.alloc (.cells K.toArray 108)) := below_boxes1 _ _
  have hrf := Below.refl (w.alloc (.cells K.toArray 108)).heap.size (w.alloc (.cells K.toArray 108))
  clear hK
  go_enter Tryz.func61, Tryz.ntmps61
  go_upto_region 1 with fail
  generalize w.alloc (.cells K.toArray 108) = W at *
  have hlK : ∀ w', Below W.heap.size W w' → (ldRow ⟨w.heap.size, 0, none⟩ 604).run Tryz.prog w' = .ok K.toArray w' := fun w' h => run_ldRow (hRK w' h) hKn
  have HL := hlK _ hrf
  go_wp2_with fail
  refine (hun _).mono ?_
  rintro e w1 ⟨rfl, hc1⟩
  have hb1 : Below W.heap.size W w1 := hc1
  clear hc1
  go_upto_region 5 with fail
  go_region_held3 (fun w' => Below W.heap.size W w') (first | assumption | exact sbelow_drew (by assumption) | exact sbelow_alloc (by assumption) (Nat.le_refl _))
    (first | (go_at_call 75; refine (har _).mono ?_; rintro e w2 ⟨rfl, hc2⟩; have hS2 : Below W.heap.size W w2 := below_step (by assumption) (Nat.le_refl _) hc2) | (go_at_call 74; refine (hbe _ (hW0.trans (Below.mono (by assumption) hW0.size))).mono ?_; rintro e w3 ⟨b, rfl, hb0, hr3, hc3⟩; have hS3 : Below W.heap.size W w3 := below_step (by assumption) (Nat.le_refl _) hc3))
  go_wp2_with fail
  go_ret2
  exact ⟨b, rfl, Nat.le_trans hW0.size (Nat.le_trans hS2.size hb0), hr3, hW0.trans (hS3.mono hW0.size)⟩

set_option maxRecDepth 100000 in
set_option maxHeartbeats 4000000 in
theorem rstep14_1 (l : List Insn) (Ad : Option Addr) (c j : Nat) (K : List Value) (hK : K = [.slice Ad l.length c, .slice none 0 0, .int .i64 0, .int .i64 j, .int .u8 7, .int .u8 0, .int .u8 0, .int .i16 0, .int .i32 2, .int .u8 1, .int .u8 0, .bool true, .bool false, .bool false, .int .i64 0] ++ SVl [.int .u8 1, .int .u64 5, .int .u64 0, .int .u64 5, .int .u64 5, .int .i64 0, .int .i64 0]) (hKn : K.length = 604) (hn : l.length ≤ 100000) (hj : j < l.length) (w : World) (hat : SAt w w.heap.size 5 Ad l.length (insnsV l)) :
    Calls Tryz.prog 61 #[.agg K.toArray] w fun e w' => ∃ b, e = .returned (.tuple #[.slice (some ⟨b, 0, none⟩) 1 1, .int .i64 0]) ∧ w.heap.size ≤ b ∧ w'.rangeAt b 0 (.int .i64 (stepN l j : Nat) :: SVl [.int .u8 1, .int .u64 7, .int .u64 0, .int .u64 7, .int .u64 7, .int .i64 0, .int .i64 0]) ∧ Below w.heap.size w w' := by
  have hun := fun w1 => runset14_1 l Ad c j K hK hKn w1
  have har := fun w1 => rarith14_1 l Ad c j K hK hKn w1
  have hbe := fun (w1 : World) (hb : Below w.heap.size w w1) => rbecomes14 7 7 (.int .u8 0) (.int .i16 0) (.int .i32 2) (.int .u8 1) (.int .u8 0) (.bool true) (.bool false) (.bool false) (.int .i64 0) 1 5 0 5 5 0 0 l Ad c j K hK hKn hn hj w1 ((hat.below hb).more hb.size)
  have q0 : (w.alloc (.cells K.toArray 108)).heap[w.heap.size]? = some (.cells K.toArray 108) := heap1_0 _ _
  have k9 := boxc (k := 9) (u := .int .u8 1) q0 (by rw [hK]; rfl)
  have hRK : ∀ w', Below (w.alloc (.cells K.toArray 108)).heap.size (w.alloc (.cells K.toArray 108)) w' → w'.rangeAt w.heap.size 0 K := fun w' h k u hu => by rw [Nat.zero_add]; exact boxc q0 (by simpa using hu) w' h
  clear q0
  have hW0 : Below w.heap.size w (w.alloc (.cells K.toArray 108)) := below_boxes1 _ _
  have hrf := Below.refl (w.alloc (.cells K.toArray 108)).heap.size (w.alloc (.cells K.toArray 108))
  clear hK
  go_enter Tryz.func61, Tryz.ntmps61
  go_upto_region 1 with fail
  generalize w.alloc (.cells K.toArray 108) = W at *
  have hlK : ∀ w', Below W.heap.size W w' → (ldRow ⟨w.heap.size, 0, none⟩ 604).run Tryz.prog w' = .ok K.toArray w' := fun w' h => run_ldRow (hRK w' h) hKn
  have HL := hlK _ hrf
  go_wp2_with fail
  refine (hun _).mono ?_
  rintro e w1 ⟨rfl, hc1⟩
  have hb1 : Below W.heap.size W w1 := hc1
  clear hc1
  go_upto_region 5 with fail
  go_region_held3 (fun w' => Below W.heap.size W w') (first | assumption | exact sbelow_drew (by assumption) | exact sbelow_alloc (by assumption) (Nat.le_refl _))
    (first | (go_at_call 75; refine (har _).mono ?_; rintro e w2 ⟨rfl, hc2⟩; have hS2 : Below W.heap.size W w2 := below_step (by assumption) (Nat.le_refl _) hc2) | (go_at_call 74; refine (hbe _ (hW0.trans (Below.mono (by assumption) hW0.size))).mono ?_; rintro e w3 ⟨b, rfl, hb0, hr3, hc3⟩; have hS3 : Below W.heap.size W w3 := below_step (by assumption) (Nat.le_refl _) hc3))
  go_wp2_with fail
  go_ret2
  exact ⟨b, rfl, Nat.le_trans hW0.size (Nat.le_trans hS2.size hb0), hr3, hW0.trans (hS3.mono hW0.size)⟩

set_option maxRecDepth 100000 in
set_option maxHeartbeats 4000000 in
theorem rstep14_2 (l : List Insn) (Ad : Option Addr) (c j : Nat) (K : List Value) (hK : K = [.slice Ad l.length c, .slice none 0 0, .int .i64 0, .int .i64 j, .int .u8 149, .int .u8 0, .int .u8 0, .int .i16 0, .int .i32 0, .int .u8 12, .int .u8 0, .bool false, .bool false, .bool false, .int .i64 0] ++ SVl [.int .u8 1, .int .u64 7, .int .u64 0, .int .u64 7, .int .u64 7, .int .i64 0, .int .i64 0]) (hKn : K.length = 604) (w : World) : Calls Tryz.prog 61 #[.agg K.toArray] w fun e w' => e = .returned (.tuple #[.slice none 0 0, .int .i64 0]) ∧ Below w.heap.size w w' := by
  have hun := fun w1 => runset14_2 l Ad c j K hK hKn w1
  have q0 : (w.alloc (.cells K.toArray 108)).heap[w.heap.size]? = some (.cells K.toArray 108) := heap1_0 _ _
  have k9 := boxc (k := 9) (u := .int .u8 12) q0 (by rw [hK]; rfl)
  have k15 := boxc (k := 15) (u := .int .u8 1) q0 (by rw [hK]; rfl)
  have k16 := boxc (k := 16) (u := .int .u64 7) q0 (by rw [hK]; rfl)
  have k17 := boxc (k := 17) (u := .int .u64 0) q0 (by rw [hK]; rfl)
  have k18 := boxc (k := 18) (u := .int .u64 7) q0 (by rw [hK]; rfl)
  have k19 := boxc (k := 19) (u := .int .u64 7) q0 (by rw [hK]; rfl)
  have k20 := boxc (k := 20) (u := .int .i64 0) q0 (by rw [hK]; rfl)
  have k21 := boxc (k := 21) (u := .int .i64 0) q0 (by rw [hK]; rfl)
  have hRK : ∀ w', Below (w.alloc (.cells K.toArray 108)).heap.size (w.alloc (.cells K.toArray 108)) w' → w'.rangeAt w.heap.size 0 K := fun w' h k u hu => by rw [Nat.zero_add]; exact boxc q0 (by simpa using hu) w' h
  clear q0
  have hW0 : Below w.heap.size w (w.alloc (.cells K.toArray 108)) := below_boxes1 _ _
  have hrf := Below.refl (w.alloc (.cells K.toArray 108)).heap.size (w.alloc (.cells K.toArray 108))
  clear hK
  go_enter Tryz.func61, Tryz.ntmps61
  go_upto_region 1 with fail
  generalize w.alloc (.cells K.toArray 108) = W at *
  have hlK : ∀ w', Below W.heap.size W w' → (ldRow ⟨w.heap.size, 0, none⟩ 604).run Tryz.prog w' = .ok K.toArray w' := fun w' h => run_ldRow (hRK w' h) hKn
  have HL := hlK _ hrf
  go_wp2_with fail
  refine (hun _).mono ?_
  rintro e w1 ⟨rfl, hc1⟩
  have hb1 : Below W.heap.size W w1 := hc1
  clear hc1
  have A9 := k9 _ hb1
  have A15 := k15 _ hb1
  have A16 := k16 _ hb1
  have A17 := k17 _ hb1
  have A18 := k18 _ hb1
  have A19 := k19 _ hb1
  have A20 := k20 _ hb1
  have A21 := k21 _ hb1
  go_wp2_with fail
  refine (rnum14 7 _).mono ?_
  rintro e w2 ⟨rfl, hc2⟩
  have hb2 := hb1.trans (hc2.mono hb1.size)
  clear hc2
  go_wp2_with fail
  go_ret2
  exact ⟨rfl, hW0.trans (hb2.mono hW0.size)⟩

end Go.Proofs.YtbfgffmebniooaaGreat
end
