/- What the closed run asks of the reference. No statement is proved here. -/
import Derived.Test.YtncogaikiceidaaGreatKnown
import Derived.Deep.MidRow
import Derived.Deep.WholeRow
import Derived.Great.BuildSlice
import Derived.Test.YtncogaikiceidaaGreatHopC
import Derived.Deep.Upon
section
section
/- Contracts for one closed run: values, facts of one number, arithmetic on them, the first state. No statement is proved here. -/
namespace Go.Proofs.YtncogaikiceidaaGreat
open Go.RowKit
set_option linter.unusedSimpArgs false
set_option linter.unusedVariables false
set_option linter.unnecessarySimpa false
theorem rfright_k (n : Int) (hn : U64 n) (w : World) : Calls Tryz.prog 28 #[.agg #[.int .u64 n, .int .u64 0, .int .u64 n, .int .u64 n]] w fun e w' => e = .returned (.bool true) ∧ Below w.heap.size w w' := by
  refine (rfright_any n 0 n n w).mono ?_
  rintro e w1 ⟨b, rfl, h, hb⟩
  have := h rfl hn
  subst this
  exact ⟨by simp, hb⟩

set_option maxRecDepth 100000 in
theorem rof_any (n : Int) (w : World) : Calls Tryz.prog 134 #[.int .u64 n] w fun e w' => e = .returned (.agg #[.int .u64 n, .int .u64 0, .int .u64 n, .int .u64 n]) ∧ Below w.heap.size w w' := by
  go_enter Tryz.func134, Tryz.ntmps134
  go_wp2_with fail
  exact bodyPost_ret (v := .agg #[.int .u64 n, .int .u64 0, .int .u64 n, .int .u64 n]) (by simp [results, Tryz.results134, go_sem]) rfl ⟨rfl, (Below.refl _ _).alloc (Nat.le_refl _) _⟩

set_option maxRecDepth 100000 in
theorem rnum12_k (n : Int) (hn : U64 n) (w : World) : Calls Tryz.prog 110 #[.agg #[.int .u64 n, .int .u64 0, .int .u64 n, .int .u64 n]] w fun e w' => e = .returned (.agg #[.int .u8 1, .int .u64 n, .int .u64 0, .int .u64 n, .int .u64 n, .int .i64 0, .int .i64 0]) ∧ Below w.heap.size w w' := by
  have hq := fun w => rfright_k n hn w
  have q0 : ((w.alloc (.cells #[.int .u64 n, .int .u64 0, .int .u64 n, .int .u64 n] 64)).alloc (.cells #[.int .u8 0, .int .u64 0, .int .u64 0, .int .u64 0, .int .u64 0, .int .i64 0, .int .i64 0] 66)).heap[w.heap.size]? = some (.cells #[.int .u64 n, .int .u64 0, .int .u64 n, .int .u64 n] 64) := heap2_0 _ _ _
  have a0 := boxc (k := 0) (u := .int .u64 n) q0 rfl
  have a1 := boxc (k := 1) (u := .int .u64 0) q0 rfl
  have a2 := boxc (k := 2) (u := .int .u64 n) q0 rfl
  have a3 := boxc (k := 3) (u := .int .u64 n) q0 rfl
  clear q0
  have q1 : ((w.alloc (.cells #[.int .u64 n, .int .u64 0, .int .u64 n, .int .u64 n] 64)).alloc (.cells #[.int .u8 0, .int .u64 0, .int .u64 0, .int .u64 0, .int .u64 0, .int .i64 0, .int .i64 0] 66)).heap[(w.heap.size + 1)]? = some (.cells #[.int .u8 0, .int .u64 0, .int .u64 0, .int .u64 0, .int .u64 0, .int .i64 0, .int .i64 0] 66) := heap2_1 _ _ _
  have b0 := boxc (k := 0) (u := .int .u8 0) q1 rfl
  have b1 := boxc (k := 1) (u := .int .u64 0) q1 rfl
  have b2 := boxc (k := 2) (u := .int .u64 0) q1 rfl
  have b3 := boxc (k := 3) (u := .int .u64 0) q1 rfl
  have b4 := boxc (k := 4) (u := .int .u64 0) q1 rfl
  have b5 := boxc (k := 5) (u := .int .i64 0) q1 rfl
  have b6 := boxc (k := 6) (u := .int .i64 0) q1 rfl
  have t1 := boxt q1
  clear q1
  have hW0 : Below w.heap.size w ((w.alloc (.cells #[.int .u64 n, .int .u64 0, .int .u64 n, .int .u64 n] 64)).alloc (.cells #[.int .u8 0, .int .u64 0, .int .u64 0, .int .u64 0, .int .u64 0, .int .i64 0, .int .i64 0] 66)) := below_boxes2 _ _ _
  have hr := Below.refl ((w.alloc (.cells #[.int .u64 n, .int .u64 0, .int .u64 n, .int .u64 n] 64)).alloc (.cells #[.int .u8 0, .int .u64 0, .int .u64 0, .int .u64 0, .int .u64 0, .int .i64 0, .int .i64 0] 66)).heap.size ((w.alloc (.cells #[.int .u64 n, .int .u64 0, .int .u64 n, .int .u64 n] 64)).alloc (.cells #[.int .u8 0, .int .u64 0, .int .u64 0, .int .u64 0, .int .u64 0, .int .i64 0, .int .i64 0] 66))
  go_enter Tryz.func110, Tryz.ntmps110
  go_upto_region 1 with fail
  generalize (w.alloc (.cells #[.int .u64 n, .int .u64 0, .int .u64 n, .int .u64 n] 64)).alloc (.cells #[.int .u8 0, .int .u64 0, .int .u64 0, .int .u64 0, .int .u64 0, .int .i64 0, .int .i64 0] 66) = W at *
  go_wp2_with fail
  refine (hq _).mono ?_
  rintro e w1 ⟨rfl, hc1⟩
  have hb1 : Below W.heap.size W w1 := hc1
  clear hc1
  have A0 := a0 _ hb1
  have A1 := a1 _ hb1
  have A2 := a2 _ hb1
  have A3 := a3 _ hb1
  have z0 := b0 _ hb1
  have z1 := b1 _ hb1
  have z2 := b2 _ hb1
  have z3 := b3 _ hb1
  have z4 := b4 _ hb1
  have z5 := b5 _ hb1
  have z6 := b6 _ hb1
  go_wp2_with fail
  refine bodyPost_ret (v := .agg #[.int .u8 1, .int .u64 n, .int .u64 0, .int .u64 n, .int .u64 n, .int .i64 0, .int .i64 0]) (by simp [results, Tryz.results110, go_sem, *]) rfl ⟨rfl, ?_⟩
  (repeat (refine Below.setCell ?_ (by first | exact Nat.le_refl _ | exact Nat.le_succ _ | (simp; done) | (simp; omega)) _))
  exact hW0.trans (hb1.mono hW0.size)

set_option maxRecDepth 100000 in
theorem rknown14 (n : Int) (hn : U64 n) (w : World) : Calls Tryz.prog 102 #[.int .u64 n] w fun e w' => e = .returned (.agg #[.int .u8 1, .int .u64 n, .int .u64 0, .int .u64 n, .int .u64 n, .int .i64 0, .int .i64 0]) ∧ Below w.heap.size w w' := by
  have q0 : (w.alloc (.cells #[.int .u8 0, .int .u64 0, .int .u64 0, .int .u64 0, .int .u64 0, .int .i64 0, .int .i64 0] 66)).heap[w.heap.size]? = some (.cells #[.int .u8 0, .int .u64 0, .int .u64 0, .int .u64 0, .int .u64 0, .int .i64 0, .int .i64 0] 66) := heap1_0 _ _
  have b0 := boxc (k := 0) (u := .int .u8 0) q0 rfl
  have b1 := boxc (k := 1) (u := .int .u64 0) q0 rfl
  have b2 := boxc (k := 2) (u := .int .u64 0) q0 rfl
  have b3 := boxc (k := 3) (u := .int .u64 0) q0 rfl
  have b4 := boxc (k := 4) (u := .int .u64 0) q0 rfl
  have b5 := boxc (k := 5) (u := .int .i64 0) q0 rfl
  have b6 := boxc (k := 6) (u := .int .i64 0) q0 rfl
  have t0 := boxt q0
  clear q0
  have hW0 : Below w.heap.size w (w.alloc (.cells #[.int .u8 0, .int .u64 0, .int .u64 0, .int .u64 0, .int .u64 0, .int .i64 0, .int .i64 0] 66)) := below_boxes1 _ _
  have hr := Below.refl (w.alloc (.cells #[.int .u8 0, .int .u64 0, .int .u64 0, .int .u64 0, .int .u64 0, .int .i64 0, .int .i64 0] 66)).heap.size (w.alloc (.cells #[.int .u8 0, .int .u64 0, .int .u64 0, .int .u64 0, .int .u64 0, .int .i64 0, .int .i64 0] 66))
  go_enter Tryz.func102, Tryz.ntmps102
  go_upto_region 1 with fail
  generalize w.alloc (.cells #[.int .u8 0, .int .u64 0, .int .u64 0, .int .u64 0, .int .u64 0, .int .i64 0, .int .i64 0] 66) = W at *
  go_wp2_with fail
  refine (rof_any n _).mono ?_
  rintro e w1 ⟨rfl, hc1⟩
  have hb1 : Below W.heap.size W w1 := hc1
  clear hc1
  go_wp2_with fail
  refine (rnum12_k n hn _).mono ?_
  rintro e w2 ⟨rfl, hc2⟩
  have hb2 := hb1.trans (hc2.mono hb1.size)
  clear hc2
  have z0 := b0 _ hb2
  have z1 := b1 _ hb2
  have z2 := b2 _ hb2
  have z3 := b3 _ hb2
  have z4 := b4 _ hb2
  have z5 := b5 _ hb2
  have z6 := b6 _ hb2
  go_wp2_with fail
  refine bodyPost_ret (v := .agg #[.int .u8 1, .int .u64 n, .int .u64 0, .int .u64 n, .int .u64 n, .int .i64 0, .int .i64 0]) (by simp [results, Tryz.results102, go_sem, *]) rfl ⟨rfl, ?_⟩
  (repeat (refine Below.setCell ?_ (by first | exact Nat.le_refl _ | exact Nat.le_succ _ | (simp; done) | (simp; omega)) _))
  exact hW0.trans (hb2.mono hW0.size)

set_option maxRecDepth 100000 in
theorem rnum14 (n : Int) (w : World) : Calls Tryz.prog 109 #[.agg #[.int .u8 1, .int .u64 n, .int .u64 0, .int .u64 n, .int .u64 n, .int .i64 0, .int .i64 0]] w fun e w' => e = .returned (.bool true) ∧ Below w.heap.size w w' := by
  go_enter Tryz.func109, Tryz.ntmps109
  go_wp2_with fail
  go_ret
  exact ⟨rfl, (Below.refl _ _).alloc (Nat.le_refl _) _⟩

set_option maxRecDepth 100000 in
theorem rval12_none  (w : World) : Calls Tryz.prog 97 #[.agg #[.int .u8 0, .int .u64 0, .int .u64 0, .int .u64 0, .int .u64 0, .int .i64 0, .int .i64 0]] w fun e w' => e = .returned (.bool true) ∧ Below w.heap.size w w' := by
  go_enter Tryz.func97, Tryz.ntmps97
  go_wp2_with fail
  go_ret
  refine ⟨rfl, ?_⟩
  (repeat (first | exact Below.refl _ _ | refine Below.setCell ?_ (by first | exact Nat.le_refl _ | exact Nat.le_succ _ | (simp; done) | (simp; omega)) _ | refine Below.alloc ?_ (by first | exact Nat.le_refl _ | exact Nat.le_succ _ | (simp; done) | (simp; omega)) _))

set_option maxRecDepth 100000 in
theorem rval12_ctx  (w : World) : Calls Tryz.prog 97 #[.agg #[.int .u8 2, .int .u64 0, .int .u64 0, .int .u64 0, .int .u64 0, .int .i64 0, .int .i64 0]] w fun e w' => e = .returned (.bool true) ∧ Below w.heap.size w w' := by
  go_enter Tryz.func97, Tryz.ntmps97
  go_wp2_with fail
  go_ret
  refine ⟨rfl, ?_⟩
  (repeat (first | exact Below.refl _ _ | refine Below.setCell ?_ (by first | exact Nat.le_refl _ | exact Nat.le_succ _ | (simp; done) | (simp; omega)) _ | refine Below.alloc ?_ (by first | exact Nat.le_refl _ | exact Nat.le_succ _ | (simp; done) | (simp; omega)) _))

set_option maxRecDepth 100000 in
theorem rval12_stk  (w : World) : Calls Tryz.prog 97 #[.agg #[.int .u8 3, .int .u64 0, .int .u64 0, .int .u64 0, .int .u64 0, .int .i64 0, .int .i64 512]] w fun e w' => e = .returned (.bool true) ∧ Below w.heap.size w w' := by
  go_enter Tryz.func97, Tryz.ntmps97
  go_wp2_with fail
  go_ret
  refine ⟨rfl, ?_⟩
  (repeat (first | exact Below.refl _ _ | refine Below.setCell ?_ (by first | exact Nat.le_refl _ | exact Nat.le_succ _ | (simp; done) | (simp; omega)) _ | refine Below.alloc ?_ (by first | exact Nat.le_refl _ | exact Nat.le_succ _ | (simp; done) | (simp; omega)) _))

set_option maxRecDepth 100000 in
theorem rval12_num (n : Int) (hn : U64 n) (w : World) : Calls Tryz.prog 97 #[.agg #[.int .u8 1, .int .u64 n, .int .u64 0, .int .u64 n, .int .u64 n, .int .i64 0, .int .i64 0]] w fun e w' => e = .returned (.bool true) ∧ Below w.heap.size w w' := by
  have hq := fun w => rfright_k n hn w
  have q0 : (w.alloc (.cells #[.int .u8 1, .int .u64 n, .int .u64 0, .int .u64 n, .int .u64 n, .int .i64 0, .int .i64 0] 66)).heap[w.heap.size]? = some (.cells #[.int .u8 1, .int .u64 n, .int .u64 0, .int .u64 n, .int .u64 n, .int .i64 0, .int .i64 0] 66) := heap1_0 _ _
  have a0 := boxc (k := 0) (u := .int .u8 1) q0 rfl
  have a1 := boxc (k := 1) (u := .int .u64 n) q0 rfl
  have a2 := boxc (k := 2) (u := .int .u64 0) q0 rfl
  have a3 := boxc (k := 3) (u := .int .u64 n) q0 rfl
  have a4 := boxc (k := 4) (u := .int .u64 n) q0 rfl
  have a5 := boxc (k := 5) (u := .int .i64 0) q0 rfl
  have a6 := boxc (k := 6) (u := .int .i64 0) q0 rfl
  clear q0
  have hW0 : Below w.heap.size w (w.alloc (.cells #[.int .u8 1, .int .u64 n, .int .u64 0, .int .u64 n, .int .u64 n, .int .i64 0, .int .i64 0] 66)) := below_boxes1 _ _
  have hr := Below.refl (w.alloc (.cells #[.int .u8 1, .int .u64 n, .int .u64 0, .int .u64 n, .int .u64 n, .int .i64 0, .int .i64 0] 66)).heap.size (w.alloc (.cells #[.int .u8 1, .int .u64 n, .int .u64 0, .int .u64 n, .int .u64 n, .int .i64 0, .int .i64 0] 66))
  go_enter Tryz.func97, Tryz.ntmps97
  go_upto_region 1 with fail
  generalize w.alloc (.cells #[.int .u8 1, .int .u64 n, .int .u64 0, .int .u64 n, .int .u64 n, .int .i64 0, .int .i64 0] 66) = W at *
  go_wp2_with fail
  refine (hq _).mono ?_
  rintro e w1 ⟨rfl, hc1⟩
  go_wp2_with fail
  go_ret
  exact ⟨rfl, (hW0.alloc hW0.size _).trans (hc1.mono (by simp; exact Nat.le_succ_of_le hW0.size))⟩

set_option maxRecDepth 100000 in
theorem rpointer12_num (n : Int) (hn : U64 n) (w : World) : Calls Tryz.prog 130 #[.agg #[.int .u8 1, .int .u64 n, .int .u64 0, .int .u64 n, .int .u64 n, .int .i64 0, .int .i64 0]] w fun e w' => e = .returned (.bool false) ∧ Below w.heap.size w w' := by
  have hq := fun w => rval12_num n hn w
  have q0 : (w.alloc (.cells #[.int .u8 1, .int .u64 n, .int .u64 0, .int .u64 n, .int .u64 n, .int .i64 0, .int .i64 0] 66)).heap[w.heap.size]? = some (.cells #[.int .u8 1, .int .u64 n, .int .u64 0, .int .u64 n, .int .u64 n, .int .i64 0, .int .i64 0] 66) := heap1_0 _ _
  have a0 := boxc (k := 0) (u := .int .u8 1) q0 rfl
  have a1 := boxc (k := 1) (u := .int .u64 n) q0 rfl
  have a2 := boxc (k := 2) (u := .int .u64 0) q0 rfl
  have a3 := boxc (k := 3) (u := .int .u64 n) q0 rfl
  have a4 := boxc (k := 4) (u := .int .u64 n) q0 rfl
  have a5 := boxc (k := 5) (u := .int .i64 0) q0 rfl
  have a6 := boxc (k := 6) (u := .int .i64 0) q0 rfl
  clear q0
  have hW0 : Below w.heap.size w (w.alloc (.cells #[.int .u8 1, .int .u64 n, .int .u64 0, .int .u64 n, .int .u64 n, .int .i64 0, .int .i64 0] 66)) := below_boxes1 _ _
  have hr := Below.refl (w.alloc (.cells #[.int .u8 1, .int .u64 n, .int .u64 0, .int .u64 n, .int .u64 n, .int .i64 0, .int .i64 0] 66)).heap.size (w.alloc (.cells #[.int .u8 1, .int .u64 n, .int .u64 0, .int .u64 n, .int .u64 n, .int .i64 0, .int .i64 0] 66))
  go_enter Tryz.func130, Tryz.ntmps130
  go_upto_region 1 with fail
  generalize w.alloc (.cells #[.int .u8 1, .int .u64 n, .int .u64 0, .int .u64 n, .int .u64 n, .int .i64 0, .int .i64 0] 66) = W at *
  go_wp2_with fail
  refine (hq _).mono ?_
  rintro e w1 ⟨rfl, hc1⟩
  have hb1 : Below W.heap.size W w1 := hc1
  clear hc1
  have A0 := a0 _ hb1
  have A1 := a1 _ hb1
  have A2 := a2 _ hb1
  have A3 := a3 _ hb1
  have A4 := a4 _ hb1
  have A5 := a5 _ hb1
  have A6 := a6 _ hb1
  go_wp2_with fail
  go_ret
  exact ⟨rfl, hW0.trans (hb1.mono hW0.size)⟩

set_option maxRecDepth 100000 in
theorem rcut64_any (n : Int) (w : World) : Calls Tryz.prog 81 #[.int .u64 n, .int .i64 64] w fun e w' => e = .returned (.int .u64 n) ∧ w' = w := by
  go_enter Tryz.func81, Tryz.ntmps81
  go_wp2_with fail
  go_ret
  exact ⟨rfl, rfl⟩

theorem info82 : (Tryz.prog.info? 92).map (·.size) = some 589 := by kernel_rfl
theorem zc82_one : Tryz.zeroCells92.all (·.oneCell') = true := by unfold Tryz.zeroCells92; decide +kernel
theorem storeZ82 (w : World) : (storeCells ⟨w.heap.size, 0, none⟩ Tryz.zeroCells92.toList 0).run Tryz.prog (w.alloc (.cells Tryz.zeroCells92 92)) = .ok () (w.alloc (.cells Tryz.zeroCells92 92)) :=
  run_storeCells_new w 92 _ _ (by rw [info82, Tryz.zeroCells92_size]) rfl zc82_one
abbrev Z7L : List Value := [.int .u8 0, .int .u64 0, .int .u64 0, .int .u64 0, .int .u64 0, .int .i64 0, .int .i64 0]
def restS : List Value := [.int .u8 2, .int .u64 0, .int .u64 0, .int .u64 0, .int .u64 0, .int .i64 0, .int .i64 0] ++ (List.replicate 8 Z7L).flatten ++ [.int .u8 3, .int .u64 0, .int .u64 0, .int .u64 0, .int .u64 0, .int .i64 0, .int .i64 512] ++ (List.replicate 64 [.int .u8 0, .int .u64 0, .int .u64 0, .int .u64 0, .int .u64 0, .int .i64 0, .int .i64 0, .int .u8 0]).flatten
/-- The cells of a state: what is known of r0; r1 the context, r10 the frame, no other thing set. -/
def SVl (r : List Value) : List Value := r ++ restS
theorem restS_len : restS.length = 582 := by decide +kernel
theorem restS_one : restS.all (·.oneCell') = true := by decide +kernel
theorem SVl_len {r : List Value} (h : r.length = 7) : (SVl r).length = 589 := by rw [SVl, List.length_append, h, restS_len]
theorem first_eq : (((((((((((((((Tryz.zeroCells92.setIfInBounds 7 (Value.int IntKind.u8 2)).setIfInBounds 8 (Value.int IntKind.u64 0)).setIfInBounds 9 (Value.int IntKind.u64 0)).setIfInBounds 10 (Value.int IntKind.u64 0)).setIfInBounds 11 (Value.int IntKind.u64 0)).setIfInBounds 12 (Value.int IntKind.i64 0)).setIfInBounds 13 (Value.int IntKind.i64 0)).setIfInBounds 70 (Value.int IntKind.u8 3)).setIfInBounds 71 (Value.int IntKind.u64 0)).setIfInBounds 72 (Value.int IntKind.u64 0)).setIfInBounds 73 (Value.int IntKind.u64 0)).setIfInBounds 74 (Value.int IntKind.u64 0)).setIfInBounds 75 (Value.int IntKind.i64 0)).setIfInBounds 76 (Value.int IntKind.i64 512))) = (SVl Z7L).toArray := by
  unfold Tryz.zeroCells92
  kernel_rfl
abbrev d82 : TypeDesc := .struct #[{ name := "Regs", type := 87, offset := 0, embedded := false, tag := "", pkgPath := "", byteOffset := 0 }, { name := "Slots", type := 90, offset := 77, embedded := false, tag := "", pkgPath := "", byteOffset := 616 }]
theorem und82 : Tryz.prog.underlying 92 = some d82 := by kernel_rfl
theorem below_setCells {B : Nat} {a : World} (b : Nat) (hb : B ≤ b) : ∀ (vs : List Value) (o : Nat) {w : World}, Below B a w → Below B a (w.setCells b o vs)
  | [], _, _, h => h
  | v :: r, o, w, h => by
    rw [World.setCells]
    exact below_setCells b hb r (o + 1) (h.setCell hb _)
theorem ld82 {op : Oper} {a : Act} {w : World} {K : Act → World → Prop} {Q : Exit → Act → World → Prop} (x : Operand) (ho : op.op = .load 92 x) (b o : Nat) (hx : a.eval x = .pointer (some ⟨b, o, none⟩)) (cs : List Value) (hc : w.rangeAt b o cs) (hn : cs.length = 589)
    (h : K (a.put op.dst (.agg cs.toArray)) w) : op.wp Tryz.prog a w K Q :=
  wp_load_mid 92 x ho b o hx cs d82 hc und82 rfl (by rw [info82, hn]) h
theorem store_mid {P : Program} {w : World} {b o : Nat} {xs : List Value} (ht : w.there b o xs.length) (h1 : ∀ v ∈ xs, v.oneCell' = true) : (storeCells ⟨b, o, none⟩ xs 0).run P w = .ok () (w.setCells b o xs) := by
  have := run_storeCells_cells (P := P) b o xs 0 w (fun j hj => by simpa using (ht j hj).1) (fun j hj => by simpa using (ht j hj).2) h1
  simpa using this
theorem results_cell {P : Program} {fn : Func} {tmps : Array Value} {i : Nat} {t : TypeId} {p : Addr} {v : Value} {V : World} (hr : fn.results = #[.cell i t]) (hp : tmps.getD i undef = .pointer (some p)) (hl : (loadVar t p).run P V = .ok v V) : (results fn tmps).run P V = .ok v V := by
  have hp' : tmps[i]?.getD undef = .pointer (some p) := by simpa using hp
  rw [results, hr]
  simp [Sem.run_bind, hp', hl, asAddr]
theorem restS_ones : ∀ v ∈ restS, v.oneCell' = true := fun v hv => List.all_eq_true.1 restS_one v hv
theorem range_of_block {w : World} {b : Nat} {xs : List Value} {t : TypeId} (h : w.heap[b]? = some (.cells xs.toArray t)) : w.rangeAt b 0 xs := fun j v hv => by
  rw [cell_of_row w b _ _ t (0, 0) h]; simpa using hv
theorem there_of_block {w : World} {b : Nat} {C : Array Value} {t : TypeId} (h : w.heap[b]? = some (.cells C t)) (n : Nat) (hn : C.size = n) : w.there b 0 n := fun j hj => by
  constructor
  · rw [cell_of_row w b _ _ t (0, 0) h]; simp; omega
  · exact frozen_of_row w b _ _ t h
set_option maxRecDepth 100000 in
set_option maxHeartbeats 2000000 in
theorem rfirst13 (w : World) : Calls Tryz.prog 16 #[] w fun e w' => e = .returned (.agg (SVl Z7L).toArray) ∧ Below w.heap.size w w' := by
  have hs : ∀ a, (storeCells ⟨w.heap.size + 1, 0, none⟩ Tryz.zeroCells92.toList 0).run Tryz.prog ((w.alloc a).alloc (.cells Tryz.zeroCells92 92)) = .ok () ((w.alloc a).alloc (.cells Tryz.zeroCells92 92)) := fun a => by
    have := storeZ82 (w.alloc a)
    rwa [show (w.alloc a).heap.size = w.heap.size + 1 by simp] at this
  go_enter Tryz.func16, Tryz.ntmps16
  go_upto_region 4 with fail
  rw [first_eq]
  clear hs
  have hA := SVl_len (r := Z7L) rfl
  have hA1 : ∀ v ∈ SVl Z7L, v.oneCell' = true := by intro v hv; rcases List.mem_append.1 hv with h | h; exact (by decide : ∀ v ∈ Z7L, v.oneCell' = true) v h; exact restS_ones v h
  generalize hA0 : SVl Z7L = A at hA hA1 ⊢
  have q0 : ((w.alloc (.cells Tryz.zeroCells92 92)).alloc (.cells A.toArray 92)).heap[w.heap.size]? = some (.cells Tryz.zeroCells92 92) := heap2_0 _ _ _
  have q1 : ((w.alloc (.cells Tryz.zeroCells92 92)).alloc (.cells A.toArray 92)).heap[w.heap.size + 1]? = some (.cells A.toArray 92) := heap2_1 _ _ _
  have hW0 : Below w.heap.size w ((w.alloc (.cells Tryz.zeroCells92 92)).alloc (.cells A.toArray 92)) := below_boxes2 _ _ _
  generalize (w.alloc (.cells Tryz.zeroCells92 92)).alloc (.cells A.toArray 92) = W at *
  have hst := store_mid (P := Tryz.prog) (w := W) (b := w.heap.size) (o := 0) (xs := A) (by rw [hA]; exact there_of_block q0 _ Tryz.zeroCells92_size) hA1
  go_wp2_with fail
  refine ld82 _ rfl (w.heap.size + 1) 0 rfl A (range_of_block q1) hA ?_
  go_wp2_with fail
  have hr := World.rangeAt_setCells_same W w.heap.size 0 A (by rw [hA]; exact there_of_block q0 _ Tryz.zeroCells92_size)
  have hb := below_setCells w.heap.size (Nat.le_refl _) A 0 hW0
  generalize W.setCells w.heap.size 0 A = V at *
  exact bodyPost_ret (v := .agg A.toArray) (results_cell Tryz.results16 rfl (run_loadVar_mid (P := Tryz.prog) V w.heap.size 0 92 A d82 hr und82 rfl (by rw [info82, hA]))) rfl ⟨by rw [hA0], hb⟩

end Go.Proofs.YtncogaikiceidaaGreat
end

section
/- The check of a state of the closed run. No statement is proved here. -/
namespace Go.Proofs.YtncogaikiceidaaGreat
open Go.RowKit
set_option linter.unusedSimpArgs false
set_option linter.unusedVariables false
set_option linter.unnecessarySimpa false
abbrev NumL (n : Int) : List Value := [.int .u8 1, .int .u64 n, .int .u64 0, .int .u64 n, .int .u64 n, .int .i64 0, .int .i64 0]
abbrev CtxL : List Value := [.int .u8 2, .int .u64 0, .int .u64 0, .int .u64 0, .int .u64 0, .int .i64 0, .int .i64 0]
abbrev StkL : List Value := [.int .u8 3, .int .u64 0, .int .u64 0, .int .u64 0, .int .u64 0, .int .i64 0, .int .i64 512]
/-- One of the values that a register of the closed run holds. -/
def ValOk (v : List Value) : Prop := v = Z7L ∨ v = CtxL ∨ v = StkL ∨ ∃ n, U64 n ∧ v = NumL n
theorem ValOk.get {v : List Value} (h : ValOk v) : ∃ v0 v1 v2 v3 v4 v5 v6, v = [v0, v1, v2, v3, v4, v5, v6] ∧ ∀ w, Calls Tryz.prog 97 #[.agg #[v0, v1, v2, v3, v4, v5, v6]] w fun e w' => e = .returned (.bool true) ∧ Below w.heap.size w w' := by
  rcases h with rfl | rfl | rfl | ⟨n, hn, rfl⟩
  · exact ⟨_, _, _, _, _, _, _, rfl, rval12_none⟩
  · exact ⟨_, _, _, _, _, _, _, rfl, rval12_ctx⟩
  · exact ⟨_, _, _, _, _, _, _, rfl, rval12_stk⟩
  · exact ⟨_, _, _, _, _, _, _, rfl, rval12_num n hn⟩
theorem seven {j : Nat} (h : j < 7) : j = 0 ∨ j = 1 ∨ j = 2 ∨ j = 3 ∨ j = 4 ∨ j = 5 ∨ j = 6 := by omega
theorem flat_at {α : Type} (xs : List α) {m : Nat} (hm : xs.length = m) : ∀ (n i j : Nat), i < n → j < m → ((List.replicate n xs).flatten)[m * i + j]? = xs[j]?
  | 0, i, _, h, _ => absurd h (by omega)
  | n + 1, 0, j, _, hj => by
    rw [List.replicate_succ, List.flatten_cons, List.getElem?_append_left (by omega)]; congr 1; omega
  | n + 1, i + 1, j, h, hj => by
    rw [List.replicate_succ, List.flatten_cons, List.getElem?_append_right (by rw [hm, Nat.mul_succ]; omega), hm, show m * (i + 1) + j - m = m * i + j by rw [Nat.mul_succ]; omega]
    exact flat_at xs hm n i j (by omega) hj
abbrev Z8L : List Value := [.int .u8 0, .int .u64 0, .int .u64 0, .int .u64 0, .int .u64 0, .int .i64 0, .int .i64 0, .int .u8 0]
end Go.Proofs.YtncogaikiceidaaGreat
end

section
/- Rows of hundreds of cells, and the way on, of the closed run. No statement is proved here. -/
namespace Go.Proofs.YtncogaikiceidaaGreat
open Go.RowKit
set_option linter.unusedSimpArgs false
set_option linter.unusedVariables false
set_option linter.unnecessarySimpa false
/-! ### Rows of hundreds of cells: never opened cell by cell -/
def ldRow (a : Addr) (n : Nat) : Sem (Array Value) := loadCells a n
theorem ldFrom_589 (a : Addr) : loadCellsFrom a 0 589 #[] = ldRow a 589 := rfl
theorem ldFrom_604 (a : Addr) : loadCellsFrom a 0 604 #[] = ldRow a 604 := rfl
theorem run_ldRow {P : Program} {w : World} {b o n : Nat} {cs : List Value} (h : w.rangeAt b o cs) (hn : cs.length = n) : (ldRow ⟨b, o, none⟩ n).run P w = .ok cs.toArray w := by
  have := run_loadCells_list (P := P) w ⟨b, o, none⟩ cs (fun j v hv => by rw [Addr.add_mid]; exact h j v hv)
  rw [hn] at this
  exact this
def PlacesOk (place : Nat → Option (Nat × Nat)) : Nat → Nat → List Value → Prop
  | _, _, [] => True
  | i, off, v :: vs => place i = some (off, v.cells.size) ∧ PlacesOk place (i + 1) (off + v.cells.size) vs
theorem fill_places (place : Nat → Option (Nat × Nat)) : ∀ (vs : List Value) (i0 off : Nat) (cells : Array Value), PlacesOk place i0 off vs → off + (vs.flatMap fun v => v.cells.toList).length ≤ cells.size →
    ∃ r, Instr.fill place cells ((vs.zipIdx i0).map fun x => (x.2, x.1)) = some r ∧ r.size = cells.size ∧ ∀ k, r[k]? = if off ≤ k ∧ k < off + (vs.flatMap fun v => v.cells.toList).length then (vs.flatMap fun v => v.cells.toList)[k - off]? else cells[k]?
  | [], i0, off, cells, _, _ => by
    refine ⟨cells, rfl, rfl, fun k => ?_⟩
    rw [if_neg (by simp)]
  | v :: vs, i0, off, cells, hp, hle => by
    obtain ⟨hp0, hp1⟩ := hp
    rw [List.flatMap_cons, List.length_append, Array.length_toList] at hle
    obtain ⟨g1, g2⟩ := Great.foldl_set off v.cells.toList 0 cells
    obtain ⟨r, hr, hsz, hk⟩ := fill_places place vs (i0 + 1) (off + v.cells.size) ((v.cells.toList.zipIdx 0).foldl (fun cs (x : Value × Nat) => cs.setIfInBounds (off + x.2) x.1) cells) hp1 (by rw [g1]; omega)
    refine ⟨r, ?_, by rw [hsz, g1], fun k => ?_⟩
    · simp only [List.zipIdx_cons, List.map_cons]
      unfold Instr.fill
      simp only [hp0]
      rw [if_neg (by simp; omega)]
      rw [← hr]
      congr 1
      rw [← Array.foldl_toList, Array.toList_zipIdx]
    · rw [hk k, g2 k]
      simp only [Nat.add_zero, Array.length_toList, List.flatMap_cons, List.length_append]
      by_cases hA : off + v.cells.size ≤ k ∧ k < off + v.cells.size + (vs.flatMap fun v => v.cells.toList).length
      · rw [if_pos hA, if_pos (by omega), List.getElem?_append_right (by simp; omega)]
        congr 1
        simp; omega
      · rw [if_neg hA]
        by_cases hB : off ≤ k ∧ k < off + v.cells.size
        · rw [if_pos (by omega), if_pos (by omega), List.getElem?_append_left (by simp; omega)]
        · rw [if_neg (by omega), if_neg (by omega)]
theorem fill_whole_places (place : Nat → Option (Nat × Nat)) (vs : List Value) (cells : Array Value) (hp : PlacesOk place 0 0 vs) (hn : (vs.flatMap fun v => v.cells.toList).length = cells.size) :
    Instr.fill place cells ((vs.zipIdx 0).map fun x => (x.2, x.1)) = some (vs.flatMap fun v => v.cells.toList).toArray := by
  obtain ⟨r, hr, hsz, hk⟩ := fill_places place vs 0 0 cells hp (by omega)
  rw [hr]
  congr 1
  apply Array.ext_getElem?
  intro k
  rw [hk k]
  by_cases h : k < (vs.flatMap fun v => v.cells.toList).length
  · rw [if_pos (by omega)]; simp
  · rw [if_neg (by omega), Array.getElem?_eq_none (by omega)]
    rw [List.getElem?_toArray, List.getElem?_eq_none (by omega)]
def mkS89 (parts : Array (Nat × Value)) : Sem Value := Instr.buildSlice 117 1 parts
theorem mkS89_eq (parts : Array (Nat × Value)) : Instr.buildSlice 117 1 parts = mkS89 parts := rfl
theorem info94 : (Tryz.prog.info? 122).map (fun i => (i.zero.map (·.cells.size), i.size)) = some (some 590, 590) := by kernel_rfl
theorem run_mkS89 (A : List Value) (hA : A.length = 590) (w : World) : (mkS89 #[(0, .agg A.toArray)]).run Tryz.prog w = .ok (.slice (some ⟨w.heap.size, 0, none⟩) 1 1) (w.alloc (.cells A.toArray 122)) := by
  cases hi : Tryz.prog.info? 122 with
  | none => have := info94; rw [hi] at this; cases this
  | some ie =>
    have h := info94
    rw [hi] at h
    simp only [Option.map_some, Option.some.injEq, Prod.mk.injEq] at h
    obtain ⟨hz, hs⟩ := h
    cases hzz : ie.zero with
    | none => rw [hzz] at hz; cases hz
    | some z =>
      rw [hzz] at hz
      simp only [Option.map_some, Option.some.injEq] at hz
      have hf := Great.fill_whole (s := 590) (by omega) [.agg A.toArray] ((Array.range (1 * 590)).map (z.cells[· % z.cells.size]!)) (fun v hv => by simp at hv; subst hv; simpa [Value.cells] using hA) (by simp)
      exact run_buildSlice w 117 122 1 #[(0, .agg A.toArray)] _ ie z Tryz.underlying117 hi hzz (by rw [hs]; omega) (by rw [hs]; omega) (by rw [hs]; simpa [Value.cells] using hf)
def mkW94 (parts : Array (Nat × Value)) : Sem Value := Instr.build 122 parts
theorem mkW94_eq (parts : Array (Nat × Value)) : Instr.build 122 parts = mkW94 parts := rfl
def mkW108 (parts : Array (Nat × Value)) : Sem Value := Instr.build 158 parts
theorem mkW108_eq (parts : Array (Nat × Value)) : Instr.build 158 parts = mkW108 parts := rfl
theorem run_mkW94 (n : Int) (S : List Value) (hS : S.length = 589) (w : World) : (mkW94 #[(0, .int .i64 n), (1, .agg S.toArray)]).run Tryz.prog w = .ok (.agg (.int .i64 n :: S).toArray) w := by
  have hf : Instr.fill (fun x => [(0, 1), (1, 589)][x]?) (Value.agg Tryz.zeroCells122).cells [(0, .int .i64 n), (1, .agg S.toArray)] = some (.int .i64 n :: S).toArray := by
    refine (fill_whole_places (fun x => [(0, 1), (1, 589)][x]?) [.int .i64 n, .agg S.toArray] _ (by simp [PlacesOk, Value.cells, hS]) ?_).trans ?_
    · show _ = Tryz.zeroCells122.size
      rw [Tryz.zeroCells122_size]; simp [Value.cells, hS]
    · simp [Value.cells]
  unfold mkW94 Instr.build
  simp [Sem.run_bind, Tryz.zeroValue122, Tryz.runUnderlying122, Tryz.sizeOf3, Tryz.sizeOf92, hf]
theorem run_mkW108 (a0 : Value) (b0 b1 : Value) (at' : Int) (x0 x1 x2 x3 x4 : Value) (w0 w1 w2 w3 w4 w5 : Value) (S : List Value) (hS : S.length = 589) (h0 : a0.cells = #[a0]) (w : World) :
    (mkW108 #[(0, a0), (1, .agg #[b0, b1]), (2, .int .i64 at'), (3, .agg #[x0, x1, x2, x3, x4]), (4, .agg #[w0, w1, w2, w3, w4, w5]), (5, .agg S.toArray)]).run Tryz.prog w = .ok (.agg (a0 :: b0 :: b1 :: .int .i64 at' :: x0 :: x1 :: x2 :: x3 :: x4 :: w0 :: w1 :: w2 :: w3 :: w4 :: w5 :: S).toArray) w := by
  have hf : Instr.fill (fun x => [(0, 1), (1, 2), (3, 1), (4, 5), (9, 6), (15, 589)][x]?) (Value.agg Tryz.zeroCells158).cells [(0, a0), (1, .agg #[b0, b1]), (2, .int .i64 at'), (3, .agg #[x0, x1, x2, x3, x4]), (4, .agg #[w0, w1, w2, w3, w4, w5]), (5, .agg S.toArray)] = some (a0 :: b0 :: b1 :: .int .i64 at' :: x0 :: x1 :: x2 :: x3 :: x4 :: w0 :: w1 :: w2 :: w3 :: w4 :: w5 :: S).toArray := by
    refine (fill_whole_places (fun x => [(0, 1), (1, 2), (3, 1), (4, 5), (9, 6), (15, 589)][x]?) [a0, .agg #[b0, b1], .int .i64 at', .agg #[x0, x1, x2, x3, x4], .agg #[w0, w1, w2, w3, w4, w5], .agg S.toArray] _ (by rw [PlacesOk, h0]; simp [PlacesOk, Value.cells, hS]) ?_).trans ?_
    · show _ = Tryz.zeroCells158.size
      rw [Tryz.zeroCells158_size, List.flatMap_cons, h0]; simp [Value.cells, hS]
    · rw [List.flatMap_cons, h0]; simp [Value.cells]
  unfold mkW108 Instr.build
  simp [Sem.run_bind, Tryz.zeroValue158, Tryz.runUnderlying158, Tryz.sizeOf3, Tryz.sizeOf24, Tryz.sizeOf38, Tryz.sizeOf27, Tryz.sizeOf73, Tryz.sizeOf92, hf]

attribute [local go_sem ↓] ldFrom_589 ldFrom_604 mkS89_eq mkW94_eq mkW108_eq
set_option maxRecDepth 100000 in
set_option maxHeartbeats 2000000 in
theorem ron14 (l : List Insn) (Ad : Option Addr) (c j : Nat) (hn : l.length ≤ 100000) (hj : j < l.length) (K S : List Value) (h0 : K[0]? = some (.slice Ad l.length c)) (h3 : K[3]? = some (.int .i64 j)) (hs : S.length = 589) (w : World) (hat : SAt w w.heap.size 5 Ad l.length (insnsV l)) :
    Calls Tryz.prog 129 #[.agg K.toArray, .agg S.toArray] w fun e w' => ∃ b, e = .returned (.tuple #[.slice (some ⟨b, 0, none⟩) 1 1, .int .i64 0]) ∧ w.heap.size ≤ b ∧ w'.rangeAt b 0 (.int .i64 (stepN l j : Nat) :: S) ∧ Below w.heap.size w w' := by
  have hnx := fun (w' : World) (hb : Below w.heap.size w w') => rnext_at l Ad c j hn hj w w' hat hb
  have q0 := heap2_0 w (.cells K.toArray 158) (.cells S.toArray 92)
  have q1 := heap2_1 w (.cells K.toArray 158) (.cells S.toArray 92)
  have k0 := boxc (k := 0) (u := .slice Ad l.length c) q0 (by simpa using h0)
  have k3 := boxc (k := 3) (u := .int .i64 j) q0 (by simpa using h3)
  have hc : ∀ w', Below ((w.alloc (.cells K.toArray 158)).alloc (.cells S.toArray 92)).heap.size ((w.alloc (.cells K.toArray 158)).alloc (.cells S.toArray 92)) w' → w'.rangeAt (w.heap.size + 1) 0 S := fun w' h => fun k u hu => by rw [Nat.zero_add]; exact boxc q1 (by simpa using hu) w' h
  clear q0 q1
  have hW0 : Below w.heap.size w ((w.alloc (.cells K.toArray 158)).alloc (.cells S.toArray 92)) := below_boxes2 _ _ _
  have hrf := Below.refl ((w.alloc (.cells K.toArray 158)).alloc (.cells S.toArray 92)).heap.size ((w.alloc (.cells K.toArray 158)).alloc (.cells S.toArray 92))
  go_enter Tryz.func129, Tryz.ntmps129
  go_upto_region 1 with fail
  generalize (w.alloc (.cells K.toArray 158)).alloc (.cells S.toArray 92) = W at *
  have hld : ∀ w', Below W.heap.size W w' → (ldRow ⟨w.heap.size + 1, 0, none⟩ 589).run Tryz.prog w' = .ok S.toArray w' := fun w' h => run_ldRow (hc w' h) hs
  have hmw := fun (n : Int) (w1 : World) => run_mkW94 n S hs w1
  have hms := fun (n : Int) (w1 : World) => run_mkS89 (.int .i64 n :: S) (by rw [List.length_cons, hs]) w1
  have hnW := fun (w' : World) (hb : Below W.heap.size W w') => hnx w' (hW0.trans (hb.mono hW0.size))
  clear hnx
  go_region_held3 (fun w' => Below W.heap.size W w') (first | assumption | exact sbelow_drew (by assumption) | exact sbelow_alloc (by assumption) (Nat.le_refl _))
    (first | (go_at_call 30; refine (hnW _ (by assumption)).mono ?_; rintro e w1 ⟨rfl, hc1⟩; have hS1 : Below W.heap.size W w1 := below_step (by assumption) (Nat.le_refl _) hc1))
  go_wp2_with fail
  go_ret2
  have hB := hW0.trans (hS1.mono hW0.size)
  exact ⟨w1.heap.size, rfl, hB.size, fun k u hu => by rw [Nat.zero_add]; exact boxc (heap1_0 w1 _) (by simpa using hu) _ (Below.refl _ _), hB.alloc hB.size _⟩

end Go.Proofs.YtncogaikiceidaaGreat
end

section
/- Readings of a walk of the closed run. No statement is proved here. -/
namespace Go.Proofs.YtncogaikiceidaaGreat
open Go.RowKit
set_option linter.unusedSimpArgs false
set_option linter.unusedVariables false
set_option linter.unnecessarySimpa false
attribute [local go_sem ↓] ldFrom_589 ldFrom_604 mkS89_eq mkW94_eq mkW108_eq

theorem field41_0 (k : IntKind) (n : Int) (c1 c2 c3 c4 c5 c6 : Value) (w : World) : (Instr.field 66 (.agg #[.int k n, c1, c2, c3, c4, c5, c6]) 0).run Tryz.prog w = .ok (.int k n) w := by
  unfold Instr.field
  simp [Sem.run_bind, Tryz.runUnderlying66, asAgg, go_sem]
theorem field55_3 (c0 c1 c2 : Value) (A : Option Addr) (n c : Nat) (w : World) : (Instr.field 34 (.agg #[c0, c1, c2, .slice A n c]) 3).run Tryz.prog w = .ok (.slice A n c) w := by
  unfold Instr.field
  simp [Sem.run_bind, Tryz.runUnderlying34, asAgg, go_sem]
attribute [local go_sem ↓] ldFrom_589 ldFrom_604 mkS89_eq mkW94_eq mkW108_eq
end Go.Proofs.YtncogaikiceidaaGreat
end

section
/- The arithmetic of a walk of the closed run, and what it becomes. No statement is proved here. -/
namespace Go.Proofs.YtncogaikiceidaaGreat
open Go.RowKit
set_option linter.unusedSimpArgs false
set_option linter.unusedVariables false
set_option linter.unnecessarySimpa false
attribute [local go_sem ↓] ldFrom_589 ldFrom_604 mkS89_eq mkW94_eq mkW108_eq
theorem range_put {W : World} {b : Nat} {A B C vs : List Value} (h : W.rangeAt b 0 (A ++ (B ++ C))) (hl : vs.length = B.length) : (W.setCells b A.length vs).rangeAt b 0 (A ++ (vs ++ C)) := by
  intro k u hu
  rw [Nat.zero_add]
  by_cases h1 : k < A.length
  · rw [List.getElem?_append_left h1] at hu
    rw [World.cell?_setCells_out b vs _ W _ (fun _ _ => .inl h1)]
    have := h k u (by rw [List.getElem?_append_left h1]; exact hu)
    rwa [Nat.zero_add] at this
  · rw [List.getElem?_append_right (by omega)] at hu
    by_cases h2 : k - A.length < vs.length
    · rw [List.getElem?_append_left h2] at hu
      have := World.cell?_setCells_in b vs A.length W (fun i hi => by
        have hg : (A ++ (B ++ C))[A.length + i]? = some (B[i]'(by omega)) := by
          rw [List.getElem?_append_right (by omega), show A.length + i - A.length = i by omega, List.getElem?_append_left (by omega), List.getElem?_eq_getElem]
        have := h _ _ hg
        rw [Nat.zero_add] at this
        rw [this]; rfl) (k - A.length) h2
      rw [show A.length + (k - A.length) = k by omega] at this
      rw [this, ← hu, List.getElem?_eq_getElem h2]
    · rw [List.getElem?_append_right (by omega)] at hu
      rw [World.cell?_setCells_out b vs _ W _ (fun _ _ => .inr (by show A.length + vs.length ≤ k; omega))]
      have := h k u (by rw [List.getElem?_append_right (by omega), List.getElem?_append_right (by omega), ← hl]; exact hu)
      rwa [Nat.zero_add] at this
theorem range_drop {W : World} {b : Nat} {A S : List Value} (h : W.rangeAt b 0 (A ++ S)) : W.rangeAt b A.length S := fun k u hu => by
  have := h (A.length + k) u (by rw [List.getElem?_append_right (by omega), show A.length + k - A.length = k by omega]; exact hu)
  rwa [Nat.zero_add] at this

attribute [local go_sem ↓] ldFrom_589 ldFrom_604 mkS89_eq mkW94_eq mkW108_eq
end Go.Proofs.YtncogaikiceidaaGreat
end

section
/- The steps of a walk of the closed run. No statement is proved here. -/
namespace Go.Proofs.YtncogaikiceidaaGreat
open Go.RowKit
set_option linter.unusedSimpArgs false
set_option linter.unusedVariables false
set_option linter.unnecessarySimpa false
attribute [local go_sem ↓] ldFrom_589 ldFrom_604 mkS89_eq mkW94_eq mkW108_eq
end Go.Proofs.YtncogaikiceidaaGreat
end
end
section
section
/- The step of a walk at the three places of the closed run. No statement is proved here. -/
namespace Go.Proofs.YtncogaikiceidaaGreat
open Go.RowKit
set_option linter.unusedSimpArgs false
set_option linter.unusedVariables false
set_option linter.unnecessarySimpa false
set_option maxRecDepth 100000 in
theorem rdefs9_nil (w : World) : Calls Tryz.prog 34 #[.slice none 0 0] w fun e w' => e = .returned (.bool true) ∧ Below w.heap.size w w' := by
  go_enter Tryz.func34, Tryz.ntmps34
  go_wp2_with fail
  go_loopw [3] (fun k wr => k = .int .i64 0 ∧ wr = w) (fun k _ => 0)
  case atStart => exact ⟨rfl, rfl⟩
  case round =>
    obtain ⟨rfl, rfl⟩ := hrel
    go_wp2_with fail
    go_ret
    exact ⟨rfl, Below.refl _ _⟩
set_option maxRecDepth 100000 in
theorem rgiven14 (w : World) : Calls Tryz.prog 13 #[.agg #[.slice none 0 0, .int .i64 0]] w fun e w' => e = .returned (.bool true) ∧ Below w.heap.size w w' := by
  have q0 := heap1_0 w (.cells #[.slice none 0 0, .int .i64 0] 38)
  have k0 := boxc (k := 0) (u := .slice none 0 0) q0 rfl
  have k1 := boxc (k := 1) (u := .int .i64 0) q0 rfl
  clear q0
  have hW0 : Below w.heap.size w (w.alloc (.cells #[.slice none 0 0, .int .i64 0] 38)) := below_boxes1 _ _
  have hrf := Below.refl (w.alloc (.cells #[.slice none 0 0, .int .i64 0] 38)).heap.size (w.alloc (.cells #[.slice none 0 0, .int .i64 0] 38))
  go_enter Tryz.func13, Tryz.ntmps13
  go_upto_region 1 with fail
  generalize w.alloc (.cells #[.slice none 0 0, .int .i64 0] 38) = W at *
  go_wp2_with fail
  refine (rdefs9_nil _).mono ?_
  rintro e w1 ⟨rfl, hb1⟩
  have A1 := k1 _ hb1
  go_wp2_with fail
  go_ret
  exact ⟨rfl, hW0.trans (hb1.mono hW0.size)⟩

theorem info108 : (Tryz.prog.info? 158).map (·.size) = some 604 := by kernel_rfl
/-- The program of the closed run. -/
def P3 : List Insn := [⟨183, 0, 0, 0, 5⟩, ⟨7, 0, 0, 0, 2⟩, ⟨149, 0, 0, 0, 0⟩]
theorem P3_ok : ∀ x ∈ P3, x.Ok := by
  intro x hx
  simp only [P3, List.mem_cons, List.not_mem_nil, or_false] at hx
  rcases hx with rfl | rfl | rfl <;> constructor <;> decide
theorem rsem_P3_2 (w : World) : Calls Tryz.prog 11 #[.agg #[.int .u8 149, .int .u8 0, .int .u8 0, .int .i16 0, .int .i32 0]] w fun e w' => e = .returned (.tuple #[.agg #[.int .u8 12, .int .u8 0, .bool false, .bool false, .bool false, .int .i64 0], .bool true]) ∧ Below w.heap.size w w' := by
  have := rsem_any (⟨149, 0, 0, 0, 0⟩ : Insn) (P3_ok _ (by decide)) w
  rw [show sem (⟨149, 0, 0, 0, 0⟩ : Insn) = ((⟨12, 0, false, false, false, 0⟩ : What), true) by decide +kernel] at this
  exact this
theorem store_new108 (w : World) (K : List Value) (hn : K.length = 604) (h1 : ∀ v ∈ K, v.oneCell' = true) : (storeCells ⟨w.heap.size, 0, none⟩ K 0).run Tryz.prog (w.alloc (.cells Tryz.zeroCells158 158)) = .ok () (w.alloc (.cells K.toArray 158)) := by
  have := run_storeCells_new (P := Tryz.prog) w 158 Tryz.zeroCells158 K.toArray (by rw [info108]; simp [hn]) (by rw [Tryz.zeroCells158_size]; simp [hn]) (all_oneCell_toArray h1)
  simpa using this

attribute [local go_sem ↓] ldFrom_589 ldFrom_604 mkS89_eq mkW94_eq mkW108_eq
end Go.Proofs.YtncogaikiceidaaGreat
end

section
/- What a way of the closed run tells; the look's frame. No statement is proved here. -/
namespace Go.Proofs.YtncogaikiceidaaGreat
open Go.RowKit
set_option linter.unusedSimpArgs false
set_option linter.unusedVariables false
set_option linter.unnecessarySimpa false
attribute [local go_sem ↓] ldFrom_589 ldFrom_604 mkS89_eq mkW94_eq mkW108_eq
abbrev lookL (Ad : Option Addr) (c Jb Jo cj : Nat) (kp : Value) (N : Nat) (steps : Int) : List Value := [.slice Ad 3 c, .slice none 0 0, .int .i64 0, .slice (some ⟨Jb, Jo, none⟩) 3 cj, kp, .int .i64 0, .int .i64 0, .int .i64 steps, .slice (some ⟨N, 0, none⟩) 3 3]
/-- What the look of the closed run holds: its block L, the notes' block N behind it, the program, no joint. -/
structure LookOk (w : World) (Ad : Option Addr) (c Jb Jo cj : Nat) (kp : Value) (L N : Nat) (steps : Int) (notes : List Value) : Prop where
  ln : L < N
  nw : N < w.heap.size
  look : w.rangeAt L 0 (lookL Ad c Jb Jo cj kp N steps)
  lookF : ∀ k, w.frozen? ⟨L, k, none⟩ = false
  nts : w.rangeAt N 0 notes
  ntsF : ∀ k, w.frozen? ⟨N, k, none⟩ = false
  hat : SAt w L 5 Ad 3 (insnsV P3)
  jlt : Jb < L
  joint : ∀ k, k < 3 → w.cell? ⟨Jb, Jo + k, none⟩ = some (.bool false)
section
variable {w Y : World} {Ad : Option Addr} {c Jb Jo cj : Nat} {kp : Value} {L N : Nat} {steps : Int} {notes A B C : List Value}
theorem range_below {b : Nat} {cs : List Value} {D : Nat} (h : w.rangeAt b 0 cs) (hb : Below D w Y) (hlt : b < D) : Y.rangeAt b 0 cs := fun k u hu => by
  rw [hb.cell (p := ⟨b, 0 + k, none⟩) hlt]; exact h k u hu
theorem LookOk.ls (h : LookOk w Ad c Jb Jo cj kp L N steps notes) : L < w.heap.size := Nat.lt_trans h.ln h.nw
theorem LookOk.js (h : LookOk w Ad c Jb Jo cj kp L N steps notes) : Jb < w.heap.size := Nat.lt_trans h.jlt h.ls
theorem LookOk.below (h : LookOk w Ad c Jb Jo cj kp L N steps notes) (hb : Below w.heap.size w Y) : LookOk Y Ad c Jb Jo cj kp L N steps notes where
  ln := h.ln
  nw := Nat.lt_of_lt_of_le h.nw hb.size
  look := range_below h.look hb h.ls
  lookF := fun k => (hb.frozen (p := ⟨L, k, none⟩) h.ls).trans (h.lookF k)
  nts := range_below h.nts hb h.nw
  ntsF := fun k => (hb.frozen (p := ⟨N, k, none⟩) h.nw).trans (h.ntsF k)
  hat := h.hat.below (hb.mono (Nat.le_of_lt h.ls))
  jlt := h.jlt
  joint := fun k hk => (hb.cell (p := ⟨Jb, Jo + k, none⟩) h.js).trans (h.joint k hk)
theorem LookOk.put (h : LookOk w Ad c Jb Jo cj kp L N steps (A ++ (B ++ C))) (hb : Below w.heap.size w Y) (vs : List Value) (hl : vs.length = B.length) :
    LookOk (Y.setCells N A.length vs) Ad c Jb Jo cj kp L N steps (A ++ (vs ++ C)) ∧ Below L w (Y.setCells N A.length vs) := by
  have h1 := h.below hb
  have hbL : Below L w (Y.setCells N A.length vs) := below_setCells N (Nat.le_of_lt h.ln) vs _ (hb.mono (Nat.le_of_lt h.ls))
  refine ⟨⟨h.ln, ?_, World.rangeAt_setCells_apart h1.look _ _ _ (.inl (by have := h.ln; omega)), fun k => by rw [World.frozen?_setCells]; exact h1.lookF k, range_put h1.nts hl, fun k => by rw [World.frozen?_setCells]; exact h1.ntsF k, h.hat.below hbL, h.jlt, fun k hk => by rw [hbL.cell (p := ⟨Jb, Jo + k, none⟩) h.jlt]; exact h.joint k hk⟩, hbL⟩
  exact Nat.lt_of_lt_of_le h1.nw (below_setCells (B := 0) (a := Y) N (Nat.zero_le _) vs _ (Below.refl _ _)).size
theorem LookOk.count (h : LookOk w Ad c Jb Jo cj kp L N steps notes) (hb : Below w.heap.size w Y) (t : Int) :
    LookOk (Y.setCell ⟨L, 7, none⟩ (.int .i64 t)) Ad c Jb Jo cj kp L N t notes ∧ Below L w (Y.setCell ⟨L, 7, none⟩ (.int .i64 t)) := by
  have h1 := h.below hb
  have hbL : Below L w (Y.setCell ⟨L, 7, none⟩ (.int .i64 t)) := Below.setCell (hb.mono (Nat.le_of_lt h.ls)) (Nat.le_refl _) _
  have e : Y.setCell ⟨L, 7, none⟩ (.int .i64 t) = Y.setCells L 7 [.int .i64 t] := rfl
  refine ⟨⟨h.ln, ?_, ?_, fun k => by rw [e, World.frozen?_setCells]; exact h1.lookF k, ?_, fun k => by rw [e, World.frozen?_setCells]; exact h1.ntsF k, h.hat.below hbL, h.jlt, fun k hk => by rw [hbL.cell (p := ⟨Jb, Jo + k, none⟩) h.jlt]; exact h.joint k hk⟩, hbL⟩
  · rw [e]; exact Nat.lt_of_lt_of_le h1.nw (below_setCells (B := 0) (a := Y) L (Nat.zero_le _) _ _ (Below.refl _ _)).size
  · rw [e]
    have := range_put (W := Y) (b := L) (A := [.slice Ad 3 c, .slice none 0 0, .int .i64 0, .slice (some ⟨Jb, Jo, none⟩) 3 cj, kp, .int .i64 0, .int .i64 0]) (B := [.int .i64 steps]) (C := [.slice (some ⟨N, 0, none⟩) 3 3]) (vs := [.int .i64 t]) h1.look rfl
    exact this
  · rw [e]; exact World.rangeAt_setCells_apart h1.nts _ _ _ (.inl (by have := h.ln; omega))
end

end Go.Proofs.YtncogaikiceidaaGreat
end

section
/- What the look of the closed run notes. No statement is proved here. -/
namespace Go.Proofs.YtncogaikiceidaaGreat
open Go.RowKit
set_option linter.unusedSimpArgs false
set_option linter.unusedVariables false
set_option linter.unnecessarySimpa false
attribute [local go_sem ↓] ldFrom_589 ldFrom_604 mkS89_eq mkW94_eq mkW108_eq
theorem drew_heap (w : World) : w.drew.heap = w.heap := rfl
theorem heap_put_other (w : World) (g : Nat) (o : Nat) (vs : List Value) {i : Nat} (hi : i < w.heap.size) (hne : i ≠ g) : (w.setCells g o vs).heap[i]? = w.heap[i]? := World.heap_setCells_other w g o vs hi hne
end Go.Proofs.YtncogaikiceidaaGreat
end

section
/- The look of the closed run, at its three places. No statement is proved here. -/
namespace Go.Proofs.YtncogaikiceidaaGreat
open Go.RowKit
set_option linter.unusedSimpArgs false
set_option linter.unusedVariables false
set_option linter.unnecessarySimpa false
def KeepLN (L N : Nat) (w w' : World) : Prop := w.heap.size ≤ w'.heap.size ∧ ∀ k, k < w.heap.size → k ≠ L → k ≠ N → w'.heap[k]? = w.heap[k]?
section
variable {L N : Nat} {a b c : World}
theorem KeepLN.refl : KeepLN L N a a := ⟨Nat.le_refl _, fun _ _ _ _ => rfl⟩
theorem KeepLN.trans (h : KeepLN L N a b) (k : KeepLN L N b c) : KeepLN L N a c := ⟨Nat.le_trans h.1 k.1, fun i hi h1 h2 => (k.2 i (Nat.lt_of_lt_of_le hi h.1) h1 h2).trans (h.2 i hi h1 h2)⟩
theorem KeepLN.of (h : Below a.heap.size a b) : KeepLN L N a b := ⟨h.size, fun k hk _ _ => h.block k hk⟩
theorem KeepLN.drew (h : KeepLN L N a b) : KeepLN L N a b.drew := h
theorem KeepLN.cell (h : KeepLN L N a b) {g o : Nat} (hg : g < a.heap.size) (h1 : g ≠ L) (h2 : g ≠ N) : b.cell? ⟨g, o, none⟩ = a.cell? ⟨g, o, none⟩ := by
  simp only [World.cell?, h.2 g hg h1 h2]
end

attribute [local go_sem ↓] ldFrom_589 ldFrom_604 mkS89_eq mkW94_eq mkW108_eq
/-- What a look leaves behind. -/
def AtOk (Ad : Option Addr) (c Jb Jo cj : Nat) (kp : Value) (L N : Nat) (w w' : World) : Prop := LookOk w' Ad c Jb Jo cj kp L N 3 [.bool true, .bool false, .bool false, .int .u8 1, .int .u64 5, .int .u64 0, .int .u64 5, .int .u64 5, .int .i64 0, .int .i64 0, .bool true, .bool false, .bool false, .int .u8 1, .int .u64 7, .int .u64 0, .int .u64 7, .int .u64 7, .int .i64 0, .int .i64 0, .bool true, .bool false, .bool false, .int .u8 0, .int .u64 0, .int .u64 0, .int .u64 0, .int .u64 0, .int .i64 0, .int .i64 0] ∧ Below L w w' ∧ KeepLN L N w w'
theorem keep_note {L N : Nat} {w w' : World} (h : Below L w w') (ho : ∀ k, k < w.heap.size → k ≠ N → w'.heap[k]? = w.heap[k]?) : KeepLN L N w w' := ⟨h.size, fun k hk _ hn => ho k hk hn⟩
end Go.Proofs.YtncogaikiceidaaGreat
end

section
/- The joints of the closed run; what is made of three. No statement is proved here. -/
namespace Go.Proofs.YtncogaikiceidaaGreat
open Go.RowKit
set_option linter.unusedSimpArgs false
set_option linter.unusedVariables false
set_option linter.unnecessarySimpa false
theorem info95' : (Tryz.prog.info? 123).map (fun i => (i.zero, i.size, i.bytes)) = some (some (.slice none 0 0), 1, 24) := by kernel_rfl
theorem info43' : (Tryz.prog.info? 68).map (fun i => (i.zero, i.size, i.bytes)) = some (some (.agg #[.bool false, .bool false, .bool false, .int .u8 0, .int .u64 0, .int .u64 0, .int .u64 0, .int .u64 0, .int .i64 0, .int .i64 0]), 10, 64) := by kernel_rfl
end Go.Proofs.YtncogaikiceidaaGreat
end

section
/- The reference's Program on the program of the closed run. No statement is proved here. -/
namespace Go.Proofs.YtncogaikiceidaaGreat
open Go.RowKit
set_option linter.unusedSimpArgs false
set_option linter.unusedVariables false
set_option linter.unnecessarySimpa false
theorem size_put (w : World) (g o : Nat) (vs : List Value) : (w.setCells g o vs).heap.size = w.heap.size := by
  induction vs generalizing w o with
  | nil => rfl
  | cons v r ih => rw [World.setCells, ih]; simp
theorem info55 : (Tryz.prog.info? 34).map (·.size) = some 4 := by kernel_rfl
end Go.Proofs.YtncogaikiceidaaGreat
end
end
