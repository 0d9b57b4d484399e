/- What is known of a number whose bits are known, by the program and by the reference. No statement is proved here. -/
import Derived.Test.YtncogaikiceidaaGreatInsn5
import Derived.Deep.CutRange
import Derived.Deep.RegionHeld3
import Derived.Lib.Hide
import Derived.Deep.QuietTactic
import Derived.BigQuiet

section
/- What is known of a number whose bits are known, by the program. No statement is proved here. -/
namespace Go.Proofs.YtncogaikiceidaaGreat
open Go.RowKit
set_option linter.unusedSimpArgs false
set_option linter.unusedVariables false
set_option linter.unnecessarySimpa false
theorem boxc {W : World} {g k : Nat} {cs : Array Value} {t : TypeId} {u : Value} (h : W.heap[g]? = some (.cells cs t)) (hu : cs[k]? = some u) : ∀ w', Below W.heap.size W w' → w'.cell? ⟨g, k, none⟩ = some u := by
  intro w' hb
  rw [hb.cell (p := ⟨g, k, none⟩) (Array.getElem?_eq_some_iff.1 h).1, cell_of_row W g k cs t (0, 0) h, hu]
theorem boxt {W : World} {g : Nat} {cs : Array Value} {t : TypeId} (h : W.heap[g]? = some (.cells cs t)) : ∀ (k : Nat) w', Below W.heap.size W w' → w'.frozen? ⟨g, k, none⟩ = false := by
  intro k w' hb
  rw [hb.frozen (p := ⟨g, k, none⟩) (Array.getElem?_eq_some_iff.1 h).1]
  exact frozen_of_row W g k cs t h
theorem below_boxes1 (w : World) (a : Obj) : Below w.heap.size w (w.alloc a) := (Below.refl _ _).alloc (Nat.le_refl _) _
theorem below_boxes2 (w : World) (a b : Obj) : Below w.heap.size w ((w.alloc a).alloc b) := (below_boxes1 w a).alloc (by simp) _
theorem below_boxes3 (w : World) (a b c : Obj) : Below w.heap.size w (((w.alloc a).alloc b).alloc c) := (below_boxes2 w a b).alloc (by simp; omega) _
theorem below_boxes4 (w : World) (a b c d : Obj) : Below w.heap.size w ((((w.alloc a).alloc b).alloc c).alloc d) := (below_boxes3 w a b c).alloc (by simp; omega) _
theorem blk_lt (w : World) (o : Obj) (k : Nat) (h : k < w.heap.size) : (w.alloc o).heap[k]? = w.heap[k]? := by
  show (w.heap.push o)[k]? = _
  rw [Array.getElem?_push, if_neg (by omega)]
theorem heap1_0 (w : World) (a : Obj) : (w.alloc a).heap[w.heap.size]? = some a := heap_alloc_new w a
theorem heap2_0 (w : World) (a b : Obj) : ((w.alloc a).alloc b).heap[w.heap.size]? = some a := by rw [blk_lt _ _ _ (by simp)]; exact heap1_0 w a
theorem heap2_1 (w : World) (a b : Obj) : ((w.alloc a).alloc b).heap[w.heap.size + 1]? = some b := by have := heap_alloc_new (w.alloc a) b; simpa using this
theorem heap3_0 (w : World) (a b c : Obj) : (((w.alloc a).alloc b).alloc c).heap[w.heap.size]? = some a := by rw [blk_lt _ _ _ (by simp; try omega)]; exact heap2_0 w a b
theorem heap3_1 (w : World) (a b c : Obj) : (((w.alloc a).alloc b).alloc c).heap[w.heap.size + 1]? = some b := by rw [blk_lt _ _ _ (by simp)]; exact heap2_1 w a b
theorem heap3_2 (w : World) (a b c : Obj) : (((w.alloc a).alloc b).alloc c).heap[w.heap.size + 2]? = some c := by have := heap_alloc_new ((w.alloc a).alloc b) c; simpa using this
theorem heap4_0 (w : World) (a b c d : Obj) : ((((w.alloc a).alloc b).alloc c).alloc d).heap[w.heap.size]? = some a := by rw [blk_lt _ _ _ (by simp; try omega)]; exact heap3_0 w a b c
theorem heap4_1 (w : World) (a b c d : Obj) : ((((w.alloc a).alloc b).alloc c).alloc d).heap[w.heap.size + 1]? = some b := by rw [blk_lt _ _ _ (by simp; try omega)]; exact heap3_1 w a b c
theorem heap4_2 (w : World) (a b c d : Obj) : ((((w.alloc a).alloc b).alloc c).alloc d).heap[w.heap.size + 2]? = some c := by rw [blk_lt _ _ _ (by simp)]; exact heap3_2 w a b c
theorem heap4_3 (w : World) (a b c d : Obj) : ((((w.alloc a).alloc b).alloc c).alloc d).heap[w.heap.size + 3]? = some d := by have := heap_alloc_new (((w.alloc a).alloc b).alloc c) d; simpa using this
/-- A number of 64 bits. -/
def U64 (n : Int) : Prop := 0 ≤ n ∧ n ≤ 18446744073709551615
section
variable {v : Int}
theorem and_0 (hv : U64 v) : bits .and .u64 v 0 = 0 := by rw [u64_and _ _ hv.1 (by have := hv.2; omega) (by omega) (by omega)]; simp
theorem or_0 (hv : U64 v) : bits .or .u64 v 0 = v := by rw [u64_or _ _ hv.1 (by have := hv.2; omega) (by omega) (by omega)]; simp; exact Int.max_eq_left hv.1
theorem or_same (hv : U64 v) : bits .or .u64 v v = v := by rw [u64_or _ _ hv.1 (by have := hv.2; omega) hv.1 (by have := hv.2; omega)]; simp; exact Int.max_eq_left hv.1
theorem xor_same (hv : U64 v) : bits .xor .u64 v v = 0 := by rw [u64_xor _ _ hv.1 (by have := hv.2; omega) hv.1 (by have := hv.2; omega)]; simp
theorem andNot_0 (hv : U64 v) : bits .andNot .u64 v 0 = v := by
  rw [u64_andNot _ _ hv.1 (by have := hv.2; omega) (by omega) (by omega)]
  have h : v.toNat &&& (18446744073709551615 - (0 : Int).toNat) = v.toNat := by
    have := Nat.and_two_pow_sub_one_eq_mod v.toNat 64
    rw [show (18446744073709551615 - (0 : Int).toNat) = 2 ^ 64 - 1 by decide, this, Nat.mod_eq_of_lt]
    have := hv.1; have := hv.2; omega
  rw [h]
  exact Int.toNat_of_nonneg hv.1
end
set_option maxRecDepth 100000 in
theorem tright_0 (v : Int) (hv : U64 v) (w : World) : Calls Tryz.prog 149 #[.agg #[.int .u64 v, .int .u64 0]] w fun e w' => e = .returned (.bool true) ∧ Below w.heap.size w w' := by
  have e := and_0 hv
  go_enter Tryz.func149, Tryz.ntmps149
  go_wp2_with fail
  go_ret
  exact ⟨rfl, (Below.refl _ _).alloc (Nat.le_refl _) _⟩
set_option maxRecDepth 100000 in
theorem sright_any (a b : Int) (w : World) : Calls Tryz.prog 150 #[.agg #[.int .u64 a, .int .u64 b]] w fun e w' => e = .returned (.bool (decide (a ≤ b))) ∧ Below w.heap.size w w' := by
  go_enter Tryz.func150, Tryz.ntmps150
  go_wp2_with fail
  go_ret
  exact ⟨rfl, (Below.refl _ _).alloc (Nat.le_refl _) _⟩
set_option maxRecDepth 100000 in
theorem tmade_0 (v : Int) (hv : U64 v) (w : World) : Calls Tryz.prog 173 #[.int .u64 v, .int .u64 0] w fun e w' => e = .returned (.agg #[.int .u64 v, .int .u64 0]) ∧ Below w.heap.size w w' := by
  have e := andNot_0 hv
  go_enter Tryz.func173, Tryz.ntmps173
  go_wp2_with fail
  exact bodyPost_ret (v := .agg #[.int .u64 v, .int .u64 0]) (by simp [results, Tryz.results173, go_sem]) rfl ⟨rfl, (Below.refl _ _).alloc (Nat.le_refl _) _⟩
set_option maxRecDepth 100000 in
theorem len64_0 (w : World) : Calls Tryz.prog 174 #[.int .u64 0] w fun e w' => e = .returned (.int .i64 0) ∧ w' = w := by
  go_enter Tryz.func174, Tryz.ntmps174
  go_wp2_with fail
  go_ret
  exact ⟨by kernel_rfl, rfl⟩
set_option maxRecDepth 100000 in
theorem tboth_0 (v u : Int) (hv : U64 v) (hu : U64 u) (w : World) : Calls Tryz.prog 172 #[.agg #[.int .u64 v, .int .u64 0], .agg #[.int .u64 u, .int .u64 0]] w fun e w' => e = .returned (.bool true) ∧ Below w.heap.size w w' := by
  have q0 : ((w.alloc (.cells #[.int .u64 v, .int .u64 0] 60)).alloc (.cells #[.int .u64 u, .int .u64 0] 60)).heap[w.heap.size]? = some (.cells #[.int .u64 v, .int .u64 0] 60) := heap2_0 _ _ _
  have a0 := boxc (k := 0) (u := .int .u64 v) q0 rfl
  have a1 := boxc (k := 1) (u := .int .u64 0) q0 rfl
  clear q0
  have q1 : ((w.alloc (.cells #[.int .u64 v, .int .u64 0] 60)).alloc (.cells #[.int .u64 u, .int .u64 0] 60)).heap[(w.heap.size + 1)]? = some (.cells #[.int .u64 u, .int .u64 0] 60) := heap2_1 _ _ _
  have b0 := boxc (k := 0) (u := .int .u64 u) q1 rfl
  have b1 := boxc (k := 1) (u := .int .u64 0) q1 rfl
  clear q1
  have hW0 : Below w.heap.size w ((w.alloc (.cells #[.int .u64 v, .int .u64 0] 60)).alloc (.cells #[.int .u64 u, .int .u64 0] 60)) := below_boxes2 _ _ _
  have hr := Below.refl ((w.alloc (.cells #[.int .u64 v, .int .u64 0] 60)).alloc (.cells #[.int .u64 u, .int .u64 0] 60)).heap.size ((w.alloc (.cells #[.int .u64 v, .int .u64 0] 60)).alloc (.cells #[.int .u64 u, .int .u64 0] 60))
  go_enter Tryz.func172, Tryz.ntmps172
  go_upto_region 1 with fail
  generalize (w.alloc (.cells #[.int .u64 v, .int .u64 0] 60)).alloc (.cells #[.int .u64 u, .int .u64 0] 60) = W at *
  go_wp2_with fail
  refine (tright_0 v hv _).mono ?_
  rintro e w1 ⟨rfl, hc1⟩
  have hb1 : Below W.heap.size W w1 := hc1
  clear hc1
  go_wp2_with fail
  refine (tright_0 u hu _).mono ?_
  rintro e w2 ⟨rfl, hc2⟩
  have hb2 := hb1.trans (hc2.mono hb1.size)
  clear hc2
  go_wp2_with fail
  go_ret
  exact ⟨rfl, hW0.trans (hb2.mono hW0.size)⟩
set_option maxRecDepth 100000 in
theorem tmeet_0 (v : Int) (hv : U64 v) (w : World) : Calls Tryz.prog 152 #[.agg #[.int .u64 v, .int .u64 0], .agg #[.int .u64 v, .int .u64 0]] w fun e w' => e = .returned (.tuple #[.agg #[.int .u64 v, .int .u64 0], .bool true]) ∧ Below w.heap.size w w' := by
  have e1 := xor_same hv
  have e2 := or_same hv
  have e3 : bits .or .u64 0 0 = 0 := by decide
  have e4 : bits .and .u64 0 0 = 0 := by decide
  have e5 : bits .andNot .u64 0 0 = 0 := by decide
  have q0 : (((w.alloc (.cells #[.int .u64 v, .int .u64 0] 60)).alloc (.cells #[.int .u64 v, .int .u64 0] 60)).alloc (.cells #[.int .u64 0, .int .u64 0] 60)).heap[w.heap.size]? = some (.cells #[.int .u64 v, .int .u64 0] 60) := heap3_0 _ _ _ _
  have a0 := boxc (k := 0) (u := .int .u64 v) q0 rfl
  have a1 := boxc (k := 1) (u := .int .u64 0) q0 rfl
  clear q0
  have q1 : (((w.alloc (.cells #[.int .u64 v, .int .u64 0] 60)).alloc (.cells #[.int .u64 v, .int .u64 0] 60)).alloc (.cells #[.int .u64 0, .int .u64 0] 60)).heap[(w.heap.size + 1)]? = some (.cells #[.int .u64 v, .int .u64 0] 60) := heap3_1 _ _ _ _
  have b0 := boxc (k := 0) (u := .int .u64 v) q1 rfl
  have b1 := boxc (k := 1) (u := .int .u64 0) q1 rfl
  clear q1
  have q2 : (((w.alloc (.cells #[.int .u64 v, .int .u64 0] 60)).alloc (.cells #[.int .u64 v, .int .u64 0] 60)).alloc (.cells #[.int .u64 0, .int .u64 0] 60)).heap[(w.heap.size + 2)]? = some (.cells #[.int .u64 0, .int .u64 0] 60) := heap3_2 _ _ _ _
  have c0 := boxc (k := 0) (u := .int .u64 0) q2 rfl
  have c1 := boxc (k := 1) (u := .int .u64 0) q2 rfl
  have t2 := boxt q2
  clear q2
  have hW0 : Below w.heap.size w (((w.alloc (.cells #[.int .u64 v, .int .u64 0] 60)).alloc (.cells #[.int .u64 v, .int .u64 0] 60)).alloc (.cells #[.int .u64 0, .int .u64 0] 60)) := below_boxes3 _ _ _ _
  have hr := Below.refl (((w.alloc (.cells #[.int .u64 v, .int .u64 0] 60)).alloc (.cells #[.int .u64 v, .int .u64 0] 60)).alloc (.cells #[.int .u64 0, .int .u64 0] 60)).heap.size (((w.alloc (.cells #[.int .u64 v, .int .u64 0] 60)).alloc (.cells #[.int .u64 v, .int .u64 0] 60)).alloc (.cells #[.int .u64 0, .int .u64 0] 60))
  go_enter Tryz.func152, Tryz.ntmps152
  go_upto_region 1 with fail
  generalize ((w.alloc (.cells #[.int .u64 v, .int .u64 0] 60)).alloc (.cells #[.int .u64 v, .int .u64 0] 60)).alloc (.cells #[.int .u64 0, .int .u64 0] 60) = W at *
  go_wp2_with fail
  refine (tboth_0 v v hv hv _).mono ?_
  rintro e w1 ⟨rfl, hc1⟩
  have hb1 : Below W.heap.size W w1 := hc1
  clear hc1
  go_wp2_with fail
  refine (tmade_0 v hv _).mono ?_
  rintro e w2 ⟨rfl, hc2⟩
  have hb2 := hb1.trans (hc2.mono hb1.size)
  clear hc2
  go_wp2_with fail
  have z0 := c0 _ hb2
  have z1 := c1 _ hb2
  refine bodyPost_ret (v := .tuple #[.agg #[.int .u64 v, .int .u64 0], .bool true]) (by simp [results, Tryz.results152, go_sem, *]) rfl ⟨rfl, ?_⟩
  (repeat (refine Below.setCell ?_ (by simp <;> omega) _))
  exact hW0.trans (hb2.mono hW0.size)
set_option maxRecDepth 100000 in
theorem smeet_yes (lo hi v : Int) (h0 : lo ≤ v) (h1 : v ≤ hi) (w : World) : Calls Tryz.prog 151 #[.agg #[.int .u64 lo, .int .u64 hi], .agg #[.int .u64 v, .int .u64 v]] w fun e w' => e = .returned (.tuple #[.agg #[.int .u64 v, .int .u64 v], .bool true]) ∧ Below w.heap.size w w' := by
  have e1 : (if lo < v then v else lo) = v := by split <;> omega
  have e2 : (if v < hi then v else hi) = v := by split <;> omega
  have e3 : lo ≤ hi := by omega
  have q0 : (((w.alloc (.cells #[.int .u64 lo, .int .u64 hi] 62)).alloc (.cells #[.int .u64 v, .int .u64 v] 62)).alloc (.cells #[.int .u64 0, .int .u64 0] 62)).heap[w.heap.size]? = some (.cells #[.int .u64 lo, .int .u64 hi] 62) := heap3_0 _ _ _ _
  have a0 := boxc (k := 0) (u := .int .u64 lo) q0 rfl
  have a1 := boxc (k := 1) (u := .int .u64 hi) q0 rfl
  clear q0
  have q1 : (((w.alloc (.cells #[.int .u64 lo, .int .u64 hi] 62)).alloc (.cells #[.int .u64 v, .int .u64 v] 62)).alloc (.cells #[.int .u64 0, .int .u64 0] 62)).heap[(w.heap.size + 1)]? = some (.cells #[.int .u64 v, .int .u64 v] 62) := heap3_1 _ _ _ _
  have b0 := boxc (k := 0) (u := .int .u64 v) q1 rfl
  have b1 := boxc (k := 1) (u := .int .u64 v) q1 rfl
  clear q1
  have q2 : (((w.alloc (.cells #[.int .u64 lo, .int .u64 hi] 62)).alloc (.cells #[.int .u64 v, .int .u64 v] 62)).alloc (.cells #[.int .u64 0, .int .u64 0] 62)).heap[(w.heap.size + 2)]? = some (.cells #[.int .u64 0, .int .u64 0] 62) := heap3_2 _ _ _ _
  have c0 := boxc (k := 0) (u := .int .u64 0) q2 rfl
  have c1 := boxc (k := 1) (u := .int .u64 0) q2 rfl
  have t2 := boxt q2
  clear q2
  have hW0 : Below w.heap.size w (((w.alloc (.cells #[.int .u64 lo, .int .u64 hi] 62)).alloc (.cells #[.int .u64 v, .int .u64 v] 62)).alloc (.cells #[.int .u64 0, .int .u64 0] 62)) := below_boxes3 _ _ _ _
  have hr := Below.refl (((w.alloc (.cells #[.int .u64 lo, .int .u64 hi] 62)).alloc (.cells #[.int .u64 v, .int .u64 v] 62)).alloc (.cells #[.int .u64 0, .int .u64 0] 62)).heap.size (((w.alloc (.cells #[.int .u64 lo, .int .u64 hi] 62)).alloc (.cells #[.int .u64 v, .int .u64 v] 62)).alloc (.cells #[.int .u64 0, .int .u64 0] 62))
  go_enter Tryz.func151, Tryz.ntmps151
  go_upto_region 1 with fail
  generalize ((w.alloc (.cells #[.int .u64 lo, .int .u64 hi] 62)).alloc (.cells #[.int .u64 v, .int .u64 v] 62)).alloc (.cells #[.int .u64 0, .int .u64 0] 62) = W at *
  go_upto_region 2 with fail
  generalize hV : W.alloc _ = V at *
  have hbV : Below W.heap.size W V := by rw [← hV]; exact (Below.refl _ _).alloc (Nat.le_refl _) _
  have d0 : ∀ w', Below V.heap.size V w' → w'.cell? ⟨W.heap.size, 0, none⟩ = some (.int .u64 v) := by rw [← hV]; exact boxc (heap1_0 _ _) rfl
  have d1 : ∀ w', Below V.heap.size V w' → w'.cell? ⟨W.heap.size, 1, none⟩ = some (.int .u64 v) := by rw [← hV]; exact boxc (heap1_0 _ _) rfl
  have hrV := Below.refl V.heap.size V
  clear hV
  go_wp2_with fail
  refine (sright_any lo hi _).mono ?_
  rintro e w1 ⟨rfl, hc1⟩
  have hv1 : Below V.heap.size V w1 := hc1
  have hb1 := hbV.trans (hv1.mono hbV.size)
  clear hc1
  go_wp2_with fail
  refine (sright_any v v _).mono ?_
  rintro e w2 ⟨rfl, hc2⟩
  have hv2 : Below V.heap.size V w2 := hv1.trans (hc2.mono hv1.size)
  have hb2 := hbV.trans (hv2.mono hbV.size)
  clear hc2
  go_wp2_with fail
  refine (sright_any v v _).mono ?_
  rintro e w3 ⟨rfl, hc3⟩
  have hv3 : Below V.heap.size V w3 := hv2.trans (hc3.mono hv2.size)
  have hb3 := hbV.trans (hv3.mono hbV.size)
  clear hc3
  go_wp2_with fail
  have z0 := c0 _ hb3
  have z1 := c1 _ hb3
  refine bodyPost_ret (v := .tuple #[.agg #[.int .u64 v, .int .u64 v], .bool true]) (by simp [results, Tryz.results151, go_sem, *]) rfl ⟨rfl, ?_⟩
  (repeat (refine Below.setCell ?_ (by simp <;> omega) _))
  exact hW0.trans (hb3.mono hW0.size)
set_option maxRecDepth 100000 in
theorem smeet_no1 (lo hi v : Int) (h0 : ¬ lo ≤ hi) (w : World) : Calls Tryz.prog 151 #[.agg #[.int .u64 lo, .int .u64 hi], .agg #[.int .u64 v, .int .u64 v]] w fun e w' => e = .returned (.tuple #[.agg #[.int .u64 0, .int .u64 0], .bool false]) ∧ Below w.heap.size w w' := by
  obtain ⟨s0, e1⟩ : ∃ n, (if lo < v then v else lo) = n := ⟨_, rfl⟩
  obtain ⟨s1, e2⟩ : ∃ n, (if v < hi then v else hi) = n := ⟨_, rfl⟩
  have q0 : (((w.alloc (.cells #[.int .u64 lo, .int .u64 hi] 62)).alloc (.cells #[.int .u64 v, .int .u64 v] 62)).alloc (.cells #[.int .u64 0, .int .u64 0] 62)).heap[w.heap.size]? = some (.cells #[.int .u64 lo, .int .u64 hi] 62) := heap3_0 _ _ _ _
  have a0 := boxc (k := 0) (u := .int .u64 lo) q0 rfl
  have a1 := boxc (k := 1) (u := .int .u64 hi) q0 rfl
  clear q0
  have q1 : (((w.alloc (.cells #[.int .u64 lo, .int .u64 hi] 62)).alloc (.cells #[.int .u64 v, .int .u64 v] 62)).alloc (.cells #[.int .u64 0, .int .u64 0] 62)).heap[(w.heap.size + 1)]? = some (.cells #[.int .u64 v, .int .u64 v] 62) := heap3_1 _ _ _ _
  have b0 := boxc (k := 0) (u := .int .u64 v) q1 rfl
  have b1 := boxc (k := 1) (u := .int .u64 v) q1 rfl
  clear q1
  have q2 : (((w.alloc (.cells #[.int .u64 lo, .int .u64 hi] 62)).alloc (.cells #[.int .u64 v, .int .u64 v] 62)).alloc (.cells #[.int .u64 0, .int .u64 0] 62)).heap[(w.heap.size + 2)]? = some (.cells #[.int .u64 0, .int .u64 0] 62) := heap3_2 _ _ _ _
  have c0 := boxc (k := 0) (u := .int .u64 0) q2 rfl
  have c1 := boxc (k := 1) (u := .int .u64 0) q2 rfl
  have t2 := boxt q2
  clear q2
  have hW0 : Below w.heap.size w (((w.alloc (.cells #[.int .u64 lo, .int .u64 hi] 62)).alloc (.cells #[.int .u64 v, .int .u64 v] 62)).alloc (.cells #[.int .u64 0, .int .u64 0] 62)) := below_boxes3 _ _ _ _
  have hr := Below.refl (((w.alloc (.cells #[.int .u64 lo, .int .u64 hi] 62)).alloc (.cells #[.int .u64 v, .int .u64 v] 62)).alloc (.cells #[.int .u64 0, .int .u64 0] 62)).heap.size (((w.alloc (.cells #[.int .u64 lo, .int .u64 hi] 62)).alloc (.cells #[.int .u64 v, .int .u64 v] 62)).alloc (.cells #[.int .u64 0, .int .u64 0] 62))
  go_enter Tryz.func151, Tryz.ntmps151
  go_upto_region 1 with fail
  generalize ((w.alloc (.cells #[.int .u64 lo, .int .u64 hi] 62)).alloc (.cells #[.int .u64 v, .int .u64 v] 62)).alloc (.cells #[.int .u64 0, .int .u64 0] 62) = W at *
  go_upto_region 2 with fail
  generalize hV : W.alloc _ = V at *
  have hbV : Below W.heap.size W V := by rw [← hV]; exact (Below.refl _ _).alloc (Nat.le_refl _) _
  have d0 : ∀ w', Below V.heap.size V w' → w'.cell? ⟨W.heap.size, 0, none⟩ = some (.int .u64 s0) := by rw [← hV]; exact boxc (heap1_0 _ _) rfl
  have d1 : ∀ w', Below V.heap.size V w' → w'.cell? ⟨W.heap.size, 1, none⟩ = some (.int .u64 s1) := by rw [← hV]; exact boxc (heap1_0 _ _) rfl
  have hrV := Below.refl V.heap.size V
  clear hV
  go_wp2_with fail
  refine (sright_any lo hi _).mono ?_
  rintro e w1 ⟨rfl, hc1⟩
  have hv1 : Below V.heap.size V w1 := hc1
  have hb1 := hbV.trans (hv1.mono hbV.size)
  clear hc1
  go_wp2_with fail
  have z0 := c0 _ hb1
  have z1 := c1 _ hb1
  refine bodyPost_ret (v := .tuple #[.agg #[.int .u64 0, .int .u64 0], .bool false]) (by simp [results, Tryz.results151, go_sem, *]) rfl ⟨rfl, ?_⟩
  (repeat (refine Below.setCell ?_ (by simp <;> omega) _))
  exact hW0.trans (hb1.mono hW0.size)
set_option maxRecDepth 100000 in
theorem smeet_no2 (lo hi v : Int) (h0 : lo ≤ hi) (h1 : ¬ (lo ≤ v ∧ v ≤ hi)) (w : World) : Calls Tryz.prog 151 #[.agg #[.int .u64 lo, .int .u64 hi], .agg #[.int .u64 v, .int .u64 v]] w fun e w' => e = .returned (.tuple #[.agg #[.int .u64 0, .int .u64 0], .bool false]) ∧ Below w.heap.size w w' := by
  obtain ⟨s0, e1⟩ : ∃ n, (if lo < v then v else lo) = n := ⟨_, rfl⟩
  obtain ⟨s1, e2⟩ : ∃ n, (if v < hi then v else hi) = n := ⟨_, rfl⟩
  have e3 : decide (s0 ≤ s1) = false := by rw [decide_eq_false_iff_not, ← e1, ← e2]; split <;> split <;> omega
  have q0 : (((w.alloc (.cells #[.int .u64 lo, .int .u64 hi] 62)).alloc (.cells #[.int .u64 v, .int .u64 v] 62)).alloc (.cells #[.int .u64 0, .int .u64 0] 62)).heap[w.heap.size]? = some (.cells #[.int .u64 lo, .int .u64 hi] 62) := heap3_0 _ _ _ _
  have a0 := boxc (k := 0) (u := .int .u64 lo) q0 rfl
  have a1 := boxc (k := 1) (u := .int .u64 hi) q0 rfl
  clear q0
  have q1 : (((w.alloc (.cells #[.int .u64 lo, .int .u64 hi] 62)).alloc (.cells #[.int .u64 v, .int .u64 v] 62)).alloc (.cells #[.int .u64 0, .int .u64 0] 62)).heap[(w.heap.size + 1)]? = some (.cells #[.int .u64 v, .int .u64 v] 62) := heap3_1 _ _ _ _
  have b0 := boxc (k := 0) (u := .int .u64 v) q1 rfl
  have b1 := boxc (k := 1) (u := .int .u64 v) q1 rfl
  clear q1
  have q2 : (((w.alloc (.cells #[.int .u64 lo, .int .u64 hi] 62)).alloc (.cells #[.int .u64 v, .int .u64 v] 62)).alloc (.cells #[.int .u64 0, .int .u64 0] 62)).heap[(w.heap.size + 2)]? = some (.cells #[.int .u64 0, .int .u64 0] 62) := heap3_2 _ _ _ _
  have c0 := boxc (k := 0) (u := .int .u64 0) q2 rfl
  have c1 := boxc (k := 1) (u := .int .u64 0) q2 rfl
  have t2 := boxt q2
  clear q2
  have hW0 : Below w.heap.size w (((w.alloc (.cells #[.int .u64 lo, .int .u64 hi] 62)).alloc (.cells #[.int .u64 v, .int .u64 v] 62)).alloc (.cells #[.int .u64 0, .int .u64 0] 62)) := below_boxes3 _ _ _ _
  have hr := Below.refl (((w.alloc (.cells #[.int .u64 lo, .int .u64 hi] 62)).alloc (.cells #[.int .u64 v, .int .u64 v] 62)).alloc (.cells #[.int .u64 0, .int .u64 0] 62)).heap.size (((w.alloc (.cells #[.int .u64 lo, .int .u64 hi] 62)).alloc (.cells #[.int .u64 v, .int .u64 v] 62)).alloc (.cells #[.int .u64 0, .int .u64 0] 62))
  go_enter Tryz.func151, Tryz.ntmps151
  go_upto_region 1 with fail
  generalize ((w.alloc (.cells #[.int .u64 lo, .int .u64 hi] 62)).alloc (.cells #[.int .u64 v, .int .u64 v] 62)).alloc (.cells #[.int .u64 0, .int .u64 0] 62) = W at *
  go_upto_region 2 with fail
  generalize hV : W.alloc _ = V at *
  have hbV : Below W.heap.size W V := by rw [← hV]; exact (Below.refl _ _).alloc (Nat.le_refl _) _
  have d0 : ∀ w', Below V.heap.size V w' → w'.cell? ⟨W.heap.size, 0, none⟩ = some (.int .u64 s0) := by rw [← hV]; exact boxc (heap1_0 _ _) rfl
  have d1 : ∀ w', Below V.heap.size V w' → w'.cell? ⟨W.heap.size, 1, none⟩ = some (.int .u64 s1) := by rw [← hV]; exact boxc (heap1_0 _ _) rfl
  have hrV := Below.refl V.heap.size V
  clear hV
  go_wp2_with fail
  refine (sright_any lo hi _).mono ?_
  rintro e w1 ⟨rfl, hc1⟩
  have hv1 : Below V.heap.size V w1 := hc1
  have hb1 := hbV.trans (hv1.mono hbV.size)
  clear hc1
  go_wp2_with fail
  refine (sright_any v v _).mono ?_
  rintro e w2 ⟨rfl, hc2⟩
  have hv2 : Below V.heap.size V w2 := hv1.trans (hc2.mono hv1.size)
  have hb2 := hbV.trans (hv2.mono hbV.size)
  clear hc2
  go_wp2_with fail
  refine (sright_any s0 s1 _).mono ?_
  rintro e w3 ⟨rfl, hc3⟩
  have hv3 : Below V.heap.size V w3 := hv2.trans (hc3.mono hv2.size)
  have hb3 := hbV.trans (hv3.mono hbV.size)
  clear hc3
  go_wp2_with fail
  have z0 := c0 _ hb3
  have z1 := c1 _ hb3
  refine bodyPost_ret (v := .tuple #[.agg #[.int .u64 0, .int .u64 0], .bool false]) (by simp [results, Tryz.results151, go_sem, *]) rfl ⟨rfl, ?_⟩
  (repeat (refine Below.setCell ?_ (by simp <;> omega) _))
  exact hW0.trans (hb3.mono hW0.size)
set_option maxRecDepth 100000 in
theorem franged_v (v : Int) (hv : U64 v) (w : World) : Calls Tryz.prog 153 #[.agg #[.int .u64 v, .int .u64 v]] w fun e w' => e = .returned (.agg #[.int .u64 v, .int .u64 0]) ∧ Below w.heap.size w w' := by
  have e1 := xor_same hv
  have e2 := andNot_0 hv
  have q0 : ((w.alloc (.cells #[.int .u64 v, .int .u64 v] 62)).alloc (.cells #[.int .u64 0, .int .u64 0] 60)).heap[w.heap.size]? = some (.cells #[.int .u64 v, .int .u64 v] 62) := heap2_0 _ _ _
  have a0 := boxc (k := 0) (u := .int .u64 v) q0 rfl
  have a1 := boxc (k := 1) (u := .int .u64 v) q0 rfl
  clear q0
  have q1 : ((w.alloc (.cells #[.int .u64 v, .int .u64 v] 62)).alloc (.cells #[.int .u64 0, .int .u64 0] 60)).heap[(w.heap.size + 1)]? = some (.cells #[.int .u64 0, .int .u64 0] 60) := heap2_1 _ _ _
  have b0 := boxc (k := 0) (u := .int .u64 0) q1 rfl
  have b1 := boxc (k := 1) (u := .int .u64 0) q1 rfl
  have t1 := boxt q1
  clear q1
  have hW0 : Below w.heap.size w ((w.alloc (.cells #[.int .u64 v, .int .u64 v] 62)).alloc (.cells #[.int .u64 0, .int .u64 0] 60)) := below_boxes2 _ _ _
  have hr := Below.refl ((w.alloc (.cells #[.int .u64 v, .int .u64 v] 62)).alloc (.cells #[.int .u64 0, .int .u64 0] 60)).heap.size ((w.alloc (.cells #[.int .u64 v, .int .u64 v] 62)).alloc (.cells #[.int .u64 0, .int .u64 0] 60))
  go_enter Tryz.func153, Tryz.ntmps153
  go_upto_region 1 with fail
  generalize (w.alloc (.cells #[.int .u64 v, .int .u64 v] 62)).alloc (.cells #[.int .u64 0, .int .u64 0] 60) = W at *
  go_wp2_with fail
  refine (len64_0 _).mono ?_
  rintro e w1 ⟨rfl, rfl⟩
  have hb1 := hr
  go_wp2_with fail
  have z0 := b0 _ hb1
  have z1 := b1 _ hb1
  refine bodyPost_ret (v := .agg #[.int .u64 v, .int .u64 0]) (by simp [results, Tryz.results153, go_sem, *]) rfl ⟨rfl, ?_⟩
  (repeat (refine Below.setCell ?_ (by simp <;> omega) _))
  exact hW0.trans (hb1.mono hW0.size)
set_option maxRecDepth 100000 in
theorem settle_yes (v lo hi : Int) (hv : U64 v) (h0 : lo ≤ v) (h1 : v ≤ hi) (w : World) : Calls Tryz.prog 115 #[.agg #[.int .u64 v, .int .u64 0, .int .u64 lo, .int .u64 hi]] w fun e w' => e = .returned (.tuple #[.agg #[.int .u64 v, .int .u64 0, .int .u64 v, .int .u64 v], .bool true]) ∧ Below w.heap.size w w' := by
  have e1 := or_0 hv
  have e2 : lo ≤ hi := by omega
  have q0 : ((w.alloc (.cells #[.int .u64 v, .int .u64 0, .int .u64 lo, .int .u64 hi] 64)).alloc (.cells #[.int .u64 0, .int .u64 0, .int .u64 0, .int .u64 0] 64)).heap[w.heap.size]? = some (.cells #[.int .u64 v, .int .u64 0, .int .u64 lo, .int .u64 hi] 64) := heap2_0 _ _ _
  have a0 := boxc (k := 0) (u := .int .u64 v) q0 rfl
  have a1 := boxc (k := 1) (u := .int .u64 0) q0 rfl
  have a2 := boxc (k := 2) (u := .int .u64 lo) q0 rfl
  have a3 := boxc (k := 3) (u := .int .u64 hi) q0 rfl
  have t0 := boxt q0
  clear q0
  have q1 : ((w.alloc (.cells #[.int .u64 v, .int .u64 0, .int .u64 lo, .int .u64 hi] 64)).alloc (.cells #[.int .u64 0, .int .u64 0, .int .u64 0, .int .u64 0] 64)).heap[(w.heap.size + 1)]? = some (.cells #[.int .u64 0, .int .u64 0, .int .u64 0, .int .u64 0] 64) := heap2_1 _ _ _
  have b0 := boxc (k := 0) (u := .int .u64 0) q1 rfl
  have b1 := boxc (k := 1) (u := .int .u64 0) q1 rfl
  have b2 := boxc (k := 2) (u := .int .u64 0) q1 rfl
  have b3 := boxc (k := 3) (u := .int .u64 0) q1 rfl
  have t1 := boxt q1
  clear q1
  have hW0 : Below w.heap.size w ((w.alloc (.cells #[.int .u64 v, .int .u64 0, .int .u64 lo, .int .u64 hi] 64)).alloc (.cells #[.int .u64 0, .int .u64 0, .int .u64 0, .int .u64 0] 64)) := below_boxes2 _ _ _
  have hr := Below.refl ((w.alloc (.cells #[.int .u64 v, .int .u64 0, .int .u64 lo, .int .u64 hi] 64)).alloc (.cells #[.int .u64 0, .int .u64 0, .int .u64 0, .int .u64 0] 64)).heap.size ((w.alloc (.cells #[.int .u64 v, .int .u64 0, .int .u64 lo, .int .u64 hi] 64)).alloc (.cells #[.int .u64 0, .int .u64 0, .int .u64 0, .int .u64 0] 64))
  go_enter Tryz.func115, Tryz.ntmps115
  go_upto_region 1 with fail
  generalize (w.alloc (.cells #[.int .u64 v, .int .u64 0, .int .u64 lo, .int .u64 hi] 64)).alloc (.cells #[.int .u64 0, .int .u64 0, .int .u64 0, .int .u64 0] 64) = W at *
  go_wp2_with fail
  refine (tright_0 v hv _).mono ?_
  rintro e w1 ⟨rfl, hc1⟩
  have hb1 : Below W.heap.size W w1 := hc1
  clear hc1
  go_wp2_with fail
  refine (sright_any lo hi _).mono ?_
  rintro e w2 ⟨rfl, hc2⟩
  have hb2 := hb1.trans (hc2.mono hb1.size)
  clear hc2
  go_wp2_with fail
  go_loopw [3] (fun t3 wr => t3 = .bool false ∧ wr = w2) (fun _ _ => 0)
  case atStart => exact ⟨rfl, rfl⟩
  case round =>
    obtain ⟨rfl, rfl⟩ := hrel
    go_wp2_with fail
    refine (smeet_yes lo hi v h0 h1 _).mono ?_
    rintro e w3 ⟨rfl, hc3⟩
    have hb3 := hb2.trans (hc3.mono hb2.size)
    clear hc3
    go_upto_region 6 with fail
    have d0 := boxc (k := 0) (u := .int .u64 v) (heap1_0 w3 (.cells #[.int .u64 v, .int .u64 v] 62)) rfl
    have d1 := boxc (k := 1) (u := .int .u64 v) (heap1_0 w3 (.cells #[.int .u64 v, .int .u64 v] 62)) rfl
    have hbT : Below W.heap.size W (w3.alloc (.cells #[.int .u64 v, .int .u64 v] 62)) := hb3.alloc hb3.size _
    have hrT := Below.refl (w3.alloc (.cells #[.int .u64 v, .int .u64 v] 62)).heap.size (w3.alloc (.cells #[.int .u64 v, .int .u64 v] 62))
    have hT3 : w3.heap.size < (w3.alloc (.cells #[.int .u64 v, .int .u64 v] 62)).heap.size := by simp
    generalize w3.alloc (.cells #[.int .u64 v, .int .u64 v] 62) = T at *
    go_cut [5, 6] from 19 to 58 (fun t5 t6 wx => ∃ g, t6 = .pointer (some ⟨g, 0, none⟩) ∧ t5 = .bool true ∧ T.heap.size ≤ g ∧ g < wx.heap.size ∧ Below T.heap.size T wx ∧ wx.cell? ⟨g, 0, none⟩ = some (.int .u64 v) ∧ wx.cell? ⟨g, 1, none⟩ = some (.int .u64 0))
    case first =>
      have A0 : ∀ w', Below T.heap.size T w' → w'.cell? ⟨w.heap.size, 0, none⟩ = some (.int .u64 v) := fun w' h => a0 w' (hbT.trans (h.mono hbT.size))
      have A1 : ∀ w', Below T.heap.size T w' → w'.cell? ⟨w.heap.size, 1, none⟩ = some (.int .u64 0) := fun w' h => a1 w' (hbT.trans (h.mono hbT.size))
      clear a0 a1 a2 a3 b0 b1 b2 b3 t0 t1 hr
      go_region_held3 (fun w' => Below T.heap.size T w')
        (repeat (first | assumption | refine sbelow_drew ?_ | refine sbelow_alloc ?_ (Nat.le_refl _) | refine Below.setCell ?_ (by first | (simp; done) | exact hS5.size) _))
        (first | (go_at_call 153; refine (franged_v v hv _).mono ?_; rintro e w5 ⟨rfl, hb5⟩; have hS5 : Below T.heap.size T w5 := below_step (by assumption) (Nat.le_refl _) hb5; (try have z5 : w5.cell? ⟨T.heap.size, 0, none⟩ = some (.int .u64 0) := boxc (heap1_0 T.drew (.cells #[.int .u64 0, .int .u64 0] 60)) rfl _ (hb5)); (try have y5 : w5.cell? ⟨T.heap.size, 1, none⟩ = some (.int .u64 0) := boxc (heap1_0 T.drew (.cells #[.int .u64 0, .int .u64 0] 60)) rfl _ (hb5)); (try have x5 : ∀ k, w5.frozen? ⟨T.heap.size, k, none⟩ = false := fun k => boxt (heap1_0 T.drew (.cells #[.int .u64 0, .int .u64 0] 60)) k _ (hb5))) | (go_at_call 152; refine (tmeet_0 v hv _).mono ?_; rintro e w6 ⟨rfl, hb6⟩; have hS6 : Below T.heap.size T w6 := below_step (by assumption) (Nat.le_refl _) hb6; (try have z6 : w6.cell? ⟨T.heap.size, 0, none⟩ = some (.int .u64 0) := boxc (heap1_0 T.drew (.cells #[.int .u64 0, .int .u64 0] 60)) rfl _ (hb5.trans (hb6.mono hb5.size))); (try have y6 : w6.cell? ⟨T.heap.size, 1, none⟩ = some (.int .u64 0) := boxc (heap1_0 T.drew (.cells #[.int .u64 0, .int .u64 0] 60)) rfl _ (hb5.trans (hb6.mono hb5.size))); (try have x6 : ∀ k, w6.frozen? ⟨T.heap.size, k, none⟩ = false := fun k => boxt (heap1_0 T.drew (.cells #[.int .u64 0, .int .u64 0] 60)) k _ (hb5.trans (hb6.mono hb5.size))); (try have z6 : w6.cell? ⟨w5.heap.size, 0, none⟩ = some (.int .u64 0) := boxc (heap1_0 w5 (.cells #[.int .u64 0, .int .u64 0] 60)) rfl _ (hb6)); (try have y6 : w6.cell? ⟨w5.heap.size, 1, none⟩ = some (.int .u64 0) := boxc (heap1_0 w5 (.cells #[.int .u64 0, .int .u64 0] 60)) rfl _ (hb6)); (try have x6 : ∀ k, w6.frozen? ⟨w5.heap.size, k, none⟩ = false := fun k => boxt (heap1_0 w5 (.cells #[.int .u64 0, .int .u64 0] 60)) k _ (hb6))))
      all_goals
        go_wp2_with fail
        go_meet
        case rel =>
          refine ⟨_, rfl, rfl, ?_, ?_, ?_, ?_, ?_⟩
          · first | exact hS6.size | exact hS5.size | exact Nat.le_refl _
          · first | (simp; done) | (simp; have := hb6.size; simp at this; omega) | (simp; have := hb6.size; have := hb5.size; simp at *; omega)
          · (repeat (first | assumption | refine sbelow_drew ?_ | refine sbelow_alloc ?_ (Nat.le_refl _) | refine Below.setCell ?_ (by first | exact hS5.size | exact Nat.le_refl _) _))
          · first | exact boxc (heap1_0 w6 _) rfl _ (Below.refl _ _) | simp [go_sem, *]
          · first | exact boxc (heap1_0 w6 _) rfl _ (Below.refl _ _) | simp [go_sem, *]
    case rest =>
      obtain ⟨g, rfl, rfl, hg0, hg1, hbc, k0, k1⟩ := hcut
      have hbw := hbT.trans (hbc.mono hbT.size)
      have z0 := b0 _ hbw
      have z1 := b1 _ hbw
      have z2 := b2 _ hbw
      have z3 := b3 _ hbw
      go_wp2_with fail
      refine bodyPost_ret (v := .tuple #[.agg #[.int .u64 v, .int .u64 0, .int .u64 v, .int .u64 v], .bool true]) (by simp [results, Tryz.results115, go_sem, *]) rfl ⟨rfl, ?_⟩
      (repeat (refine Below.setCell ?_ (by first | exact Nat.le_refl _ | exact Nat.le_succ _ | (simp; done)) _))
      exact hW0.trans (hbw.mono hW0.size)
set_option maxRecDepth 100000 in
theorem settle_no1 (v lo hi : Int) (hv : U64 v) (h0 : ¬ lo ≤ hi) (w : World) : Calls Tryz.prog 115 #[.agg #[.int .u64 v, .int .u64 0, .int .u64 lo, .int .u64 hi]] w fun e w' => e = .returned (.tuple #[.agg #[.int .u64 0, .int .u64 0, .int .u64 0, .int .u64 0], .bool false]) ∧ Below w.heap.size w w' := by
  have e1 := or_0 hv
  have e3 : decide (lo ≤ hi) = false := by rw [decide_eq_false_iff_not]; exact h0
  clear h0
  have q0 : ((w.alloc (.cells #[.int .u64 v, .int .u64 0, .int .u64 lo, .int .u64 hi] 64)).alloc (.cells #[.int .u64 0, .int .u64 0, .int .u64 0, .int .u64 0] 64)).heap[w.heap.size]? = some (.cells #[.int .u64 v, .int .u64 0, .int .u64 lo, .int .u64 hi] 64) := heap2_0 _ _ _
  have a0 := boxc (k := 0) (u := .int .u64 v) q0 rfl
  have a1 := boxc (k := 1) (u := .int .u64 0) q0 rfl
  have a2 := boxc (k := 2) (u := .int .u64 lo) q0 rfl
  have a3 := boxc (k := 3) (u := .int .u64 hi) q0 rfl
  have t0 := boxt q0
  clear q0
  have q1 : ((w.alloc (.cells #[.int .u64 v, .int .u64 0, .int .u64 lo, .int .u64 hi] 64)).alloc (.cells #[.int .u64 0, .int .u64 0, .int .u64 0, .int .u64 0] 64)).heap[(w.heap.size + 1)]? = some (.cells #[.int .u64 0, .int .u64 0, .int .u64 0, .int .u64 0] 64) := heap2_1 _ _ _
  have b0 := boxc (k := 0) (u := .int .u64 0) q1 rfl
  have b1 := boxc (k := 1) (u := .int .u64 0) q1 rfl
  have b2 := boxc (k := 2) (u := .int .u64 0) q1 rfl
  have b3 := boxc (k := 3) (u := .int .u64 0) q1 rfl
  have t1 := boxt q1
  clear q1
  have hW0 : Below w.heap.size w ((w.alloc (.cells #[.int .u64 v, .int .u64 0, .int .u64 lo, .int .u64 hi] 64)).alloc (.cells #[.int .u64 0, .int .u64 0, .int .u64 0, .int .u64 0] 64)) := below_boxes2 _ _ _
  have hr := Below.refl ((w.alloc (.cells #[.int .u64 v, .int .u64 0, .int .u64 lo, .int .u64 hi] 64)).alloc (.cells #[.int .u64 0, .int .u64 0, .int .u64 0, .int .u64 0] 64)).heap.size ((w.alloc (.cells #[.int .u64 v, .int .u64 0, .int .u64 lo, .int .u64 hi] 64)).alloc (.cells #[.int .u64 0, .int .u64 0, .int .u64 0, .int .u64 0] 64))
  go_enter Tryz.func115, Tryz.ntmps115
  go_upto_region 1 with fail
  generalize (w.alloc (.cells #[.int .u64 v, .int .u64 0, .int .u64 lo, .int .u64 hi] 64)).alloc (.cells #[.int .u64 0, .int .u64 0, .int .u64 0, .int .u64 0] 64) = W at *
  go_wp2_with fail
  refine (tright_0 v hv _).mono ?_
  rintro e w1 ⟨rfl, hc1⟩
  have hb1 : Below W.heap.size W w1 := hc1
  clear hc1
  go_wp2_with fail
  refine (sright_any lo hi _).mono ?_
  rintro e w2 ⟨rfl, hc2⟩
  have hb2 := hb1.trans (hc2.mono hb1.size)
  clear hc2
  have z0 := b0 _ hb2
  have z1 := b1 _ hb2
  have z2 := b2 _ hb2
  have z3 := b3 _ hb2
  go_wp2_with fail
  refine bodyPost_ret (v := .tuple #[.agg #[.int .u64 0, .int .u64 0, .int .u64 0, .int .u64 0], .bool false]) (by simp [results, Tryz.results115, go_sem, *]) rfl ⟨rfl, ?_⟩
  (repeat (refine Below.setCell ?_ (by first | exact Nat.le_refl _ | exact Nat.le_succ _ | (simp; done)) _))
  exact hW0.trans (hb2.mono hW0.size)
set_option maxRecDepth 100000 in
theorem settle_no2 (v lo hi : Int) (hv : U64 v) (h0 : lo ≤ hi) (h1 : ¬ (lo ≤ v ∧ v ≤ hi)) (w : World) : Calls Tryz.prog 115 #[.agg #[.int .u64 v, .int .u64 0, .int .u64 lo, .int .u64 hi]] w fun e w' => e = .returned (.tuple #[.agg #[.int .u64 0, .int .u64 0, .int .u64 0, .int .u64 0], .bool false]) ∧ Below w.heap.size w w' := by
  have e1 := or_0 hv
  have q0 : ((w.alloc (.cells #[.int .u64 v, .int .u64 0, .int .u64 lo, .int .u64 hi] 64)).alloc (.cells #[.int .u64 0, .int .u64 0, .int .u64 0, .int .u64 0] 64)).heap[w.heap.size]? = some (.cells #[.int .u64 v, .int .u64 0, .int .u64 lo, .int .u64 hi] 64) := heap2_0 _ _ _
  have a0 := boxc (k := 0) (u := .int .u64 v) q0 rfl
  have a1 := boxc (k := 1) (u := .int .u64 0) q0 rfl
  have a2 := boxc (k := 2) (u := .int .u64 lo) q0 rfl
  have a3 := boxc (k := 3) (u := .int .u64 hi) q0 rfl
  have t0 := boxt q0
  clear q0
  have q1 : ((w.alloc (.cells #[.int .u64 v, .int .u64 0, .int .u64 lo, .int .u64 hi] 64)).alloc (.cells #[.int .u64 0, .int .u64 0, .int .u64 0, .int .u64 0] 64)).heap[(w.heap.size + 1)]? = some (.cells #[.int .u64 0, .int .u64 0, .int .u64 0, .int .u64 0] 64) := heap2_1 _ _ _
  have b0 := boxc (k := 0) (u := .int .u64 0) q1 rfl
  have b1 := boxc (k := 1) (u := .int .u64 0) q1 rfl
  have b2 := boxc (k := 2) (u := .int .u64 0) q1 rfl
  have b3 := boxc (k := 3) (u := .int .u64 0) q1 rfl
  have t1 := boxt q1
  clear q1
  have hW0 : Below w.heap.size w ((w.alloc (.cells #[.int .u64 v, .int .u64 0, .int .u64 lo, .int .u64 hi] 64)).alloc (.cells #[.int .u64 0, .int .u64 0, .int .u64 0, .int .u64 0] 64)) := below_boxes2 _ _ _
  have hr := Below.refl ((w.alloc (.cells #[.int .u64 v, .int .u64 0, .int .u64 lo, .int .u64 hi] 64)).alloc (.cells #[.int .u64 0, .int .u64 0, .int .u64 0, .int .u64 0] 64)).heap.size ((w.alloc (.cells #[.int .u64 v, .int .u64 0, .int .u64 lo, .int .u64 hi] 64)).alloc (.cells #[.int .u64 0, .int .u64 0, .int .u64 0, .int .u64 0] 64))
  go_enter Tryz.func115, Tryz.ntmps115
  go_upto_region 1 with fail
  generalize (w.alloc (.cells #[.int .u64 v, .int .u64 0, .int .u64 lo, .int .u64 hi] 64)).alloc (.cells #[.int .u64 0, .int .u64 0, .int .u64 0, .int .u64 0] 64) = W at *
  go_wp2_with fail
  refine (tright_0 v hv _).mono ?_
  rintro e w1 ⟨rfl, hc1⟩
  have hb1 : Below W.heap.size W w1 := hc1
  clear hc1
  go_wp2_with fail
  refine (sright_any lo hi _).mono ?_
  rintro e w2 ⟨rfl, hc2⟩
  have hb2 := hb1.trans (hc2.mono hb1.size)
  clear hc2
  go_wp2_with fail
  go_loopw [3] (fun t3 wr => t3 = .bool false ∧ wr = w2) (fun _ _ => 0)
  case atStart => exact ⟨rfl, rfl⟩
  case round =>
    obtain ⟨rfl, rfl⟩ := hrel
    go_wp2_with fail
    refine (smeet_no2 lo hi v h0 h1 _).mono ?_
    rintro e w3 ⟨rfl, hc3⟩
    have hb3 := hb2.trans (hc3.mono hb2.size)
    clear hc3
    have hb4 := hb3.alloc hb3.size (.cells #[.int .u64 0, .int .u64 0] 62)
    have z0 := b0 _ hb4
    have z1 := b1 _ hb4
    have z2 := b2 _ hb4
    have z3 := b3 _ hb4
    go_wp2_with fail
    refine bodyPost_ret (v := .tuple #[.agg #[.int .u64 0, .int .u64 0, .int .u64 0, .int .u64 0], .bool false]) (by simp [results, Tryz.results115, go_sem, *]) rfl ⟨rfl, ?_⟩
    (repeat (refine Below.setCell ?_ (by first | exact Nat.le_refl _ | exact Nat.le_succ _ | (simp; done)) _))
    exact hW0.trans (hb4.mono hW0.size)
theorem eq_fact (a b c d a' b' c' d' : Int) (w : World) : (binOp .eql 64 (.agg #[.int .u64 a, .int .u64 b, .int .u64 c, .int .u64 d]) (.agg #[.int .u64 a', .int .u64 b', .int .u64 c', .int .u64 d'])).run Tryz.prog w = .ok (.bool (decide (a = a') && (decide (b = b') && (decide (c = c') && decide (d = d'))))) w := by
  by_cases h1 : a = a' <;> by_cases h2 : b = b' <;> by_cases h3 : c = c' <;> by_cases h4 : d = d' <;> simp [go_sem, h1, h2, h3, h4]
set_option maxRecDepth 100000 in
theorem fright_yes (v lo hi : Int) (hv : U64 v) (h0 : lo ≤ v) (h1 : v ≤ hi) (w : World) : Calls Tryz.prog 78 #[.agg #[.int .u64 v, .int .u64 0, .int .u64 lo, .int .u64 hi]] w fun e w' => e = .returned (.bool (decide (lo = v) && decide (hi = v))) ∧ Below w.heap.size w w' := by
  have q0 : (w.alloc (.cells #[.int .u64 v, .int .u64 0, .int .u64 lo, .int .u64 hi] 64)).heap[w.heap.size]? = some (.cells #[.int .u64 v, .int .u64 0, .int .u64 lo, .int .u64 hi] 64) := heap1_0 _ _
  have a0 := boxc (k := 0) (u := .int .u64 v) q0 rfl
  have a1 := boxc (k := 1) (u := .int .u64 0) q0 rfl
  have a2 := boxc (k := 2) (u := .int .u64 lo) q0 rfl
  have a3 := boxc (k := 3) (u := .int .u64 hi) q0 rfl
  clear q0
  have hW0 : Below w.heap.size w (w.alloc (.cells #[.int .u64 v, .int .u64 0, .int .u64 lo, .int .u64 hi] 64)) := below_boxes1 _ _
  have hr := Below.refl (w.alloc (.cells #[.int .u64 v, .int .u64 0, .int .u64 lo, .int .u64 hi] 64)).heap.size (w.alloc (.cells #[.int .u64 v, .int .u64 0, .int .u64 lo, .int .u64 hi] 64))
  go_enter Tryz.func78, Tryz.ntmps78
  go_upto_region 1 with fail
  generalize w.alloc (.cells #[.int .u64 v, .int .u64 0, .int .u64 lo, .int .u64 hi] 64) = W at *
  go_wp2_with fail
  refine (settle_yes v lo hi hv h0 h1 _).mono ?_
  rintro e w1 ⟨rfl, hb1⟩
  go_upto_region 2 with fail
  have hb2 : Below W.heap.size W (w1.alloc (.cells #[.int .u64 v, .int .u64 0, .int .u64 v, .int .u64 v] 64)) := hb1.alloc hb1.size _
  have d0 := boxc (k := 0) (heap1_0 w1 (.cells #[.int .u64 v, .int .u64 0, .int .u64 v, .int .u64 v] 64)) rfl _ (Below.refl _ _)
  have d1 := boxc (k := 1) (heap1_0 w1 (.cells #[.int .u64 v, .int .u64 0, .int .u64 v, .int .u64 v] 64)) rfl _ (Below.refl _ _)
  have d2 := boxc (k := 2) (heap1_0 w1 (.cells #[.int .u64 v, .int .u64 0, .int .u64 v, .int .u64 v] 64)) rfl _ (Below.refl _ _)
  have d3 := boxc (k := 3) (heap1_0 w1 (.cells #[.int .u64 v, .int .u64 0, .int .u64 v, .int .u64 v] 64)) rfl _ (Below.refl _ _)
  go_wp2_with fail
  all_goals
    go_ret
    refine ⟨?_, hW0.trans (hb2.mono hW0.size)⟩
    congr 1
    simp_all
set_option maxRecDepth 100000 in
theorem fright_no1 (v lo hi : Int) (hv : U64 v) (h0 : ¬ lo ≤ hi) (w : World) : Calls Tryz.prog 78 #[.agg #[.int .u64 v, .int .u64 0, .int .u64 lo, .int .u64 hi]] w fun e w' => e = .returned (.bool false) ∧ Below w.heap.size w w' := by
  have hcon := fun w => settle_no1 v lo hi hv h0 w
  clear h0
  have q0 : (w.alloc (.cells #[.int .u64 v, .int .u64 0, .int .u64 lo, .int .u64 hi] 64)).heap[w.heap.size]? = some (.cells #[.int .u64 v, .int .u64 0, .int .u64 lo, .int .u64 hi] 64) := heap1_0 _ _
  have a0 := boxc (k := 0) (u := .int .u64 v) q0 rfl
  have a1 := boxc (k := 1) (u := .int .u64 0) q0 rfl
  have a2 := boxc (k := 2) (u := .int .u64 lo) q0 rfl
  have a3 := boxc (k := 3) (u := .int .u64 hi) q0 rfl
  clear q0
  have hW0 : Below w.heap.size w (w.alloc (.cells #[.int .u64 v, .int .u64 0, .int .u64 lo, .int .u64 hi] 64)) := below_boxes1 _ _
  have hr := Below.refl (w.alloc (.cells #[.int .u64 v, .int .u64 0, .int .u64 lo, .int .u64 hi] 64)).heap.size (w.alloc (.cells #[.int .u64 v, .int .u64 0, .int .u64 lo, .int .u64 hi] 64))
  go_enter Tryz.func78, Tryz.ntmps78
  go_upto_region 1 with fail
  generalize w.alloc (.cells #[.int .u64 v, .int .u64 0, .int .u64 lo, .int .u64 hi] 64) = W at *
  go_wp2_with fail
  refine (hcon _).mono ?_
  rintro e w1 ⟨rfl, hb1⟩
  have hb2 : Below W.heap.size W (w1.alloc (.cells #[.int .u64 0, .int .u64 0, .int .u64 0, .int .u64 0] 64)) := hb1.alloc hb1.size _
  go_wp2_with fail
  go_ret
  exact ⟨rfl, hW0.trans (hb2.mono hW0.size)⟩
set_option maxRecDepth 100000 in
theorem fright_no2 (v lo hi : Int) (hv : U64 v) (h0 : lo ≤ hi) (h1 : ¬ (lo ≤ v ∧ v ≤ hi)) (w : World) : Calls Tryz.prog 78 #[.agg #[.int .u64 v, .int .u64 0, .int .u64 lo, .int .u64 hi]] w fun e w' => e = .returned (.bool false) ∧ Below w.heap.size w w' := by
  have hcon := fun w => settle_no2 v lo hi hv h0 h1 w
  clear h0 h1
  have q0 : (w.alloc (.cells #[.int .u64 v, .int .u64 0, .int .u64 lo, .int .u64 hi] 64)).heap[w.heap.size]? = some (.cells #[.int .u64 v, .int .u64 0, .int .u64 lo, .int .u64 hi] 64) := heap1_0 _ _
  have a0 := boxc (k := 0) (u := .int .u64 v) q0 rfl
  have a1 := boxc (k := 1) (u := .int .u64 0) q0 rfl
  have a2 := boxc (k := 2) (u := .int .u64 lo) q0 rfl
  have a3 := boxc (k := 3) (u := .int .u64 hi) q0 rfl
  clear q0
  have hW0 : Below w.heap.size w (w.alloc (.cells #[.int .u64 v, .int .u64 0, .int .u64 lo, .int .u64 hi] 64)) := below_boxes1 _ _
  have hr := Below.refl (w.alloc (.cells #[.int .u64 v, .int .u64 0, .int .u64 lo, .int .u64 hi] 64)).heap.size (w.alloc (.cells #[.int .u64 v, .int .u64 0, .int .u64 lo, .int .u64 hi] 64))
  go_enter Tryz.func78, Tryz.ntmps78
  go_upto_region 1 with fail
  generalize w.alloc (.cells #[.int .u64 v, .int .u64 0, .int .u64 lo, .int .u64 hi] 64) = W at *
  go_wp2_with fail
  refine (hcon _).mono ?_
  rintro e w1 ⟨rfl, hb1⟩
  have hb2 : Below W.heap.size W (w1.alloc (.cells #[.int .u64 0, .int .u64 0, .int .u64 0, .int .u64 0] 64)) := hb1.alloc hb1.size _
  go_wp2_with fail
  go_ret
  exact ⟨rfl, hW0.trans (hb2.mono hW0.size)⟩
theorem fright_any (v lo hi : Int) (hv : U64 v) (w : World) : Calls Tryz.prog 78 #[.agg #[.int .u64 v, .int .u64 0, .int .u64 lo, .int .u64 hi]] w fun e w' => e = .returned (.bool (decide (lo = v) && decide (hi = v))) ∧ Below w.heap.size w w' := by
  by_cases h0 : lo ≤ v ∧ v ≤ hi
  · exact fright_yes v lo hi hv h0.1 h0.2 w
  · have hq : (decide (lo = v) && decide (hi = v)) = false := by
      rw [Bool.and_eq_false_iff, decide_eq_false_iff_not, decide_eq_false_iff_not]; omega
    rw [hq]
    by_cases h1 : lo ≤ hi
    · exact fright_no2 v lo hi hv h1 h0 w
    · exact fright_no1 v lo hi hv h1 w
/-- The number that is known, if it is. -/
def knownF (v m lo hi : Int) : Int × Bool := if m = 0 ∧ lo = v ∧ hi = v then (v, true) else (0, false)
set_option maxRecDepth 100000 in
theorem fknown_any (v m lo hi : Int) (hv : U64 v) (w : World) : Calls Tryz.prog 44 #[.agg #[.int .u64 v, .int .u64 m, .int .u64 lo, .int .u64 hi]] w fun e w' => e = .returned (.tuple #[.int .u64 (knownF v m lo hi).1, .bool (knownF v m lo hi).2]) ∧ Below w.heap.size w w' := by
  by_cases hm : m = 0
  case neg =>
    have hq : (m != 0) = true := by simp [hm]
    unfold knownF
    rw [if_neg (fun h => hm h.1)]
    clear hm
    have q0 : (w.alloc (.cells #[.int .u64 v, .int .u64 m, .int .u64 lo, .int .u64 hi] 64)).heap[w.heap.size]? = some (.cells #[.int .u64 v, .int .u64 m, .int .u64 lo, .int .u64 hi] 64) := heap1_0 _ _
    have a0 := boxc (k := 0) (u := .int .u64 v) q0 rfl
    have a1 := boxc (k := 1) (u := .int .u64 m) q0 rfl
    have a2 := boxc (k := 2) (u := .int .u64 lo) q0 rfl
    have a3 := boxc (k := 3) (u := .int .u64 hi) q0 rfl
    clear q0
    have hW0 : Below w.heap.size w (w.alloc (.cells #[.int .u64 v, .int .u64 m, .int .u64 lo, .int .u64 hi] 64)) := below_boxes1 _ _
    have hr := Below.refl (w.alloc (.cells #[.int .u64 v, .int .u64 m, .int .u64 lo, .int .u64 hi] 64)).heap.size (w.alloc (.cells #[.int .u64 v, .int .u64 m, .int .u64 lo, .int .u64 hi] 64))
    go_enter Tryz.func44, Tryz.ntmps44
    go_upto_region 1 with fail
    generalize w.alloc (.cells #[.int .u64 v, .int .u64 m, .int .u64 lo, .int .u64 hi] 64) = W at *
    go_wp2_with fail
    go_ret2
    exact ⟨rfl, hW0⟩
  subst hm
  cases hr1 : (decide (lo = v) && decide (hi = v))
  · have hk : knownF v 0 lo hi = (0, false) := by
      unfold knownF
      simp at hr1
      rw [if_neg (fun h => hr1 h.2.1 h.2.2)]
    rw [hk]
    have hcon := fun w => fright_any v lo hi hv w
    rw [hr1] at hcon
    clear hr1 hk
    have q0 : (w.alloc (.cells #[.int .u64 v, .int .u64 0, .int .u64 lo, .int .u64 hi] 64)).heap[w.heap.size]? = some (.cells #[.int .u64 v, .int .u64 0, .int .u64 lo, .int .u64 hi] 64) := heap1_0 _ _
    have a0 := boxc (k := 0) (u := .int .u64 v) q0 rfl
    have a1 := boxc (k := 1) (u := .int .u64 0) q0 rfl
    have a2 := boxc (k := 2) (u := .int .u64 lo) q0 rfl
    have a3 := boxc (k := 3) (u := .int .u64 hi) q0 rfl
    clear q0
    have hW0 : Below w.heap.size w (w.alloc (.cells #[.int .u64 v, .int .u64 0, .int .u64 lo, .int .u64 hi] 64)) := below_boxes1 _ _
    have hr := Below.refl (w.alloc (.cells #[.int .u64 v, .int .u64 0, .int .u64 lo, .int .u64 hi] 64)).heap.size (w.alloc (.cells #[.int .u64 v, .int .u64 0, .int .u64 lo, .int .u64 hi] 64))
    go_enter Tryz.func44, Tryz.ntmps44
    go_upto_region 1 with fail
    generalize w.alloc (.cells #[.int .u64 v, .int .u64 0, .int .u64 lo, .int .u64 hi] 64) = W at *
    go_wp2_with fail
    refine (hcon _).mono ?_
    rintro e w1 ⟨rfl, hb1⟩
    go_wp2_with fail
    go_ret2
    exact ⟨rfl, hW0.trans (hb1.mono hW0.size)⟩
  · have hk : knownF v 0 lo hi = (v, true) := by
      unfold knownF
      simp at hr1
      rw [if_pos ⟨rfl, hr1⟩]
    rw [hk]
    have hcon := fun w => fright_any v lo hi hv w
    rw [hr1] at hcon
    clear hr1 hk
    have q0 : (w.alloc (.cells #[.int .u64 v, .int .u64 0, .int .u64 lo, .int .u64 hi] 64)).heap[w.heap.size]? = some (.cells #[.int .u64 v, .int .u64 0, .int .u64 lo, .int .u64 hi] 64) := heap1_0 _ _
    have a0 := boxc (k := 0) (u := .int .u64 v) q0 rfl
    have a1 := boxc (k := 1) (u := .int .u64 0) q0 rfl
    have a2 := boxc (k := 2) (u := .int .u64 lo) q0 rfl
    have a3 := boxc (k := 3) (u := .int .u64 hi) q0 rfl
    clear q0
    have hW0 : Below w.heap.size w (w.alloc (.cells #[.int .u64 v, .int .u64 0, .int .u64 lo, .int .u64 hi] 64)) := below_boxes1 _ _
    have hr := Below.refl (w.alloc (.cells #[.int .u64 v, .int .u64 0, .int .u64 lo, .int .u64 hi] 64)).heap.size (w.alloc (.cells #[.int .u64 v, .int .u64 0, .int .u64 lo, .int .u64 hi] 64))
    go_enter Tryz.func44, Tryz.ntmps44
    go_upto_region 1 with fail
    generalize w.alloc (.cells #[.int .u64 v, .int .u64 0, .int .u64 lo, .int .u64 hi] 64) = W at *
    go_wp2_with fail
    refine (hcon _).mono ?_
    rintro e w1 ⟨rfl, hb1⟩
    go_wp2_with fail
    go_ret2
    exact ⟨rfl, hW0.trans (hb1.mono hW0.size)⟩
end Go.Proofs.YtncogaikiceidaaGreat
end

section
/- What is known of a number, by the reference: bits, ranges, and both brought in line once. No statement is proved here. -/
namespace Go.Proofs.YtncogaikiceidaaGreat
open Go.RowKit
set_option linter.unusedSimpArgs false
set_option linter.unusedVariables false
set_option linter.unnecessarySimpa false
/-- The bit i of a number. -/
def bitB (n : Int) (i : Nat) : Bool := (n / 2 ^ i).tmod 2 == 1
theorem bitB_0 (i : Nat) : bitB 0 i = false := by simp [bitB]
set_option maxRecDepth 100000 in
theorem rbit_any (n : Int) (i : Nat) (hi : i < 64) (w : World) : Calls Tryz.prog 122 #[.int .u64 n, .int .i64 i] w fun e w' => e = .returned (.bool (bitB n i)) ∧ w' = w := by
  have h0 : (0 : Int) ≤ (i : Int) := by omega
  have h1 : (i : Int) ≤ 64 := by omega
  have h2 : (i : Int).toNat = i := by omega
  go_enter Tryz.func122, Tryz.ntmps122
  go_wp2_with fail
  go_ret
  exact ⟨rfl, rfl⟩
theorem meet_v (a b v : Int) : (a ≤ v ∧ v ≤ b → (if a < v then v else a) = v ∧ (if v < b then v else b) = v ∧ (decide (a ≤ b) && decide (v ≤ v)) = true ∧ decide ((if a < v then v else a) ≤ (if v < b then v else b)) = true) ∧ (¬ (a ≤ v ∧ v ≤ b) → ((decide (a ≤ b) && decide (v ≤ v)) && decide ((if a < v then v else a) ≤ (if v < b then v else b))) = false) := by
  constructor
  · rintro ⟨h1, h2⟩
    have e1 : (if a < v then v else a) = v := by split <;> omega
    have e2 : (if v < b then v else b) = v := by split <;> omega
    rw [e1, e2]
    exact ⟨rfl, rfl, by simp; omega, by simp⟩
  · intro h
    rw [Bool.and_eq_false_iff, Bool.and_eq_false_iff, decide_eq_false_iff_not, decide_eq_false_iff_not, decide_eq_false_iff_not]
    by_cases h1 : a < v <;> by_cases h2 : v < b <;> simp [h1, h2] <;> omega
theorem half_bits {v : Int} (h0 : 0 ≤ v) (j : Nat) : v % 2 ^ (j + 1) = v % 2 ^ j + (if bitB v j = true then 2 ^ j else 0) := by
  have hp : (0 : Int) < 2 ^ j := Int.pow_pos (by decide)
  have e : v % 2 ^ (j + 1) = v % 2 ^ j + 2 ^ j * ((v / 2 ^ j) % 2) := by
    obtain ⟨n, rfl⟩ := Int.eq_ofNat_of_zero_le h0
    have : n % 2 ^ (j + 1) = n % 2 ^ j + 2 ^ j * (n / 2 ^ j % 2) := by rw [Nat.pow_succ, Nat.mod_mul]
    exact_mod_cast this
  rw [e]
  have hd : 0 ≤ v / 2 ^ j := Int.ediv_nonneg h0 (Int.le_of_lt hp)
  have ht : (v / 2 ^ j).tmod 2 = (v / 2 ^ j) % 2 := Int.tmod_eq_emod_of_nonneg hd
  unfold bitB
  rw [ht]
  have h2 : (v / 2 ^ j) % 2 = 0 ∨ (v / 2 ^ j) % 2 = 1 := by omega
  rcases h2 with h | h <;> rw [h] <;> simp
theorem pow_le64 {j : Nat} (h : j < 64) : (2 : Int) ^ j ≤ 9223372036854775808 := by
  have h1 : (2 : Nat) ^ j ≤ 9223372036854775808 := Nat.le_trans (Nat.pow_le_pow_right (by decide) (show j ≤ 63 by omega)) (by decide)
  have e : ((2 ^ j : Nat) : Int) = (2 : Int) ^ j := by rw [Int.natCast_pow]; rfl
  rw [← e]
  exact Int.ofNat_le.2 h1
theorem mod_lt64 {v : Int} {j : Nat} : v % 2 ^ j < 2 ^ j ∧ 0 ≤ v % 2 ^ j := ⟨Int.emod_lt_of_pos _ (Int.pow_pos (by decide)), Int.emod_nonneg _ (by have : (0 : Int) < 2 ^ j := Int.pow_pos (by decide); omega)⟩
theorem all_bits {v : Int} (h : U64 v) : v % 2 ^ 64 = v := Int.emod_eq_of_lt h.1 (by have := h.2; omega)
theorem half_down {n : Int} (h : U64 n) (j : Nat) (hj : j < 64) : IntKind.u64.wrap (IntKind.u64.wrap (n / 2 ^ (j + 1) * 2) + (n / 2 ^ j).tmod 2) = n / 2 ^ j := by
  have hp : (0 : Int) < 2 ^ j := Int.pow_pos (by decide)
  have hd : 0 ≤ n / 2 ^ j := Int.ediv_nonneg h.1 (Int.le_of_lt hp)
  have e : n / 2 ^ (j + 1) = n / 2 ^ j / 2 := by
    obtain ⟨k, rfl⟩ := Int.eq_ofNat_of_zero_le h.1
    have : k / 2 ^ (j + 1) = k / 2 ^ j / 2 := by rw [Nat.pow_succ, Nat.div_div_eq_div_mul]
    exact_mod_cast this
  have ht : (n / 2 ^ j).tmod 2 = (n / 2 ^ j) % 2 := Int.tmod_eq_emod_of_nonneg hd
  have hle : n / 2 ^ j ≤ n := Int.ediv_le_self _ h.1
  have h2 := h.2
  rw [e, ht, IntKind.wrap_u64, IntKind.wrap_u64]
  generalize n / 2 ^ j = p at *
  omega
theorem div_64 {n : Int} (h : U64 n) : n / 2 ^ 64 = 0 := Int.ediv_eq_zero_of_lt h.1 (by have := h.2; omega)
set_option maxRecDepth 100000 in
set_option maxHeartbeats 4000000 in
theorem rtright_any (v m : Int) (w : World) : Calls Tryz.prog 91 #[.agg #[.int .u64 v, .int .u64 m]] w fun e w' => ∃ b, e = .returned (.bool b) ∧ (m = 0 → b = true) ∧ Below w.heap.size w w' := by
  have q0 : (w.alloc (.cells #[.int .u64 v, .int .u64 m] 60)).heap[w.heap.size]? = some (.cells #[.int .u64 v, .int .u64 m] 60) := heap1_0 _ _
  have a0 := boxc (k := 0) (u := .int .u64 v) q0 rfl
  have a1 := boxc (k := 1) (u := .int .u64 m) q0 rfl
  clear q0
  have hW0 : Below w.heap.size w (w.alloc (.cells #[.int .u64 v, .int .u64 m] 60)) := below_boxes1 _ _
  have hr := Below.refl (w.alloc (.cells #[.int .u64 v, .int .u64 m] 60)).heap.size (w.alloc (.cells #[.int .u64 v, .int .u64 m] 60))
  go_enter Tryz.func91, Tryz.ntmps91
  go_upto_region 1 with fail
  generalize w.alloc (.cells #[.int .u64 v, .int .u64 m] 60) = W at *
  go_wp2_with fail
  go_loopw [3] (fun k wr => ∃ j : Nat, j ≤ 64 ∧ k = .int .i64 j ∧ wr = W) (fun k _ => 64 - (intOf k).toNat)
  case atStart => exact ⟨0, by omega, rfl, rfl⟩
  case round =>
    obtain ⟨j, hj, rfl, rfl⟩ := hrel
    by_cases hlt : j < 64
    · have hlt' : (j : Int) < 64 := by omega
      have c1 := fun w => rbit_any v j hlt w
      have c2 := fun w => rbit_any m j hlt w
      have hz : m = 0 → bitB m j = false := fun h => by rw [h]; exact bitB_0 j
      generalize bitB v j = b1 at *
      generalize bitB m j = b2 at *
      cases b1
      · go_wp2_with fail
        refine (c1 _).mono ?_
        rintro e w1 ⟨rfl, rfl⟩
        go_wp2_with fail
        go_roundw
        case rel => exact ⟨j + 1, by omega, by go_num, by first | rfl | trivial⟩
        case measure => simp [intOf]; omega
      · cases b2
        · go_wp2_with fail
          refine (c1 _).mono ?_
          rintro e w1 ⟨rfl, rfl⟩
          go_wp2_with fail
          refine (c2 _).mono ?_
          rintro e w1 ⟨rfl, rfl⟩
          go_wp2_with fail
          go_roundw
          case rel => exact ⟨j + 1, by omega, by go_num, by first | rfl | trivial⟩
          case measure => simp [intOf]; omega
        · have hm : ¬ m = 0 := fun h => by have := hz h; cases this
          clear hz
          go_wp2_with fail
          refine (c1 _).mono ?_
          rintro e w1 ⟨rfl, rfl⟩
          go_wp2_with fail
          refine (c2 _).mono ?_
          rintro e w1 ⟨rfl, rfl⟩
          go_wp2_with fail
          go_ret
          exact ⟨false, rfl, fun h => absurd h hm, hW0⟩
    · obtain rfl : j = 64 := by omega
      go_wp2_with fail
      go_ret
      exact ⟨true, rfl, fun _ => rfl, hW0⟩
set_option maxRecDepth 100000 in
set_option maxHeartbeats 4000000 in
theorem rtboth_any (v m u n : Int) (w : World) : Calls Tryz.prog 156 #[.agg #[.int .u64 v, .int .u64 m], .agg #[.int .u64 u, .int .u64 n]] w fun e w' => ∃ b, e = .returned (.bool b) ∧ (m = 0 → n = 0 → b = true) ∧ Below w.heap.size w w' := by
  have q0 : ((w.alloc (.cells #[.int .u64 v, .int .u64 m] 60)).alloc (.cells #[.int .u64 u, .int .u64 n] 60)).heap[w.heap.size]? = some (.cells #[.int .u64 v, .int .u64 m] 60) := heap2_0 _ _ _
  have a0 := boxc (k := 0) (u := .int .u64 v) q0 rfl
  have a1 := boxc (k := 1) (u := .int .u64 m) q0 rfl
  clear q0
  have q1 : ((w.alloc (.cells #[.int .u64 v, .int .u64 m] 60)).alloc (.cells #[.int .u64 u, .int .u64 n] 60)).heap[(w.heap.size + 1)]? = some (.cells #[.int .u64 u, .int .u64 n] 60) := heap2_1 _ _ _
  have b0 := boxc (k := 0) (u := .int .u64 u) q1 rfl
  have b1 := boxc (k := 1) (u := .int .u64 n) q1 rfl
  clear q1
  have hW0 : Below w.heap.size w ((w.alloc (.cells #[.int .u64 v, .int .u64 m] 60)).alloc (.cells #[.int .u64 u, .int .u64 n] 60)) := below_boxes2 _ _ _
  have hr := Below.refl ((w.alloc (.cells #[.int .u64 v, .int .u64 m] 60)).alloc (.cells #[.int .u64 u, .int .u64 n] 60)).heap.size ((w.alloc (.cells #[.int .u64 v, .int .u64 m] 60)).alloc (.cells #[.int .u64 u, .int .u64 n] 60))
  go_enter Tryz.func156, Tryz.ntmps156
  go_upto_region 1 with fail
  generalize (w.alloc (.cells #[.int .u64 v, .int .u64 m] 60)).alloc (.cells #[.int .u64 u, .int .u64 n] 60) = W at *
  go_wp2_with fail
  refine (rtright_any v m _).mono ?_
  rintro e w1 ⟨b1, rfl, hq1, hb1⟩
  cases b1
  · have hm : ¬ m = 0 := fun h => by have := hq1 h; cases this
    clear hq1
    go_wp2_with fail
    go_ret
    exact ⟨false, rfl, fun h _ => absurd h hm, hW0.trans (hb1.mono hW0.size)⟩
  · go_wp2_with fail
    refine (rtright_any u n _).mono ?_
    rintro e w2 ⟨b2, rfl, hq2, hc2⟩
    have hb2 := hb1.trans (hc2.mono hb1.size)
    clear hc2
    go_wp2_with fail
    go_ret
    exact ⟨b2, rfl, fun _ h => hq2 h, hW0.trans (hb2.mono hW0.size)⟩
set_option maxRecDepth 100000 in
theorem rsright_any (a b : Int) (w : World) : Calls Tryz.prog 92 #[.agg #[.int .u64 a, .int .u64 b]] w fun e w' => e = .returned (.bool (decide (a ≤ b))) ∧ Below w.heap.size w w' := by
  go_enter Tryz.func92, Tryz.ntmps92
  go_wp2_with fail
  go_ret
  exact ⟨rfl, (Below.refl _ _).alloc (Nat.le_refl _) _⟩
set_option maxRecDepth 100000 in
theorem rsboth_any (a b c d : Int) (w : World) : Calls Tryz.prog 155 #[.agg #[.int .u64 a, .int .u64 b], .agg #[.int .u64 c, .int .u64 d]] w fun e w' => e = .returned (.bool (decide (a ≤ b) && decide (c ≤ d))) ∧ Below w.heap.size w w' := by
  have f1 := fun w => rsright_any a b w
  have f2 := fun w => rsright_any c d w
  generalize decide (a ≤ b) = p at *
  generalize decide (c ≤ d) = q at *
  have q0 : ((w.alloc (.cells #[.int .u64 a, .int .u64 b] 62)).alloc (.cells #[.int .u64 c, .int .u64 d] 62)).heap[w.heap.size]? = some (.cells #[.int .u64 a, .int .u64 b] 62) := heap2_0 _ _ _
  have k0 := boxc (k := 0) (u := .int .u64 a) q0 rfl
  have k1 := boxc (k := 1) (u := .int .u64 b) q0 rfl
  clear q0
  have q1 : ((w.alloc (.cells #[.int .u64 a, .int .u64 b] 62)).alloc (.cells #[.int .u64 c, .int .u64 d] 62)).heap[(w.heap.size + 1)]? = some (.cells #[.int .u64 c, .int .u64 d] 62) := heap2_1 _ _ _
  have l0 := boxc (k := 0) (u := .int .u64 c) q1 rfl
  have l1 := boxc (k := 1) (u := .int .u64 d) q1 rfl
  clear q1
  have hW0 : Below w.heap.size w ((w.alloc (.cells #[.int .u64 a, .int .u64 b] 62)).alloc (.cells #[.int .u64 c, .int .u64 d] 62)) := below_boxes2 _ _ _
  have hr := Below.refl ((w.alloc (.cells #[.int .u64 a, .int .u64 b] 62)).alloc (.cells #[.int .u64 c, .int .u64 d] 62)).heap.size ((w.alloc (.cells #[.int .u64 a, .int .u64 b] 62)).alloc (.cells #[.int .u64 c, .int .u64 d] 62))
  go_enter Tryz.func155, Tryz.ntmps155
  go_upto_region 1 with fail
  generalize (w.alloc (.cells #[.int .u64 a, .int .u64 b] 62)).alloc (.cells #[.int .u64 c, .int .u64 d] 62) = W at *
  cases p
  · go_wp2_with fail
    refine (f1 _).mono ?_
    rintro e w1 ⟨rfl, hb1⟩
    go_wp2_with fail
    go_ret
    exact ⟨rfl, hW0.trans (hb1.mono hW0.size)⟩
  · go_wp2_with fail
    refine (f1 _).mono ?_
    rintro e w1 ⟨rfl, hb1⟩
    go_wp2_with fail
    refine (f2 _).mono ?_
    rintro e w2 ⟨rfl, hc2⟩
    have hb2 := hb1.trans (hc2.mono hb1.size)
    clear hc2
    go_wp2_with fail
    go_ret
    exact ⟨by simp, hW0.trans (hb2.mono hW0.size)⟩
set_option maxRecDepth 100000 in
set_option maxHeartbeats 4000000 in
theorem rsmeet_any (a b c d : Int) (w : World) : Calls Tryz.prog 123 #[.agg #[.int .u64 a, .int .u64 b], .agg #[.int .u64 c, .int .u64 d]] w fun e w' => ∃ x y r, e = .returned (.tuple #[.agg #[.int .u64 x, .int .u64 y], .bool r]) ∧ (∀ v, c = v → d = v → (a ≤ v ∧ v ≤ b → x = v ∧ y = v ∧ r = true) ∧ (¬ (a ≤ v ∧ v ≤ b) → r = false)) ∧ Below w.heap.size w w' := by
  obtain ⟨s0, e1⟩ : ∃ n, (if a < c then c else a) = n := ⟨_, rfl⟩
  obtain ⟨s1, e2⟩ : ∃ n, (if d < b then d else b) = n := ⟨_, rfl⟩
  have f1 := fun w => rsboth_any a b c d w
  have f2 := fun w => rsright_any s0 s1 w
  have HE : RowKit.Hid (∀ v, c = v → d = v → (a ≤ v ∧ v ≤ b → s0 = v ∧ s1 = v ∧ (decide (a ≤ b) && decide (c ≤ d)) = true ∧ decide (s0 ≤ s1) = true) ∧ (¬ (a ≤ v ∧ v ≤ b) → ((decide (a ≤ b) && decide (c ≤ d)) && decide (s0 ≤ s1)) = false)) := Lib.hid (by intro v hc hd; subst hc; subst hd; rw [← e1, ← e2]; exact meet_v a b _)
  generalize (decide (a ≤ b) && decide (c ≤ d)) = p at *
  generalize decide (s0 ≤ s1) = q at *
  have q0 : (((w.alloc (.cells #[.int .u64 a, .int .u64 b] 62)).alloc (.cells #[.int .u64 c, .int .u64 d] 62)).alloc (.cells #[.int .u64 0, .int .u64 0] 62)).heap[w.heap.size]? = some (.cells #[.int .u64 a, .int .u64 b] 62) := heap3_0 _ _ _ _
  have k0 := boxc (k := 0) (u := .int .u64 a) q0 rfl
  have k1 := boxc (k := 1) (u := .int .u64 b) q0 rfl
  clear q0
  have q1 : (((w.alloc (.cells #[.int .u64 a, .int .u64 b] 62)).alloc (.cells #[.int .u64 c, .int .u64 d] 62)).alloc (.cells #[.int .u64 0, .int .u64 0] 62)).heap[(w.heap.size + 1)]? = some (.cells #[.int .u64 c, .int .u64 d] 62) := heap3_1 _ _ _ _
  have l0 := boxc (k := 0) (u := .int .u64 c) q1 rfl
  have l1 := boxc (k := 1) (u := .int .u64 d) q1 rfl
  clear q1
  have q2 : (((w.alloc (.cells #[.int .u64 a, .int .u64 b] 62)).alloc (.cells #[.int .u64 c, .int .u64 d] 62)).alloc (.cells #[.int .u64 0, .int .u64 0] 62)).heap[(w.heap.size + 2)]? = some (.cells #[.int .u64 0, .int .u64 0] 62) := heap3_2 _ _ _ _
  have n0 := boxc (k := 0) (u := .int .u64 0) q2 rfl
  have n1 := boxc (k := 1) (u := .int .u64 0) q2 rfl
  have t2 := boxt q2
  clear q2
  have hW0 : Below w.heap.size w (((w.alloc (.cells #[.int .u64 a, .int .u64 b] 62)).alloc (.cells #[.int .u64 c, .int .u64 d] 62)).alloc (.cells #[.int .u64 0, .int .u64 0] 62)) := below_boxes3 _ _ _ _
  have hr := Below.refl (((w.alloc (.cells #[.int .u64 a, .int .u64 b] 62)).alloc (.cells #[.int .u64 c, .int .u64 d] 62)).alloc (.cells #[.int .u64 0, .int .u64 0] 62)).heap.size (((w.alloc (.cells #[.int .u64 a, .int .u64 b] 62)).alloc (.cells #[.int .u64 c, .int .u64 d] 62)).alloc (.cells #[.int .u64 0, .int .u64 0] 62))
  go_enter Tryz.func123, Tryz.ntmps123
  go_upto_region 1 with fail
  generalize ((w.alloc (.cells #[.int .u64 a, .int .u64 b] 62)).alloc (.cells #[.int .u64 c, .int .u64 d] 62)).alloc (.cells #[.int .u64 0, .int .u64 0] 62) = W at *
  go_upto_region 2 with fail
  generalize hV : W.alloc _ = V at *
  have hbV : Below W.heap.size W V := by rw [← hV]; exact (Below.refl _ _).alloc (Nat.le_refl _) _
  have d0 : ∀ w', Below V.heap.size V w' → w'.cell? ⟨W.heap.size, 0, none⟩ = some (.int .u64 s0) := by rw [← hV]; exact boxc (heap1_0 _ _) rfl
  have d1 : ∀ w', Below V.heap.size V w' → w'.cell? ⟨W.heap.size, 1, none⟩ = some (.int .u64 s1) := by rw [← hV]; exact boxc (heap1_0 _ _) rfl
  have hrV := Below.refl V.heap.size V
  clear hV
  cases p
  · go_wp2_with fail
    refine (f1 _).mono ?_
    rintro e w1 ⟨rfl, hv1⟩
    have hb1 := hbV.trans (hv1.mono hbV.size)
    have z0 := n0 _ hb1
    have z1 := n1 _ hb1
    go_wp2_with fail
    refine bodyPost_ret (v := .tuple #[.agg #[.int .u64 0, .int .u64 0], .bool false]) (by simp [results, Tryz.results123, go_sem, *]) rfl ⟨0, 0, false, rfl, fun v hc hd => ⟨fun h => absurd ((HE.out v hc hd).1 h).2.2.1 (by simp), fun _ => rfl⟩, ?_⟩
    (repeat (refine Below.setCell ?_ (by first | exact Nat.le_refl _ | exact Nat.le_succ _ | (simp; done) | (simp; omega)) _))
    exact hW0.trans (hb1.mono hW0.size)
  · cases q
    · go_wp2_with fail
      refine (f1 _).mono ?_
      rintro e w1 ⟨rfl, hv1⟩
      have hb1 := hbV.trans (hv1.mono hbV.size)
      go_wp2_with fail
      refine (f2 _).mono ?_
      rintro e w2 ⟨rfl, hc2⟩
      have hv2 := hv1.trans (hc2.mono hv1.size)
      have hb2 := hbV.trans (hv2.mono hbV.size)
      clear hc2
      have z0 := n0 _ hb2
      have z1 := n1 _ hb2
      go_wp2_with fail
      refine bodyPost_ret (v := .tuple #[.agg #[.int .u64 0, .int .u64 0], .bool false]) (by simp [results, Tryz.results123, go_sem, *]) rfl ⟨0, 0, false, rfl, fun v hc hd => ⟨fun h => absurd ((HE.out v hc hd).1 h).2.2.2 (by simp), fun _ => rfl⟩, ?_⟩
      (repeat (refine Below.setCell ?_ (by first | exact Nat.le_refl _ | exact Nat.le_succ _ | (simp; done) | (simp; omega)) _))
      exact hW0.trans (hb2.mono hW0.size)
    · go_wp2_with fail
      refine (f1 _).mono ?_
      rintro e w1 ⟨rfl, hv1⟩
      have hb1 := hbV.trans (hv1.mono hbV.size)
      go_wp2_with fail
      refine (f2 _).mono ?_
      rintro e w2 ⟨rfl, hc2⟩
      have hv2 := hv1.trans (hc2.mono hv1.size)
      have hb2 := hbV.trans (hv2.mono hbV.size)
      clear hc2
      have z0 := n0 _ hb2
      have z1 := n1 _ hb2
      go_wp2_with fail
      refine bodyPost_ret (v := .tuple #[.agg #[.int .u64 s0, .int .u64 s1], .bool true]) (by simp [results, Tryz.results123, go_sem, *]) rfl ⟨s0, s1, true, rfl, fun v hc hd => ⟨fun h => ⟨((HE.out v hc hd).1 h).1, ((HE.out v hc hd).1 h).2.1, rfl⟩, fun h => absurd ((HE.out v hc hd).2 h) (by simp)⟩, ?_⟩
      (repeat (refine Below.setCell ?_ (by first | exact Nat.le_refl _ | exact Nat.le_succ _ | (simp; done) | (simp; omega)) _))
      exact hW0.trans (hb2.mono hW0.size)
set_option maxRecDepth 100000 in
set_option maxHeartbeats 4000000 in
theorem rtmade_any (v m : Int) (w : World) : Calls Tryz.prog 157 #[.int .u64 v, .int .u64 m] w fun e w' => ∃ x, e = .returned (.agg #[.int .u64 x, .int .u64 m]) ∧ (m = 0 → U64 v → x = v) ∧ Below w.heap.size w w' := by
  have q0 : ((w.alloc (.cells #[.int .u64 0, .int .u64 0] 60)).alloc (.cells #[.int .u64 0, .int .u64 m] 60)).heap[w.heap.size]? = some (.cells #[.int .u64 0, .int .u64 0] 60) := heap2_0 _ _ _
  have n0 := boxc (k := 0) (u := .int .u64 0) q0 rfl
  have n1 := boxc (k := 1) (u := .int .u64 0) q0 rfl
  have t0 := boxt q0
  clear q0
  have q1 : ((w.alloc (.cells #[.int .u64 0, .int .u64 0] 60)).alloc (.cells #[.int .u64 0, .int .u64 m] 60)).heap[(w.heap.size + 1)]? = some (.cells #[.int .u64 0, .int .u64 m] 60) := heap2_1 _ _ _
  have k0 := boxc (k := 0) (u := .int .u64 0) q1 rfl
  have k1 := boxc (k := 1) (u := .int .u64 m) q1 rfl
  have t1 := boxt q1
  clear q1
  have hW0 : Below w.heap.size w ((w.alloc (.cells #[.int .u64 0, .int .u64 0] 60)).alloc (.cells #[.int .u64 0, .int .u64 m] 60)) := below_boxes2 _ _ _
  have hr := Below.refl ((w.alloc (.cells #[.int .u64 0, .int .u64 0] 60)).alloc (.cells #[.int .u64 0, .int .u64 m] 60)).heap.size ((w.alloc (.cells #[.int .u64 0, .int .u64 0] 60)).alloc (.cells #[.int .u64 0, .int .u64 m] 60))
  go_enter Tryz.func157, Tryz.ntmps157
  go_upto_region 2 with fail
  generalize (w.alloc (.cells #[.int .u64 0, .int .u64 0] 60)).alloc (.cells #[.int .u64 0, .int .u64 m] 60) = W at *
  go_wp2_with fail
  have r := hr
  have hn0 := n0 _ hr
  have hn1 := n1 _ hr
  have hk0 := k0 _ hr
  have hk1 := k1 _ hr
  have ht0 := fun k => t0 k _ hr
  have ht1 := fun k => t1 k _ hr
  clear n0 n1 k0 k1 t0 t1 hr r
  go_loopw [6] (fun k wr => ∃ (j : Nat) (x : Int), j ≤ 64 ∧ k = .int .i64 j ∧ (m = 0 → U64 v → x = v % 2 ^ j) ∧ wr.cell? ⟨w.heap.size + 1, 0, none⟩ = some (.int .u64 x) ∧ wr.cell? ⟨w.heap.size + 1, 1, none⟩ = some (.int .u64 m) ∧ wr.cell? ⟨w.heap.size, 0, none⟩ = some (.int .u64 0) ∧ wr.cell? ⟨w.heap.size, 1, none⟩ = some (.int .u64 0) ∧ (∀ k, wr.frozen? ⟨w.heap.size + 1, k, none⟩ = false) ∧ (∀ k, wr.frozen? ⟨w.heap.size, k, none⟩ = false) ∧ Below w.heap.size w wr) (fun k _ => 64 - (intOf k).toNat)
  case atStart => exact ⟨0, 0, by omega, rfl, fun _ _ => by simp, hk0, hk1, hn0, hn1, ht1, ht0, hW0⟩
  case round =>
    obtain ⟨j, x, hj, rfl, hx, r0, r1, r2, r3, r4, r5, r6⟩ := hrel
    clear hn0 hn1 hk0 hk1 ht0 ht1 hW0
    by_cases hlt : j < 64
    · have hlt' : (j : Int) < 64 := by omega
      have hj0 : (0 : Int) ≤ (j : Int) := by omega
      have hj1 : (j : Int) ≤ 64 := by omega
      have hjn : (j : Int).toNat = j := by omega
      have c1 := fun w => rbit_any v j hlt w
      have c2 := fun w => rbit_any m j hlt w
      have hstay : bitB v j = false ∨ ¬ m = 0 → (m = 0 → U64 v → x = v % 2 ^ (j + 1)) := fun h hm hv => by
        rcases h with h | h
        · rw [half_bits hv.1, h, ← hx hm hv]; simp
        · exact absurd hm h
      have hadd : bitB v j = true → (m = 0 → U64 v → IntKind.u64.wrap (x + IntKind.u64.wrap (2 ^ j)) = v % 2 ^ (j + 1)) := fun h hm hv => by
        have h1 := pow_le64 hlt
        have h2 := @mod_lt64 v j
        have hp : (0 : Int) < 2 ^ j := Int.pow_pos (by decide)
        rw [half_bits hv.1, h, hx hm hv, IntKind.wrap_u64, IntKind.wrap_u64, if_pos rfl]
        generalize (2 : Int) ^ j = p at *
        omega
      have hz : m = 0 → bitB m j = false := fun h => by rw [h]; exact bitB_0 j
      have HS := Lib.hid hstay
      have HA := Lib.hid hadd
      have HZ := Lib.hid hz
      clear hstay hadd hx hz
      generalize bitB v j = b1 at *
      generalize bitB m j = b2 at *
      cases b1
      · go_wp2_with fail
        refine (c1 _).mono ?_
        rintro e w1 ⟨rfl, rfl⟩
        go_wp2_with fail
        go_roundw
        case rel => exact ⟨j + 1, x, by omega, by go_num, HS.out (.inl (by trivial)), r0, r1, r2, r3, r4, r5, r6⟩
        case measure => simp [intOf]; omega
      · cases b2
        · go_wp2_with fail
          refine (c1 _).mono ?_
          rintro e w1 ⟨rfl, rfl⟩
          go_wp2_with fail
          refine (c2 _).mono ?_
          rintro e w1 ⟨rfl, rfl⟩
          go_wp2_with fail
          go_region
          go_wp2_with fail
          go_roundw
          case rel =>
            refine ⟨j + 1, _, by omega, by go_num, HA.out (by trivial), ?_, ?_, ?_, ?_, ?_, ?_, ?_⟩
            all_goals first | exact (Below.setCell r6 (Nat.le_succ _) _).drew | simp [go_sem, *]
          case measure => simp [intOf]; omega
        · go_wp2_with fail
          refine (c1 _).mono ?_
          rintro e w1 ⟨rfl, rfl⟩
          go_wp2_with fail
          refine (c2 _).mono ?_
          rintro e w1 ⟨rfl, rfl⟩
          go_wp2_with fail
          go_roundw
          case rel => exact ⟨j + 1, x, by omega, by go_num, HS.out (.inr (fun h => by have := HZ.out h; cases this)), r0, r1, r2, r3, r4, r5, r6⟩
          case measure => simp [intOf]; omega
    · obtain rfl : j = 64 := by omega
      go_wp2_with fail
      refine bodyPost_ret (v := .agg #[.int .u64 x, .int .u64 m]) (by simp [results, Tryz.results157, go_sem, *]) rfl ⟨x, rfl, fun hm hv => by rw [hx hm hv]; exact all_bits hv, ?_⟩
      (repeat (refine Below.setCell ?_ (by first | exact Nat.le_refl _ | exact Nat.le_succ _ | (simp; done) | (simp; omega)) _))
      exact r6
set_option maxRecDepth 100000 in
set_option maxHeartbeats 4000000 in
theorem rranged_any (lo hi : Int) (w : World) : Calls Tryz.prog 125 #[.agg #[.int .u64 lo, .int .u64 hi]] w fun e w' => ∃ x y, e = .returned (.agg #[.int .u64 x, .int .u64 y]) ∧ (lo = hi → U64 lo → x = lo ∧ y = 0) ∧ Below w.heap.size w w' := by
  have q0 : (((w.alloc (.cells #[.int .u64 lo, .int .u64 hi] 62)).alloc (.cells #[.int .u64 0, .int .u64 0] 60)).alloc (.cells #[.int .u64 0, .int .u64 0] 60)).heap[w.heap.size]? = some (.cells #[.int .u64 lo, .int .u64 hi] 62) := heap3_0 _ _ _ _
  have m0 := boxc (k := 0) (u := .int .u64 lo) q0 rfl
  have m1 := boxc (k := 1) (u := .int .u64 hi) q0 rfl
  have t0 := boxt q0
  clear q0
  have q1 : (((w.alloc (.cells #[.int .u64 lo, .int .u64 hi] 62)).alloc (.cells #[.int .u64 0, .int .u64 0] 60)).alloc (.cells #[.int .u64 0, .int .u64 0] 60)).heap[(w.heap.size + 1)]? = some (.cells #[.int .u64 0, .int .u64 0] 60) := heap3_1 _ _ _ _
  have n0 := boxc (k := 0) (u := .int .u64 0) q1 rfl
  have n1 := boxc (k := 1) (u := .int .u64 0) q1 rfl
  have t1 := boxt q1
  clear q1
  have q2 : (((w.alloc (.cells #[.int .u64 lo, .int .u64 hi] 62)).alloc (.cells #[.int .u64 0, .int .u64 0] 60)).alloc (.cells #[.int .u64 0, .int .u64 0] 60)).heap[(w.heap.size + 2)]? = some (.cells #[.int .u64 0, .int .u64 0] 60) := heap3_2 _ _ _ _
  have k0 := boxc (k := 0) (u := .int .u64 0) q2 rfl
  have k1 := boxc (k := 1) (u := .int .u64 0) q2 rfl
  have t2 := boxt q2
  clear q2
  have hW0 : Below w.heap.size w (((w.alloc (.cells #[.int .u64 lo, .int .u64 hi] 62)).alloc (.cells #[.int .u64 0, .int .u64 0] 60)).alloc (.cells #[.int .u64 0, .int .u64 0] 60)) := below_boxes3 _ _ _ _
  have hr := Below.refl (((w.alloc (.cells #[.int .u64 lo, .int .u64 hi] 62)).alloc (.cells #[.int .u64 0, .int .u64 0] 60)).alloc (.cells #[.int .u64 0, .int .u64 0] 60)).heap.size (((w.alloc (.cells #[.int .u64 lo, .int .u64 hi] 62)).alloc (.cells #[.int .u64 0, .int .u64 0] 60)).alloc (.cells #[.int .u64 0, .int .u64 0] 60))
  go_enter Tryz.func125, Tryz.ntmps125
  go_upto_region 2 with fail
  generalize ((w.alloc (.cells #[.int .u64 lo, .int .u64 hi] 62)).alloc (.cells #[.int .u64 0, .int .u64 0] 60)).alloc (.cells #[.int .u64 0, .int .u64 0] 60) = W at *
  go_wp2_with fail
  have hm0 := m0 _ hr
  have hm1 := m1 _ hr
  have hn0 := n0 _ hr
  have hn1 := n1 _ hr
  have hk0 := k0 _ hr
  have hk1 := k1 _ hr
  have ht1 := fun k => t1 k _ hr
  have ht2 := fun k => t2 k _ hr
  clear m0 m1 n0 n1 k0 k1 t0 t1 t2 hr
  go_loopw [5, 4] (fun k t4 wr => ∃ (i : Nat) (x y : Int) (un : Bool), i ≤ 64 ∧ k = .int .i64 ((i : Int) - 1) ∧ t4 = .bool un ∧ (lo = hi → U64 lo → un = false ∧ y = 0 ∧ x = lo / 2 ^ i) ∧ wr.cell? ⟨w.heap.size, 0, none⟩ = some (.int .u64 lo) ∧ wr.cell? ⟨w.heap.size, 1, none⟩ = some (.int .u64 hi) ∧ wr.cell? ⟨w.heap.size + 1, 0, none⟩ = some (.int .u64 0) ∧ wr.cell? ⟨w.heap.size + 1, 1, none⟩ = some (.int .u64 0) ∧ wr.cell? ⟨w.heap.size + 2, 0, none⟩ = some (.int .u64 x) ∧ wr.cell? ⟨w.heap.size + 2, 1, none⟩ = some (.int .u64 y) ∧ (∀ k, wr.frozen? ⟨w.heap.size + 1, k, none⟩ = false) ∧ (∀ k, wr.frozen? ⟨w.heap.size + 2, k, none⟩ = false) ∧ Below w.heap.size w wr) (fun k _ _ => (intOf k + 1).toNat)
  case atStart => exact ⟨64, 0, 0, false, by omega, rfl, rfl, fun _ h => ⟨rfl, rfl, (div_64 h).symm⟩, hm0, hm1, hn0, hn1, hk0, hk1, ht1, ht2, hW0⟩
  case round =>
    obtain ⟨i, x, y, un, hi64, rfl, rfl, hx, r0, r1, r2, r3, r4, r5, r6, r7, r8⟩ := hrel
    clear hm0 hm1 hn0 hn1 hk0 hk1 ht1 ht2 hW0
    by_cases h0 : i = 0
    · subst h0
      go_wp2_with fail
      refine bodyPost_ret (v := .agg #[.int .u64 x, .int .u64 y]) (by simp [results, Tryz.results125, go_sem, *]) rfl ⟨x, y, rfl, fun h1 h2 => ⟨by rw [(hx h1 h2).2.2]; simp, (hx h1 h2).2.1⟩, ?_⟩
      (repeat (refine Below.setCell ?_ (by first | exact Nat.le_refl _ | exact Nat.le_succ _ | (simp; done) | (simp; omega)) _))
      exact r8
    · obtain ⟨j, rfl⟩ : ∃ j, i = j + 1 := ⟨i - 1, by omega⟩
      have hk : (((j + 1 : Nat) : Int) - 1) = (j : Int) := by omega
      rw [hk]
      have hj0 : (0 : Int) ≤ (j : Int) := by omega
      have hj1 : (j : Int) ≤ 64 := by omega
      have hjn : (j : Int).toNat = j := by omega
      have hs1 : ((j : Int) - 1) = (j : Int) - 1 := rfl
      have hA : lo = hi → U64 lo → IntKind.u64.wrap (IntKind.u64.wrap (x * 2) + (lo / 2 ^ j).tmod 2) = lo / 2 ^ j := fun h1 h2 => by rw [(hx h1 h2).2.2]; exact half_down h2 j (by omega)
      have hB : lo = hi → (lo / 2 ^ j).tmod 2 = (hi / 2 ^ j).tmod 2 := fun h1 => by rw [h1]
      have hY : lo = hi → U64 lo → IntKind.u64.wrap (y * 2) = 0 := fun h1 h2 => by rw [(hx h1 h2).2.1]; rfl
      have hU : lo = hi → U64 lo → un = false := fun h1 h2 => (hx h1 h2).1
      clear hx hk h0
      have HA := Lib.hid hA
      have HB := Lib.hid hB
      have HY := Lib.hid hY
      have HU := Lib.hid hU
      clear hA hB hY hU hs1
      have HD := Lib.hid (show lo / 2 ^ j = lo / 2 ^ j from rfl)
      obtain ⟨a, ha⟩ : ∃ a, (lo / 2 ^ j).tmod 2 = a := ⟨_, rfl⟩
      obtain ⟨b, hb⟩ : ∃ b, (hi / 2 ^ j).tmod 2 = b := ⟨_, rfl⟩
      rw [ha] at HA HB
      rw [hb] at HB
      cases un
      · by_cases hab : a = b
        · subst hab
          have HX : lo = hi → U64 lo → false = false ∧ IntKind.u64.wrap (y * 2) = 0 ∧ IntKind.u64.wrap (IntKind.u64.wrap (x * 2) + a) = lo / 2 ^ j := fun h1 h2 => ⟨rfl, HY.out h1 h2, HA.out h1 h2⟩
          clear HA HB HY HU HD
          have HX' := Lib.hid HX
          clear HX
          have HX := HX'
          clear HX'
          go_wp2_with fail
          go_roundw
          case rel =>
            refine ⟨j, _, _, _, by omega, by go_num, rfl, HX.out, ?_, ?_, ?_, ?_, ?_, ?_, ?_, ?_, ?_⟩
            · first | (simp [go_sem, r0, r1, r2, r3, r4, r5]; done) | exact World.cell?_setCell_same _ _ _ (World.cell?_setCell_same _ _ _ ((World.cell?_setCell_other _ _ _ _ (by simp)).trans r5))
            · first | (simp [go_sem, r0, r1, r2, r3, r4, r5]; done) | exact World.cell?_setCell_same _ _ _ (World.cell?_setCell_same _ _ _ ((World.cell?_setCell_other _ _ _ _ (by simp)).trans r5))
            · first | (simp [go_sem, r0, r1, r2, r3, r4, r5]; done) | exact World.cell?_setCell_same _ _ _ (World.cell?_setCell_same _ _ _ ((World.cell?_setCell_other _ _ _ _ (by simp)).trans r5))
            · first | (simp [go_sem, r0, r1, r2, r3, r4, r5]; done) | exact World.cell?_setCell_same _ _ _ (World.cell?_setCell_same _ _ _ ((World.cell?_setCell_other _ _ _ _ (by simp)).trans r5))
            · first | (simp [go_sem, r0, r1, r2, r3, r4, r5]; done) | exact World.cell?_setCell_same _ _ _ (World.cell?_setCell_same _ _ _ ((World.cell?_setCell_other _ _ _ _ (by simp)).trans r5))
            · first | (simp [go_sem, r0, r1, r2, r3, r4, r5]; done) | exact World.cell?_setCell_same _ _ _ (World.cell?_setCell_same _ _ _ ((World.cell?_setCell_other _ _ _ _ (by simp)).trans r5))
            · first | (intro k; simp [go_sem, r6, r7]; done) | (simp [go_sem, r6, r7]; done) | (intro k; exact r6 k) | (intro k; exact r7 k)
            · first | (intro k; simp [go_sem, r6, r7]; done) | (simp [go_sem, r6, r7]; done) | (intro k; exact r6 k) | (intro k; exact r7 k)
            · (repeat (refine Below.setCell ?_ (by first | (simp; done) | (simp; omega)) _))
              exact r8
          case measure => simp [intOf]; try omega
        · have HX : lo = hi → U64 lo → true = false ∧ IntKind.u64.wrap (IntKind.u64.wrap (y * 2) + 1) = 0 ∧ IntKind.u64.wrap (x * 2) = lo / 2 ^ j := fun h1 h2 => absurd (HB.out h1) hab
          have hne : (a != b) = true := by simp [hab]
          clear hab
          clear HA HB HY HU HD
          have HX' := Lib.hid HX
          clear HX
          have HX := HX'
          clear HX'
          go_wp2_with fail
          go_roundw
          case rel =>
            refine ⟨j, _, _, _, by omega, by go_num, rfl, HX.out, ?_, ?_, ?_, ?_, ?_, ?_, ?_, ?_, ?_⟩
            · first | (simp [go_sem, r0, r1, r2, r3, r4, r5]; done) | exact World.cell?_setCell_same _ _ _ (World.cell?_setCell_same _ _ _ ((World.cell?_setCell_other _ _ _ _ (by simp)).trans r5))
            · first | (simp [go_sem, r0, r1, r2, r3, r4, r5]; done) | exact World.cell?_setCell_same _ _ _ (World.cell?_setCell_same _ _ _ ((World.cell?_setCell_other _ _ _ _ (by simp)).trans r5))
            · first | (simp [go_sem, r0, r1, r2, r3, r4, r5]; done) | exact World.cell?_setCell_same _ _ _ (World.cell?_setCell_same _ _ _ ((World.cell?_setCell_other _ _ _ _ (by simp)).trans r5))
            · first | (simp [go_sem, r0, r1, r2, r3, r4, r5]; done) | exact World.cell?_setCell_same _ _ _ (World.cell?_setCell_same _ _ _ ((World.cell?_setCell_other _ _ _ _ (by simp)).trans r5))
            · first | (simp [go_sem, r0, r1, r2, r3, r4, r5]; done) | exact World.cell?_setCell_same _ _ _ (World.cell?_setCell_same _ _ _ ((World.cell?_setCell_other _ _ _ _ (by simp)).trans r5))
            · first | (simp [go_sem, r0, r1, r2, r3, r4, r5]; done) | exact World.cell?_setCell_same _ _ _ (World.cell?_setCell_same _ _ _ ((World.cell?_setCell_other _ _ _ _ (by simp)).trans r5))
            · first | (intro k; simp [go_sem, r6, r7]; done) | (simp [go_sem, r6, r7]; done) | (intro k; exact r6 k) | (intro k; exact r7 k)
            · first | (intro k; simp [go_sem, r6, r7]; done) | (simp [go_sem, r6, r7]; done) | (intro k; exact r6 k) | (intro k; exact r7 k)
            · (repeat (refine Below.setCell ?_ (by first | (simp; done) | (simp; omega)) _))
              exact r8
          case measure => simp [intOf]; try omega
      · have HX : lo = hi → U64 lo → true = false ∧ IntKind.u64.wrap (IntKind.u64.wrap (y * 2) + 1) = 0 ∧ IntKind.u64.wrap (x * 2) = lo / 2 ^ j := fun h1 h2 => absurd (HU.out h1 h2) (by simp)
        clear HA HB HY HU HD ha hb
        have HX' := Lib.hid HX
        clear HX
        have HX := HX'
        clear HX'
        go_wp2_with fail
        go_roundw
        case rel =>
          refine ⟨j, _, _, _, by omega, by go_num, rfl, HX.out, ?_, ?_, ?_, ?_, ?_, ?_, ?_, ?_, ?_⟩
          · first | (simp [go_sem, r0, r1, r2, r3, r4, r5]; done) | exact World.cell?_setCell_same _ _ _ (World.cell?_setCell_same _ _ _ ((World.cell?_setCell_other _ _ _ _ (by simp)).trans r5))
          · first | (simp [go_sem, r0, r1, r2, r3, r4, r5]; done) | exact World.cell?_setCell_same _ _ _ (World.cell?_setCell_same _ _ _ ((World.cell?_setCell_other _ _ _ _ (by simp)).trans r5))
          · first | (simp [go_sem, r0, r1, r2, r3, r4, r5]; done) | exact World.cell?_setCell_same _ _ _ (World.cell?_setCell_same _ _ _ ((World.cell?_setCell_other _ _ _ _ (by simp)).trans r5))
          · first | (simp [go_sem, r0, r1, r2, r3, r4, r5]; done) | exact World.cell?_setCell_same _ _ _ (World.cell?_setCell_same _ _ _ ((World.cell?_setCell_other _ _ _ _ (by simp)).trans r5))
          · first | (simp [go_sem, r0, r1, r2, r3, r4, r5]; done) | exact World.cell?_setCell_same _ _ _ (World.cell?_setCell_same _ _ _ ((World.cell?_setCell_other _ _ _ _ (by simp)).trans r5))
          · first | (simp [go_sem, r0, r1, r2, r3, r4, r5]; done) | exact World.cell?_setCell_same _ _ _ (World.cell?_setCell_same _ _ _ ((World.cell?_setCell_other _ _ _ _ (by simp)).trans r5))
          · first | (intro k; simp [go_sem, r6, r7]; done) | (simp [go_sem, r6, r7]; done) | (intro k; exact r6 k) | (intro k; exact r7 k)
          · first | (intro k; simp [go_sem, r6, r7]; done) | (simp [go_sem, r6, r7]; done) | (intro k; exact r6 k) | (intro k; exact r7 k)
          · (repeat (refine Below.setCell ?_ (by first | (simp; done) | (simp; omega)) _))
            exact r8
        case measure => simp [intOf]; try omega
set_option maxRecDepth 100000 in
set_option maxHeartbeats 4000000 in
theorem rtmeet_any (v m u n : Int) (w : World) : Calls Tryz.prog 124 #[.agg #[.int .u64 v, .int .u64 m], .agg #[.int .u64 u, .int .u64 n]] w fun e w' => ∃ a b r, e = .returned (.tuple #[.agg #[.int .u64 a, .int .u64 b], .bool r]) ∧ (m = 0 → n = 0 → v = u → U64 v → a = v ∧ b = 0 ∧ r = true) ∧ Below w.heap.size w w' := by
  have HO := Lib.hid (fun (h : v = u) (hv : U64 v) => show bits .or .u64 v u = v by rw [← h]; exact or_same hv)
  have HA := Lib.hid (fun (h : m = 0) (h2 : n = 0) => show bits .and .u64 m n = 0 by rw [h, h2]; decide)
  have hmade := fun w => rtmade_any (bits .or .u64 v u) (bits .and .u64 m n) w
  obtain ⟨vo, hvo⟩ : ∃ x, bits .or .u64 v u = x := ⟨_, rfl⟩
  obtain ⟨ma, hma⟩ : ∃ x, bits .and .u64 m n = x := ⟨_, rfl⟩
  rw [hvo] at HO hmade
  rw [hma] at HA hmade
  have q0 : (((w.alloc (.cells #[.int .u64 v, .int .u64 m] 60)).alloc (.cells #[.int .u64 u, .int .u64 n] 60)).alloc (.cells #[.int .u64 0, .int .u64 0] 60)).heap[w.heap.size]? = some (.cells #[.int .u64 v, .int .u64 m] 60) := heap3_0 _ _ _ _
  have k0 := boxc (k := 0) (u := .int .u64 v) q0 rfl
  have k1 := boxc (k := 1) (u := .int .u64 m) q0 rfl
  clear q0
  have q1 : (((w.alloc (.cells #[.int .u64 v, .int .u64 m] 60)).alloc (.cells #[.int .u64 u, .int .u64 n] 60)).alloc (.cells #[.int .u64 0, .int .u64 0] 60)).heap[(w.heap.size + 1)]? = some (.cells #[.int .u64 u, .int .u64 n] 60) := heap3_1 _ _ _ _
  have l0 := boxc (k := 0) (u := .int .u64 u) q1 rfl
  have l1 := boxc (k := 1) (u := .int .u64 n) q1 rfl
  clear q1
  have q2 : (((w.alloc (.cells #[.int .u64 v, .int .u64 m] 60)).alloc (.cells #[.int .u64 u, .int .u64 n] 60)).alloc (.cells #[.int .u64 0, .int .u64 0] 60)).heap[(w.heap.size + 2)]? = some (.cells #[.int .u64 0, .int .u64 0] 60) := heap3_2 _ _ _ _
  have e0 := boxc (k := 0) (u := .int .u64 0) q2 rfl
  have e1 := boxc (k := 1) (u := .int .u64 0) q2 rfl
  have t2 := boxt q2
  clear q2
  have hW0 : Below w.heap.size w (((w.alloc (.cells #[.int .u64 v, .int .u64 m] 60)).alloc (.cells #[.int .u64 u, .int .u64 n] 60)).alloc (.cells #[.int .u64 0, .int .u64 0] 60)) := below_boxes3 _ _ _ _
  have hr := Below.refl (((w.alloc (.cells #[.int .u64 v, .int .u64 m] 60)).alloc (.cells #[.int .u64 u, .int .u64 n] 60)).alloc (.cells #[.int .u64 0, .int .u64 0] 60)).heap.size (((w.alloc (.cells #[.int .u64 v, .int .u64 m] 60)).alloc (.cells #[.int .u64 u, .int .u64 n] 60)).alloc (.cells #[.int .u64 0, .int .u64 0] 60))
  go_enter Tryz.func124, Tryz.ntmps124
  go_upto_region 1 with fail
  generalize ((w.alloc (.cells #[.int .u64 v, .int .u64 m] 60)).alloc (.cells #[.int .u64 u, .int .u64 n] 60)).alloc (.cells #[.int .u64 0, .int .u64 0] 60) = W at *
  go_wp2_with fail
  refine (rtboth_any v m u n _).mono ?_
  rintro e w1 ⟨b0, rfl, hq, hb1⟩
  cases b0
  · have z0 := e0 _ hb1
    have z1 := e1 _ hb1
    go_wp2_with fail
    refine bodyPost_ret (v := .tuple #[.agg #[.int .u64 0, .int .u64 0], .bool false]) (by simp [results, Tryz.results124, go_sem, *]) rfl ⟨0, 0, false, rfl, fun h1 h2 _ _ => absurd (hq h1 h2) (by simp), ?_⟩
    (repeat (refine Below.setCell ?_ (by first | exact Nat.le_refl _ | exact Nat.le_succ _ | (simp; done) | (simp; omega)) _))
    exact hW0.trans (hb1.mono hW0.size)
  · clear hq
    go_wp2_with fail
    go_loopw [6] (fun k wr => ∃ j : Nat, j ≤ 64 ∧ k = .int .i64 j ∧ Below W.heap.size W wr) (fun k _ => 64 - (intOf k).toNat)
    case atStart => exact ⟨0, by omega, rfl, hb1⟩
    case round =>
      obtain ⟨j, hj, rfl, hbr⟩ := hrel
      by_cases hlt : j < 64
      · have hlt' : (j : Int) < 64 := by omega
        have c1 := fun w => rbit_any m j hlt w
        have c2 := fun w => rbit_any n j hlt w
        have c3 := fun w => rbit_any v j hlt w
        have c4 := fun w => rbit_any u j hlt w
        have HE := Lib.hid (fun (h : v = u) => show bitB v j = bitB u j by rw [h])
        generalize bitB m j = b1 at *
        generalize bitB n j = b2 at *
        generalize bitB v j = b3 at *
        generalize bitB u j = b4 at *
        clear hmade
        cases b1
        · cases b2
          · by_cases h34 : b3 = b4
            · subst h34
              have hne : (b3 != b3) = false := by cases b3 <;> rfl
              clear HE
              go_upto_region 6 with fail
              go_quiet (first | (go_at_call_of 122 (Value.int IntKind.u64 m); exact Calls.quiet_of_same (c1 _)) | (go_at_call_of 122 (Value.int IntKind.u64 n); exact Calls.quiet_of_same (c2 _)) | (go_at_call_of 122 (Value.int IntKind.u64 v); exact Calls.quiet_of_same (c3 _)) | (go_at_call_of 122 (Value.int IntKind.u64 u); exact Calls.quiet_of_same (c4 _)))
              go_wp2_with fail
              go_roundw
              case rel => exact ⟨j + 1, by omega, by go_num, below_drewN hbr _⟩
              case measure => simp [intOf]; try omega
            · have HN : RowKit.Hid (v = u → False) := Lib.hid (fun h => h34 (HE.out h))
              have h2 : (b3 = true ∧ b4 = false) ∨ (b3 = false ∧ b4 = true) := by cases b3 <;> cases b4 <;> first | exact absurd rfl h34 | exact .inl ⟨rfl, rfl⟩ | exact .inr ⟨rfl, rfl⟩
              clear h34 HE
              rcases h2 with ⟨rfl, rfl⟩ | ⟨rfl, rfl⟩
              all_goals
                go_upto_region 6 with fail
                go_quiet (first | (go_at_call_of 122 (Value.int IntKind.u64 m); exact Calls.quiet_of_same (c1 _)) | (go_at_call_of 122 (Value.int IntKind.u64 n); exact Calls.quiet_of_same (c2 _)) | (go_at_call_of 122 (Value.int IntKind.u64 v); exact Calls.quiet_of_same (c3 _)) | (go_at_call_of 122 (Value.int IntKind.u64 u); exact Calls.quiet_of_same (c4 _)))
                have hbx := fun n => below_drewN hbr n
                go_wp2_with fail
                refine bodyPost_ret (v := .tuple #[.agg #[.int .u64 0, .int .u64 0], .bool false]) (by simp [results, Tryz.results124, go_sem, *]) rfl ⟨0, 0, false, rfl, fun _ _ h _ => absurd h HN.out, ?_⟩
                (repeat (first | refine below_drewN ?_ _ | refine Below.setCell ?_ (by first | exact Nat.le_refl _ | exact Nat.le_succ _ | (simp; done) | (simp; omega)) _))
                exact hW0.trans (hbr.mono hW0.size)
          · clear HE
            go_upto_region 6 with fail
            go_quiet (first | (go_at_call_of 122 (Value.int IntKind.u64 m); exact Calls.quiet_of_same (c1 _)) | (go_at_call_of 122 (Value.int IntKind.u64 n); exact Calls.quiet_of_same (c2 _)) | (go_at_call_of 122 (Value.int IntKind.u64 v); exact Calls.quiet_of_same (c3 _)) | (go_at_call_of 122 (Value.int IntKind.u64 u); exact Calls.quiet_of_same (c4 _)))
            go_wp2_with fail
            go_roundw
            case rel => exact ⟨j + 1, by omega, by go_num, below_drewN hbr _⟩
            case measure => simp [intOf]; try omega
        · clear HE
          go_upto_region 6 with fail
          go_quiet (first | (go_at_call_of 122 (Value.int IntKind.u64 m); exact Calls.quiet_of_same (c1 _)) | (go_at_call_of 122 (Value.int IntKind.u64 n); exact Calls.quiet_of_same (c2 _)) | (go_at_call_of 122 (Value.int IntKind.u64 v); exact Calls.quiet_of_same (c3 _)) | (go_at_call_of 122 (Value.int IntKind.u64 u); exact Calls.quiet_of_same (c4 _)))
          go_wp2_with fail
          go_roundw
          case rel => exact ⟨j + 1, by omega, by go_num, below_drewN hbr _⟩
          case measure => simp [intOf]; try omega
      · obtain rfl : j = 64 := by omega
        go_wp2_with fail
        refine (hmade _).mono ?_
        rintro e w2 ⟨x, rfl, hx, hc2⟩
        have hb2 := hbr.trans (hc2.mono hbr.size)
        have HX := Lib.hid hx
        clear hc2 hx hmade
        have z0 := e0 _ hb2
        have z1 := e1 _ hb2
        go_wp2_with fail
        refine bodyPost_ret (v := .tuple #[.agg #[.int .u64 x, .int .u64 ma], .bool true]) (by simp [results, Tryz.results124, go_sem, *]) rfl ⟨x, ma, true, rfl, fun h1 h2 h3 h4 => ⟨by rw [HX.out (HA.out h1 h2) (by rw [HO.out h3 h4]; exact h4), HO.out h3 h4], HA.out h1 h2, rfl⟩, ?_⟩
        (repeat (refine Below.setCell ?_ (by first | exact Nat.le_refl _ | exact Nat.le_succ _ | (simp; done) | (simp; omega)) _))
        exact hW0.trans (hb2.mono hW0.size)
end Go.Proofs.YtncogaikiceidaaGreat
end

section
/- What is known of a number, by the reference: all brought in line, and the number that is known. No statement is proved here. -/
namespace Go.Proofs.YtncogaikiceidaaGreat
open Go.RowKit
set_option linter.unusedSimpArgs false
set_option linter.unusedVariables false
set_option linter.unnecessarySimpa false
def RoundOk (v m lo hi : Int) (w : World) (e : Ending) (w' : World) : Prop :=
  ∃ a b c d r, e = .returned (.tuple #[.agg #[.int .u64 a, .int .u64 b, .int .u64 c, .int .u64 d], .bool r]) ∧ (m = 0 → U64 v → (lo ≤ v ∧ v ≤ hi → a = v ∧ b = 0 ∧ c = v ∧ d = v ∧ r = true) ∧ (¬ (lo ≤ v ∧ v ≤ hi) → r = false)) ∧ Below w.heap.size w w'
set_option maxRecDepth 100000 in
set_option maxHeartbeats 4000000 in
theorem rround_any (v m lo hi : Int) (w : World) : Calls Tryz.prog 93 #[.agg #[.int .u64 v, .int .u64 m, .int .u64 lo, .int .u64 hi]] w (RoundOk v m lo hi w) := by
  have HO := Lib.hid (fun (h : m = 0) (hv : U64 v) => show bits .or .u64 v m = v by rw [h]; exact or_0 hv)
  obtain ⟨vm, hvm⟩ : ∃ x, bits .or .u64 v m = x := ⟨_, rfl⟩
  rw [hvm] at HO
  have q0 : ((w.alloc (.cells #[.int .u64 v, .int .u64 m, .int .u64 lo, .int .u64 hi] 64)).alloc (.cells #[.int .u64 0, .int .u64 0, .int .u64 0, .int .u64 0] 64)).heap[w.heap.size]? = some (.cells #[.int .u64 v, .int .u64 m, .int .u64 lo, .int .u64 hi] 64) := heap2_0 _ _ _
  have k0 := boxc (k := 0) (u := .int .u64 v) q0 rfl
  have k1 := boxc (k := 1) (u := .int .u64 m) q0 rfl
  have k2 := boxc (k := 2) (u := .int .u64 lo) q0 rfl
  have k3 := boxc (k := 3) (u := .int .u64 hi) q0 rfl
  clear q0
  have q1 : ((w.alloc (.cells #[.int .u64 v, .int .u64 m, .int .u64 lo, .int .u64 hi] 64)).alloc (.cells #[.int .u64 0, .int .u64 0, .int .u64 0, .int .u64 0] 64)).heap[(w.heap.size + 1)]? = some (.cells #[.int .u64 0, .int .u64 0, .int .u64 0, .int .u64 0] 64) := heap2_1 _ _ _
  have l0 := boxc (k := 0) (u := .int .u64 0) q1 rfl
  have l1 := boxc (k := 1) (u := .int .u64 0) q1 rfl
  have l2 := boxc (k := 2) (u := .int .u64 0) q1 rfl
  have l3 := boxc (k := 3) (u := .int .u64 0) q1 rfl
  have t1 := boxt q1
  clear q1
  have hW0 : Below w.heap.size w ((w.alloc (.cells #[.int .u64 v, .int .u64 m, .int .u64 lo, .int .u64 hi] 64)).alloc (.cells #[.int .u64 0, .int .u64 0, .int .u64 0, .int .u64 0] 64)) := below_boxes2 _ _ _
  have hr := Below.refl ((w.alloc (.cells #[.int .u64 v, .int .u64 m, .int .u64 lo, .int .u64 hi] 64)).alloc (.cells #[.int .u64 0, .int .u64 0, .int .u64 0, .int .u64 0] 64)).heap.size ((w.alloc (.cells #[.int .u64 v, .int .u64 m, .int .u64 lo, .int .u64 hi] 64)).alloc (.cells #[.int .u64 0, .int .u64 0, .int .u64 0, .int .u64 0] 64))
  go_enter Tryz.func93, Tryz.ntmps93
  go_upto_region 1 with fail
  generalize (w.alloc (.cells #[.int .u64 v, .int .u64 m, .int .u64 lo, .int .u64 hi] 64)).alloc (.cells #[.int .u64 0, .int .u64 0, .int .u64 0, .int .u64 0] 64) = W at *
  go_wp2_with fail
  refine (rsmeet_any lo hi v vm _).mono ?_
  rintro e w1 ⟨x, y, r, rfl, hxy, hb1⟩
  have HXY := Lib.hid hxy
  clear hxy
  cases r
  · have hb2 := hb1.alloc hb1.size (.cells #[.int .u64 x, .int .u64 y] 62)
    have z0 := l0 _ hb2
    have z1 := l1 _ hb2
    have z2 := l2 _ hb2
    have z3 := l3 _ hb2
    go_wp2_with fail
    refine bodyPost_ret (v := .tuple #[.agg #[.int .u64 0, .int .u64 0, .int .u64 0, .int .u64 0], .bool false]) (by simp [results, Tryz.results93, go_sem, *]) rfl ⟨0, 0, 0, 0, false, rfl, fun hm hv => ⟨fun h => absurd ((HXY.out v rfl (HO.out hm hv)).1 h).2.2 (by simp), fun _ => rfl⟩, ?_⟩
    (repeat (refine Below.setCell ?_ (by first | exact Nat.le_refl _ | exact Nat.le_succ _ | (simp; done) | (simp; omega)) _))
    exact hW0.trans (hb2.mono hW0.size)
  · go_upto_region 4 with fail
    have d0 := boxc (k := 0) (u := .int .u64 x) (heap1_0 w1 (.cells #[.int .u64 x, .int .u64 y] 62)) rfl
    have d1 := boxc (k := 1) (u := .int .u64 y) (heap1_0 w1 (.cells #[.int .u64 x, .int .u64 y] 62)) rfl
    have hbT : Below W.heap.size W (w1.alloc (.cells #[.int .u64 x, .int .u64 y] 62)) := hb1.alloc hb1.size _
    have hrT := Below.refl (w1.alloc (.cells #[.int .u64 x, .int .u64 y] 62)).heap.size (w1.alloc (.cells #[.int .u64 x, .int .u64 y] 62))
    generalize w1.alloc (.cells #[.int .u64 x, .int .u64 y] 62) = T at *
    go_cut [6, 7] from 8 (fun t6 t7 wx => ∃ g a b r2, t6 = .pointer (some ⟨g, 0, none⟩) ∧ t7 = .bool r2 ∧ (m = 0 → U64 v → x = v → y = v → a = v ∧ b = 0 ∧ r2 = true) ∧ Below T.heap.size T wx ∧ wx.cell? ⟨g, 0, none⟩ = some (.int .u64 a) ∧ wx.cell? ⟨g, 1, none⟩ = some (.int .u64 b))
    case first =>
      have A0 : ∀ w', Below T.heap.size T w' → w'.cell? ⟨w.heap.size, 0, none⟩ = some (.int .u64 v) := fun w' h => k0 w' (hbT.trans (h.mono hbT.size))
      have A1 : ∀ w', Below T.heap.size T w' → w'.cell? ⟨w.heap.size, 1, none⟩ = some (.int .u64 m) := fun w' h => k1 w' (hbT.trans (h.mono hbT.size))
      clear k0 k1 k2 k3 l0 l1 l2 l3 t1 hr
      go_region_held3 (fun w' => Below T.heap.size T w')
        (repeat (first | assumption | refine sbelow_drew ?_ | refine sbelow_alloc ?_ (Nat.le_refl _) | refine Below.setCell ?_ (by first | (simp; done) | exact hS5.size) _))
        (first | (go_at_call 125; refine (rranged_any x y _).mono ?_; rintro e w5 ⟨p, q, rfl, hpq, hb5⟩; have hS5 : Below T.heap.size T w5 := below_step (by assumption) (Nat.le_refl _) hb5; have HPQ := Lib.hid hpq; clear hpq; (try have z5 : w5.cell? ⟨T.heap.size, 0, none⟩ = some (.int .u64 0) := boxc (heap1_0 T.drew (.cells #[.int .u64 0, .int .u64 0] 60)) rfl _ (hb5)); (try have y5 : w5.cell? ⟨T.heap.size, 1, none⟩ = some (.int .u64 0) := boxc (heap1_0 T.drew (.cells #[.int .u64 0, .int .u64 0] 60)) rfl _ (hb5)); (try have x5 : ∀ k, w5.frozen? ⟨T.heap.size, k, none⟩ = false := fun k => boxt (heap1_0 T.drew (.cells #[.int .u64 0, .int .u64 0] 60)) k _ (hb5))) | (go_at_call 124; refine (rtmeet_any v m p q _).mono ?_; rintro e w6 ⟨a, b, r2, rfl, hab, hb6⟩; have hS6 : Below T.heap.size T w6 := below_step (by assumption) (Nat.le_refl _) hb6; have HAB := Lib.hid hab; clear hab; (try have z6 : w6.cell? ⟨T.heap.size, 0, none⟩ = some (.int .u64 0) := boxc (heap1_0 T.drew (.cells #[.int .u64 0, .int .u64 0] 60)) rfl _ (hb5.trans (hb6.mono hb5.size))); (try have y6 : w6.cell? ⟨T.heap.size, 1, none⟩ = some (.int .u64 0) := boxc (heap1_0 T.drew (.cells #[.int .u64 0, .int .u64 0] 60)) rfl _ (hb5.trans (hb6.mono hb5.size))); (try have x6 : ∀ k, w6.frozen? ⟨T.heap.size, k, none⟩ = false := fun k => boxt (heap1_0 T.drew (.cells #[.int .u64 0, .int .u64 0] 60)) k _ (hb5.trans (hb6.mono hb5.size))); (try have z6 : w6.cell? ⟨w5.heap.size, 0, none⟩ = some (.int .u64 0) := boxc (heap1_0 w5 (.cells #[.int .u64 0, .int .u64 0] 60)) rfl _ (hb6)); (try have y6 : w6.cell? ⟨w5.heap.size, 1, none⟩ = some (.int .u64 0) := boxc (heap1_0 w5 (.cells #[.int .u64 0, .int .u64 0] 60)) rfl _ (hb6)); (try have x6 : ∀ k, w6.frozen? ⟨w5.heap.size, k, none⟩ = false := fun k => boxt (heap1_0 w5 (.cells #[.int .u64 0, .int .u64 0] 60)) k _ (hb6))))
      all_goals
        have HC : m = 0 → U64 v → x = v → y = v → a = v ∧ b = 0 ∧ r2 = true := fun hm hv hx hy => by
          have h1 := HPQ.out (by rw [hx, hy]) (by rw [hx]; exact hv)
          exact HAB.out hm h1.2 (by rw [h1.1, hx]) hv
        have HCC := Lib.hid HC
        clear HC
        go_wp2_with fail
        go_meet
        case rel =>
          refine ⟨_, a, b, r2, rfl, rfl, HCC.out, ?_, ?_, ?_⟩
          · (repeat (first | assumption | refine sbelow_drew ?_ | refine sbelow_alloc ?_ (Nat.le_refl _) | refine Below.setCell ?_ (by first | exact hS5.size | exact Nat.le_refl _) _))
          · first | exact boxc (heap1_0 w6 _) rfl _ (Below.refl _ _) | simp [go_sem, *]
          · first | exact boxc (heap1_0 w6 _) rfl _ (Below.refl _ _) | simp [go_sem, *]
    case rest =>
      obtain ⟨g, a, b, r2, rfl, rfl, hcond, hbc, c0, c1⟩ := hcut
      have HC := Lib.hid hcond
      clear hcond
      have hbw := hbT.trans (hbc.mono hbT.size)
      have HR := Lib.hid (fun (hm : m = 0) (hv : U64 v) => (HXY.out v rfl (HO.out hm hv)))
      clear HXY HO
      cases r2
      · have z0 := l0 _ hbw
        have z1 := l1 _ hbw
        have z2 := l2 _ hbw
        have z3 := l3 _ hbw
        go_wp2_with fail
        refine bodyPost_ret (v := .tuple #[.agg #[.int .u64 0, .int .u64 0, .int .u64 0, .int .u64 0], .bool false]) (by simp [results, Tryz.results93, go_sem, *]) rfl ⟨0, 0, 0, 0, false, rfl, fun hm hv => ⟨fun h => absurd (HC.out hm hv ((HR.out hm hv).1 h).1 ((HR.out hm hv).1 h).2.1).2.2 (by simp), fun _ => rfl⟩, ?_⟩
        (repeat (refine Below.setCell ?_ (by first | exact Nat.le_refl _ | exact Nat.le_succ _ | (simp; done) | (simp; omega)) _))
        exact hW0.trans (hbw.mono hW0.size)
      · have D0 := d0 _ hbc
        have D1 := d1 _ hbc
        have z0 := l0 _ hbw
        have z1 := l1 _ hbw
        have z2 := l2 _ hbw
        have z3 := l3 _ hbw
        go_wp2_with fail
        refine bodyPost_ret (v := .tuple #[.agg #[.int .u64 a, .int .u64 b, .int .u64 x, .int .u64 y], .bool true]) (by simp [results, Tryz.results93, go_sem, *]) rfl ⟨a, b, x, y, true, rfl, fun hm hv => ⟨fun h => ⟨(HC.out hm hv ((HR.out hm hv).1 h).1 ((HR.out hm hv).1 h).2.1).1, (HC.out hm hv ((HR.out hm hv).1 h).1 ((HR.out hm hv).1 h).2.1).2.1, ((HR.out hm hv).1 h).1, ((HR.out hm hv).1 h).2.1, rfl⟩, fun h => absurd ((HR.out hm hv).2 h) (by simp)⟩, ?_⟩
        (repeat (refine Below.setCell ?_ (by first | exact Nat.le_refl _ | exact Nat.le_succ _ | (simp; done) | (simp; omega)) _))
        exact hW0.trans (hbw.mono hW0.size)
set_option maxRecDepth 100000 in
set_option maxHeartbeats 4000000 in
theorem rsettle_any (v m lo hi : Int) (w : World) : Calls Tryz.prog 60 #[.agg #[.int .u64 v, .int .u64 m, .int .u64 lo, .int .u64 hi]] w (RoundOk v m lo hi w) := by
  have q0 : ((w.alloc (.cells #[.int .u64 v, .int .u64 m, .int .u64 lo, .int .u64 hi] 64)).alloc (.cells #[.int .u64 0, .int .u64 0, .int .u64 0, .int .u64 0] 64)).heap[w.heap.size]? = some (.cells #[.int .u64 v, .int .u64 m, .int .u64 lo, .int .u64 hi] 64) := heap2_0 _ _ _
  have k0 := boxc (k := 0) (u := .int .u64 v) q0 rfl
  have k1 := boxc (k := 1) (u := .int .u64 m) q0 rfl
  have k2 := boxc (k := 2) (u := .int .u64 lo) q0 rfl
  have k3 := boxc (k := 3) (u := .int .u64 hi) q0 rfl
  have t0 := boxt q0
  clear q0
  have q1 : ((w.alloc (.cells #[.int .u64 v, .int .u64 m, .int .u64 lo, .int .u64 hi] 64)).alloc (.cells #[.int .u64 0, .int .u64 0, .int .u64 0, .int .u64 0] 64)).heap[(w.heap.size + 1)]? = some (.cells #[.int .u64 0, .int .u64 0, .int .u64 0, .int .u64 0] 64) := heap2_1 _ _ _
  have l0 := boxc (k := 0) (u := .int .u64 0) q1 rfl
  have l1 := boxc (k := 1) (u := .int .u64 0) q1 rfl
  have l2 := boxc (k := 2) (u := .int .u64 0) q1 rfl
  have l3 := boxc (k := 3) (u := .int .u64 0) q1 rfl
  have t1 := boxt q1
  clear q1
  have hW0 : Below w.heap.size w ((w.alloc (.cells #[.int .u64 v, .int .u64 m, .int .u64 lo, .int .u64 hi] 64)).alloc (.cells #[.int .u64 0, .int .u64 0, .int .u64 0, .int .u64 0] 64)) := below_boxes2 _ _ _
  have hr := Below.refl ((w.alloc (.cells #[.int .u64 v, .int .u64 m, .int .u64 lo, .int .u64 hi] 64)).alloc (.cells #[.int .u64 0, .int .u64 0, .int .u64 0, .int .u64 0] 64)).heap.size ((w.alloc (.cells #[.int .u64 v, .int .u64 m, .int .u64 lo, .int .u64 hi] 64)).alloc (.cells #[.int .u64 0, .int .u64 0, .int .u64 0, .int .u64 0] 64))
  have hWs : w.heap.size + 2 ≤ ((w.alloc (.cells #[.int .u64 v, .int .u64 m, .int .u64 lo, .int .u64 hi] 64)).alloc (.cells #[.int .u64 0, .int .u64 0, .int .u64 0, .int .u64 0] 64)).heap.size := by simp
  go_enter Tryz.func60, Tryz.ntmps60
  go_upto_region 1 with fail
  generalize (w.alloc (.cells #[.int .u64 v, .int .u64 m, .int .u64 lo, .int .u64 hi] 64)).alloc (.cells #[.int .u64 0, .int .u64 0, .int .u64 0, .int .u64 0] 64) = W at *
  have hsz : w.heap.size + 2 ≤ W.heap.size := hWs
  go_wp2_with fail
  refine (rtright_any v m _).mono ?_
  rintro e w1 ⟨b0, rfl, hq, hb1⟩
  cases b0
  · have HB := hW0.trans (hb1.mono hW0.size)
    have z0 := l0 _ hb1
    have z1 := l1 _ hb1
    have z2 := l2 _ hb1
    have z3 := l3 _ hb1
    go_wp2_with fail
    refine bodyPost_ret (v := .tuple #[.agg #[.int .u64 0, .int .u64 0, .int .u64 0, .int .u64 0], .bool false]) (by simp [results, Tryz.results60, go_sem, *]) rfl ⟨0, 0, 0, 0, false, rfl, fun hm hv => ⟨fun h => absurd (hq hm) (by simp), fun _ => rfl⟩, ?_⟩
    (repeat (refine Below.setCell ?_ (by first | exact Nat.le_refl _ | exact Nat.le_succ _ | (simp; done) | (simp; omega)) _))
    exact HB
  · clear hq
    have c2 := fun w => rsright_any lo hi w
    have HLE := Lib.hid (show lo ≤ hi ↔ decide (lo ≤ hi) = true by simp)
    generalize decide (lo ≤ hi) = q at *
    cases q
    · go_wp2_with fail
      refine (c2 _).mono ?_
      rintro e w2 ⟨rfl, hc2⟩
      have hb2 := hb1.trans (hc2.mono hb1.size)
      have HB := hW0.trans (hb2.mono hW0.size)
      have z0 := l0 _ hb2
      have z1 := l1 _ hb2
      have z2 := l2 _ hb2
      have z3 := l3 _ hb2
      go_wp2_with fail
      refine bodyPost_ret (v := .tuple #[.agg #[.int .u64 0, .int .u64 0, .int .u64 0, .int .u64 0], .bool false]) (by simp [results, Tryz.results60, go_sem, *]) rfl ⟨0, 0, 0, 0, false, rfl, fun hm hv => ⟨fun h => absurd (HLE.out.1 (by omega)) (by simp), fun _ => rfl⟩, ?_⟩
      (repeat (refine Below.setCell ?_ (by first | exact Nat.le_refl _ | exact Nat.le_succ _ | (simp; done) | (simp; omega)) _))
      exact HB
    · go_wp2_with fail
      refine (c2 _).mono ?_
      rintro e w2 ⟨rfl, hc2⟩
      have hb2 := hb1.trans (hc2.mono hb1.size)
      have HB2 := hW0.trans (hb2.mono hW0.size)
      have y0 := k0 _ hb2
      have z0 := l0 _ hb2
      have y1 := k1 _ hb2
      have z1 := l1 _ hb2
      have y2 := k2 _ hb2
      have z2 := l2 _ hb2
      have y3 := k3 _ hb2
      have z3 := l3 _ hb2
      have T0 := fun k => t0 k _ hb2
      have T1 := fun k => t1 k _ hb2
      have hs2 : w.heap.size + 2 ≤ w2.heap.size := Nat.le_trans hsz hb2.size
      clear k0 k1 k2 k3 l0 l1 l2 l3 t0 t1 hr c2 HLE hW0 hb1 hb2 hc2 hsz
      go_wp2_with fail
      go_loopw [4] (fun k wr => ∃ (j : Nat) (a b c d : Int), j ≤ 80 ∧ k = .int .i64 j ∧ (m = 0 → U64 v → a = v ∧ b = 0 ∧ ((j = 0 ∧ c = lo ∧ d = hi) ∨ (c = v ∧ d = v ∧ lo ≤ v ∧ v ≤ hi))) ∧ wr.cell? ⟨w.heap.size, 0, none⟩ = some (.int .u64 a) ∧ wr.cell? ⟨w.heap.size, 1, none⟩ = some (.int .u64 b) ∧ wr.cell? ⟨w.heap.size, 2, none⟩ = some (.int .u64 c) ∧ wr.cell? ⟨w.heap.size, 3, none⟩ = some (.int .u64 d) ∧ wr.cell? ⟨w.heap.size + 1, 0, none⟩ = some (.int .u64 0) ∧ wr.cell? ⟨w.heap.size + 1, 1, none⟩ = some (.int .u64 0) ∧ wr.cell? ⟨w.heap.size + 1, 2, none⟩ = some (.int .u64 0) ∧ wr.cell? ⟨w.heap.size + 1, 3, none⟩ = some (.int .u64 0) ∧ (∀ k, wr.frozen? ⟨w.heap.size, k, none⟩ = false) ∧ (∀ k, wr.frozen? ⟨w.heap.size + 1, k, none⟩ = false) ∧ Below w.heap.size w wr ∧ w.heap.size + 2 ≤ wr.heap.size) (fun k _ => 80 - (intOf k).toNat)
      case atStart => exact ⟨0, v, m, lo, hi, by omega, rfl, fun hm hv => ⟨rfl, hm, .inl ⟨rfl, rfl, rfl⟩⟩, y0, y1, y2, y3, z0, z1, z2, z3, T0, T1, HB2, hs2⟩
      case round =>
        obtain ⟨j, a, b, c, d, hj, rfl, hinv, s0, s1, s2, s3, l0, l1, l2, l3, T0', T1', HB, hsr⟩ := hrel
        have HI := Lib.hid hinv
        clear hinv y0 y1 y2 y3 z0 z1 z2 z3 T0 T1 HB2 hs2
        by_cases hlt : j < 80
        · have hlt' : (j : Int) < 80 := by omega
          go_wp2_with fail
          refine (rround_any a b c d _).mono ?_
          rintro e w3 ⟨a', b', c', d', r, rfl, hrd, hc3⟩
          have HRD := Lib.hid hrd
          clear hrd
          go_upto_region 7 with fail
          have hV : Below wr.heap.size wr (w3.alloc (.cells #[.int .u64 a', .int .u64 b', .int .u64 c', .int .u64 d'] 64)) := hc3.trans (((Below.refl _ _).alloc (Nat.le_refl _) _ : Below w3.heap.size w3 _).mono hc3.size)
          have x0 := boxc (k := 0) (u := .int .u64 a') (heap1_0 w3 (.cells #[.int .u64 a', .int .u64 b', .int .u64 c', .int .u64 d'] 64)) rfl _ (Below.refl _ _)
          have x1 := boxc (k := 1) (u := .int .u64 b') (heap1_0 w3 (.cells #[.int .u64 a', .int .u64 b', .int .u64 c', .int .u64 d'] 64)) rfl _ (Below.refl _ _)
          have x2 := boxc (k := 2) (u := .int .u64 c') (heap1_0 w3 (.cells #[.int .u64 a', .int .u64 b', .int .u64 c', .int .u64 d'] 64)) rfl _ (Below.refl _ _)
          have x3 := boxc (k := 3) (u := .int .u64 d') (heap1_0 w3 (.cells #[.int .u64 a', .int .u64 b', .int .u64 c', .int .u64 d'] 64)) rfl _ (Below.refl _ _)
          have hs3 : w.heap.size + 2 ≤ w3.heap.size := Nat.le_trans hsr hc3.size
          generalize w3.alloc (.cells #[.int .u64 a', .int .u64 b', .int .u64 c', .int .u64 d'] 64) = V at *
          have p0 := (hV.cell (p := ⟨w.heap.size, 0, none⟩) (by show w.heap.size < _; omega)).trans s0
          have p1 := (hV.cell (p := ⟨w.heap.size, 1, none⟩) (by show w.heap.size < _; omega)).trans s1
          have p2 := (hV.cell (p := ⟨w.heap.size, 2, none⟩) (by show w.heap.size < _; omega)).trans s2
          have p3 := (hV.cell (p := ⟨w.heap.size, 3, none⟩) (by show w.heap.size < _; omega)).trans s3
          have m0 := (hV.cell (p := ⟨w.heap.size + 1, 0, none⟩) (by show w.heap.size + 1 < _; omega)).trans l0
          have m1 := (hV.cell (p := ⟨w.heap.size + 1, 1, none⟩) (by show w.heap.size + 1 < _; omega)).trans l1
          have m2 := (hV.cell (p := ⟨w.heap.size + 1, 2, none⟩) (by show w.heap.size + 1 < _; omega)).trans l2
          have m3 := (hV.cell (p := ⟨w.heap.size + 1, 3, none⟩) (by show w.heap.size + 1 < _; omega)).trans l3
          have f0 := fun k => (hV.frozen (p := ⟨w.heap.size, k, none⟩) (by show w.heap.size < _; omega)).trans (T0' k)
          have f1 := fun k => (hV.frozen (p := ⟨w.heap.size + 1, k, none⟩) (by show w.heap.size + 1 < _; omega)).trans (T1' k)
          have HB3 := HB.trans (hV.mono HB.size)
          have hsV : w.heap.size + 2 ≤ V.heap.size := Nat.le_trans hsr hV.size
          clear s0 s1 s2 s3 l0 l1 l2 l3 T0' T1' hc3 HB hsr hV
          cases r
          · have F : m = 0 → U64 v → ¬ (lo ≤ v ∧ v ≤ hi) := fun hm hv h => by
              obtain ⟨e1, e2, e3⟩ := HI.out hm hv
              subst e1 e2
              have h1 := (HRD.out rfl hv).1
              rcases e3 with ⟨_, rfl, rfl⟩ | ⟨rfl, rfl, _⟩
              · have := (h1 h).2.2.2.2; cases this
              · have := (h1 ⟨Int.le_refl _, Int.le_refl _⟩).2.2.2.2; cases this
            have HF := Lib.hid F
            clear F HI HRD
            go_wp2_with fail
            refine bodyPost_ret (v := .tuple #[.agg #[.int .u64 0, .int .u64 0, .int .u64 0, .int .u64 0], .bool false]) (by simp [results, Tryz.results60, go_sem, *]) rfl ⟨0, 0, 0, 0, false, rfl, fun hm hv => ⟨fun h => absurd h (HF.out hm hv), fun _ => rfl⟩, ?_⟩
            (repeat (refine Below.setCell ?_ (by first | exact Nat.le_refl _ | exact Nat.le_succ _ | (simp; done) | (simp; omega)) _))
            exact HB3
          · have Gf : m = 0 → U64 v → a' = v ∧ b' = 0 ∧ c' = v ∧ d' = v ∧ lo ≤ v ∧ v ≤ hi := fun hm hv => by
              obtain ⟨e1, e2, e3⟩ := HI.out hm hv
              subst e1 e2
              have h1 := HRD.out rfl hv
              by_cases h : c ≤ a ∧ a ≤ d
              · obtain ⟨q1, q2, q3, q4, _⟩ := h1.1 h
                refine ⟨q1, q2, q3, q4, ?_⟩
                rcases e3 with ⟨_, rfl, rfl⟩ | ⟨_, _, h2⟩
                · exact h
                · exact h2
              · have := h1.2 h; cases this
            have HG := Lib.hid Gf
            have heq := fun w => eq_fact a' b' c' d' a b c d w
            obtain ⟨q, hq⟩ : ∃ q, (decide (a' = a) && (decide (b' = b) && (decide (c' = c) && decide (d' = d)))) = q := ⟨_, rfl⟩
            rw [hq] at heq
            have HQ := Lib.hid hq
            clear Gf HI HRD hq
            cases q
            · go_wp2_with fail
              go_roundw
              case rel =>
                refine ⟨j + 1, a', b', c', d', by omega, by go_num, fun hm hv => ⟨(HG.out hm hv).1, (HG.out hm hv).2.1, .inr (HG.out hm hv).2.2⟩, ?_, ?_, ?_, ?_, ?_, ?_, ?_, ?_, ?_, ?_, ?_, ?_⟩
                · simp [go_sem, p0, p1, p2, p3]
                · simp [go_sem, p0, p1, p2, p3]
                · simp [go_sem, p0, p1, p2, p3]
                · simp [go_sem, p0, p1, p2, p3]
                · simp [go_sem, m0, m1, m2, m3]
                · simp [go_sem, m0, m1, m2, m3]
                · simp [go_sem, m0, m1, m2, m3]
                · simp [go_sem, m0, m1, m2, m3]
                · intro k; simp [go_sem, f0, f1]
                · intro k; simp [go_sem, f0, f1]
                · (repeat (refine Below.setCell ?_ (by first | exact Nat.le_refl _ | exact Nat.le_succ _ | (simp; done) | (simp; omega)) _))
                  exact HB3
                · simpa using hsV
              case measure => simp [intOf]; try omega
            · have HE : a' = a ∧ b' = b ∧ c' = c ∧ d' = d := by simpa using HQ.out
              have HEE := Lib.hid HE
              clear HE
              go_wp2_with fail
              refine bodyPost_ret (v := .tuple #[.agg #[.int .u64 a, .int .u64 b, .int .u64 c, .int .u64 d], .bool true]) (by simp [results, Tryz.results60, go_sem, *]) rfl ⟨a, b, c, d, true, rfl, fun hm hv => ?_, ?_⟩
              · obtain ⟨q1, q2, q3, q4, q5⟩ := HG.out hm hv
                obtain ⟨e1, e2, e3, e4⟩ := HEE.out
                exact ⟨fun _ => ⟨e1 ▸ q1, e2 ▸ q2, e3 ▸ q3, e4 ▸ q4, rfl⟩, fun h => absurd q5 h⟩
              · (repeat (refine Below.setCell ?_ (by first | exact Nat.le_refl _ | exact Nat.le_succ _ | (simp; done) | (simp; omega)) _))
                exact HB3
        · obtain rfl : j = 80 := by omega
          go_wp2_with fail
          refine bodyPost_ret (v := .tuple #[.agg #[.int .u64 a, .int .u64 b, .int .u64 c, .int .u64 d], .bool true]) (by simp [results, Tryz.results60, go_sem, *]) rfl ⟨a, b, c, d, true, rfl, fun hm hv => ?_, ?_⟩
          · obtain ⟨e1, e2, e3⟩ := HI.out hm hv
            rcases e3 with ⟨h, _⟩ | ⟨h1, h2, h3⟩
            · omega
            · exact ⟨fun _ => ⟨e1, e2, h1, h2, rfl⟩, fun h => absurd h3 h⟩
          · (repeat (refine Below.setCell ?_ (by first | exact Nat.le_refl _ | exact Nat.le_succ _ | (simp; done) | (simp; omega)) _))
            exact HB
def FRightOk (v m lo hi : Int) (w : World) (e : Ending) (w' : World) : Prop := ∃ b : Bool, e = .returned (.bool b) ∧ (m = 0 → U64 v → b = (decide (lo = v) && decide (hi = v))) ∧ Below w.heap.size w w'
set_option maxRecDepth 100000 in
set_option maxHeartbeats 4000000 in
theorem rfright_any (v m lo hi : Int) (w : World) : Calls Tryz.prog 28 #[.agg #[.int .u64 v, .int .u64 m, .int .u64 lo, .int .u64 hi]] w (FRightOk v m lo hi w) := by
  have q0 : (w.alloc (.cells #[.int .u64 v, .int .u64 m, .int .u64 lo, .int .u64 hi] 64)).heap[w.heap.size]? = some (.cells #[.int .u64 v, .int .u64 m, .int .u64 lo, .int .u64 hi] 64) := heap1_0 _ _
  have k0 := boxc (k := 0) (u := .int .u64 v) q0 rfl
  have k1 := boxc (k := 1) (u := .int .u64 m) q0 rfl
  have k2 := boxc (k := 2) (u := .int .u64 lo) q0 rfl
  have k3 := boxc (k := 3) (u := .int .u64 hi) q0 rfl
  clear q0
  have hW0 : Below w.heap.size w (w.alloc (.cells #[.int .u64 v, .int .u64 m, .int .u64 lo, .int .u64 hi] 64)) := below_boxes1 _ _
  have hr := Below.refl (w.alloc (.cells #[.int .u64 v, .int .u64 m, .int .u64 lo, .int .u64 hi] 64)).heap.size (w.alloc (.cells #[.int .u64 v, .int .u64 m, .int .u64 lo, .int .u64 hi] 64))
  go_enter Tryz.func28, Tryz.ntmps28
  go_upto_region 1 with fail
  generalize w.alloc (.cells #[.int .u64 v, .int .u64 m, .int .u64 lo, .int .u64 hi] 64) = W at *
  go_wp2_with fail
  refine (rsettle_any v m lo hi _).mono ?_
  rintro e w1 ⟨a, b, c, d, r, rfl, hcd, hb1⟩
  have HCD := Lib.hid hcd
  clear hcd
  go_upto_region 2 with fail
  have hb2 : Below W.heap.size W (w1.alloc (.cells #[.int .u64 a, .int .u64 b, .int .u64 c, .int .u64 d] 64)) := hb1.alloc hb1.size _
  have x0 := boxc (k := 0) (u := .int .u64 a) (heap1_0 w1 (.cells #[.int .u64 a, .int .u64 b, .int .u64 c, .int .u64 d] 64)) rfl _ (Below.refl _ _)
  have x1 := boxc (k := 1) (u := .int .u64 b) (heap1_0 w1 (.cells #[.int .u64 a, .int .u64 b, .int .u64 c, .int .u64 d] 64)) rfl _ (Below.refl _ _)
  have x2 := boxc (k := 2) (u := .int .u64 c) (heap1_0 w1 (.cells #[.int .u64 a, .int .u64 b, .int .u64 c, .int .u64 d] 64)) rfl _ (Below.refl _ _)
  have x3 := boxc (k := 3) (u := .int .u64 d) (heap1_0 w1 (.cells #[.int .u64 a, .int .u64 b, .int .u64 c, .int .u64 d] 64)) rfl _ (Below.refl _ _)
  generalize w1.alloc (.cells #[.int .u64 a, .int .u64 b, .int .u64 c, .int .u64 d] 64) = V at *
  cases r
  · go_wp2_with fail
    go_ret
    refine ⟨false, rfl, fun hm hv => ?_, hW0.trans (hb2.mono hW0.size)⟩
    symm
    rw [Bool.and_eq_false_iff, decide_eq_false_iff_not, decide_eq_false_iff_not]
    by_cases h : lo ≤ v ∧ v ≤ hi
    · have := ((HCD.out hm hv).1 h).2.2.2.2; cases this
    · omega
  · have heq := fun w => eq_fact a b c d v m lo hi w
    obtain ⟨q, hq⟩ : ∃ q, (decide (a = v) && (decide (b = m) && (decide (c = lo) && decide (d = hi)))) = q := ⟨_, rfl⟩
    rw [hq] at heq
    have HQ := Lib.hid hq
    clear hq
    have K0 := k0 _ hb2
    have K1 := k1 _ hb2
    have K2 := k2 _ hb2
    have K3 := k3 _ hb2
    clear k0 k1 k2 k3 hr
    go_wp2_with fail
    go_ret
    refine ⟨q, rfl, fun hm hv => ?_, hW0.trans (hb2.mono hW0.size)⟩
    rw [← HQ.out]
    by_cases h : lo ≤ v ∧ v ≤ hi
    · obtain ⟨q1, q2, q3, q4, _⟩ := (HCD.out hm hv).1 h
      rw [q1, q2, q3, q4, hm]
      simp only [decide_true, Bool.true_and]
      rw [Bool.eq_iff_iff]
      simp only [Bool.and_eq_true, decide_eq_true_eq]
      constructor <;> (rintro ⟨h1, h2⟩; exact ⟨h1.symm, h2.symm⟩)
    · have := (HCD.out hm hv).2 h; cases this
set_option maxRecDepth 100000 in
theorem rfknown_any (v m lo hi : Int) (hv : U64 v) (w : World) : Calls Tryz.prog 9 #[.agg #[.int .u64 v, .int .u64 m, .int .u64 lo, .int .u64 hi]] w fun e w' => e = .returned (.tuple #[.int .u64 (knownF v m lo hi).1, .bool (knownF v m lo hi).2]) ∧ Below w.heap.size w w' := by
  by_cases hm : m = 0
  · subst hm
    by_cases h : lo = v ∧ hi = v
    · have hk : knownF v 0 lo hi = (v, true) := by unfold knownF; rw [if_pos ⟨rfl, h⟩]
      rw [hk]
      have hcon := fun w => rfright_any v 0 lo hi w
      have HH := Lib.hid h
      clear hk h
      have q0 : (w.alloc (.cells #[.int .u64 v, .int .u64 0, .int .u64 lo, .int .u64 hi] 64)).heap[w.heap.size]? = some (.cells #[.int .u64 v, .int .u64 0, .int .u64 lo, .int .u64 hi] 64) := heap1_0 _ _
      have k0 := boxc (k := 0) (u := .int .u64 v) q0 rfl
      have k1 := boxc (k := 1) (u := .int .u64 0) q0 rfl
      have k2 := boxc (k := 2) (u := .int .u64 lo) q0 rfl
      have k3 := boxc (k := 3) (u := .int .u64 hi) q0 rfl
      clear q0
      have hW0 : Below w.heap.size w (w.alloc (.cells #[.int .u64 v, .int .u64 0, .int .u64 lo, .int .u64 hi] 64)) := below_boxes1 _ _
      have hr := Below.refl (w.alloc (.cells #[.int .u64 v, .int .u64 0, .int .u64 lo, .int .u64 hi] 64)).heap.size (w.alloc (.cells #[.int .u64 v, .int .u64 0, .int .u64 lo, .int .u64 hi] 64))
      go_enter Tryz.func9, Tryz.ntmps9
      go_upto_region 1 with fail
      generalize w.alloc (.cells #[.int .u64 v, .int .u64 0, .int .u64 lo, .int .u64 hi] 64) = W at *
      go_wp2_with fail
      refine (hcon _).mono ?_
      rintro e w1 ⟨b, rfl, hq, hb1⟩
      have HB := hW0.trans (hb1.mono hW0.size)
      have K0 := k0 _ hb1
      have K1 := k1 _ hb1
      clear k0 k1 k2 k3 hr
      have hbt : b = true := by rw [hq rfl hv, HH.out.1, HH.out.2]; simp
      clear hq
      subst hbt
      go_wp2_with fail
      go_ret2
      exact ⟨rfl, HB⟩
    · have hk : knownF v 0 lo hi = (0, false) := by unfold knownF; rw [if_neg (fun g => h g.2)]
      rw [hk]
      have hcon := fun w => rfright_any v 0 lo hi w
      have HH := Lib.hid h
      clear hk h
      have q0 : (w.alloc (.cells #[.int .u64 v, .int .u64 0, .int .u64 lo, .int .u64 hi] 64)).heap[w.heap.size]? = some (.cells #[.int .u64 v, .int .u64 0, .int .u64 lo, .int .u64 hi] 64) := heap1_0 _ _
      have k0 := boxc (k := 0) (u := .int .u64 v) q0 rfl
      have k1 := boxc (k := 1) (u := .int .u64 0) q0 rfl
      have k2 := boxc (k := 2) (u := .int .u64 lo) q0 rfl
      have k3 := boxc (k := 3) (u := .int .u64 hi) q0 rfl
      clear q0
      have hW0 : Below w.heap.size w (w.alloc (.cells #[.int .u64 v, .int .u64 0, .int .u64 lo, .int .u64 hi] 64)) := below_boxes1 _ _
      have hr := Below.refl (w.alloc (.cells #[.int .u64 v, .int .u64 0, .int .u64 lo, .int .u64 hi] 64)).heap.size (w.alloc (.cells #[.int .u64 v, .int .u64 0, .int .u64 lo, .int .u64 hi] 64))
      go_enter Tryz.func9, Tryz.ntmps9
      go_upto_region 1 with fail
      generalize w.alloc (.cells #[.int .u64 v, .int .u64 0, .int .u64 lo, .int .u64 hi] 64) = W at *
      go_wp2_with fail
      refine (hcon _).mono ?_
      rintro e w1 ⟨b, rfl, hq, hb1⟩
      have HB := hW0.trans (hb1.mono hW0.size)
      have K0 := k0 _ hb1
      have K1 := k1 _ hb1
      clear k0 k1 k2 k3 hr
      have hbt : b = false := by rw [hq rfl hv, Bool.and_eq_false_iff, decide_eq_false_iff_not, decide_eq_false_iff_not]; have := HH.out; omega
      clear hq
      subst hbt
      go_wp2_with fail
      go_ret2
      exact ⟨rfl, HB⟩
  · have hk : knownF v m lo hi = (0, false) := by unfold knownF; rw [if_neg (fun g => hm g.1)]
    rw [hk]
    have hcon := fun w => rfright_any v m lo hi w
    have hne : (m != 0) = true := by simp [hm]
    clear hk hm
    have q0 : (w.alloc (.cells #[.int .u64 v, .int .u64 m, .int .u64 lo, .int .u64 hi] 64)).heap[w.heap.size]? = some (.cells #[.int .u64 v, .int .u64 m, .int .u64 lo, .int .u64 hi] 64) := heap1_0 _ _
    have k0 := boxc (k := 0) (u := .int .u64 v) q0 rfl
    have k1 := boxc (k := 1) (u := .int .u64 m) q0 rfl
    have k2 := boxc (k := 2) (u := .int .u64 lo) q0 rfl
    have k3 := boxc (k := 3) (u := .int .u64 hi) q0 rfl
    clear q0
    have hW0 : Below w.heap.size w (w.alloc (.cells #[.int .u64 v, .int .u64 m, .int .u64 lo, .int .u64 hi] 64)) := below_boxes1 _ _
    have hr := Below.refl (w.alloc (.cells #[.int .u64 v, .int .u64 m, .int .u64 lo, .int .u64 hi] 64)).heap.size (w.alloc (.cells #[.int .u64 v, .int .u64 m, .int .u64 lo, .int .u64 hi] 64))
    go_enter Tryz.func9, Tryz.ntmps9
    go_upto_region 1 with fail
    generalize w.alloc (.cells #[.int .u64 v, .int .u64 m, .int .u64 lo, .int .u64 hi] 64) = W at *
    go_wp2_with fail
    refine (hcon _).mono ?_
    rintro e w1 ⟨b, rfl, hq, hb1⟩
    have HB := hW0.trans (hb1.mono hW0.size)
    have K0 := k0 _ hb1
    have K1 := k1 _ hb1
    clear k0 k1 k2 k3 hr
    clear hq
    cases b
    all_goals
      go_wp2_with fail
      go_ret2
      exact ⟨rfl, HB⟩
end Go.Proofs.YtncogaikiceidaaGreat
end

section
/- Numbers of one instruction, and the Mov of what is known: by the program and by the reference. No statement is proved here. -/
namespace Go.Proofs.YtncogaikiceidaaGreat
open Go.RowKit
set_option linter.unusedSimpArgs false
set_option linter.unusedVariables false
set_option linter.unnecessarySimpa false
/-- Is a number one of an instruction? -/
def shortB (n : Int) : Bool := decide (n < 2147483648) || decide (18446744071562067968 ≤ n)
theorem short_eq {n : Int} (hn : U64 n) : (n == IntKind.u64.wrap (wrap64 (wrap32 n))) = shortB n := by
  obtain ⟨h0, h1⟩ := hn
  rw [Bool.eq_iff_iff]
  simp only [shortB, beq_iff_eq, Bool.or_eq_true, decide_eq_true_eq, IntKind.wrap_u64]
  unfold wrap64 wrap32
  constructor
  · intro h; omega
  · intro h; omega
set_option maxRecDepth 100000 in
theorem short_any (n : Int) (hn : U64 n) (w : World) : Calls Tryz.prog 10 #[.int .u64 n] w fun e w' => e = .returned (.bool (shortB n)) ∧ w' = w := by
  have e := short_eq hn
  obtain ⟨h0, h1⟩ := hn
  generalize shortB n = b at *
  go_enter Tryz.func10, Tryz.ntmps10
  go_wp2_with fail
  go_ret
  exact ⟨by rw [← e]; rfl, rfl⟩
set_option maxRecDepth 100000 in
theorem rcut32_any (n : Int) (hn : U64 n) (w : World) : Calls Tryz.prog 81 #[.int .u64 n, .int .i64 32] w fun e w' => e = .returned (.int .u64 (n % 4294967296)) ∧ w' = w := by
  obtain ⟨h0, h1⟩ := hn
  go_enter Tryz.func81, Tryz.ntmps81
  go_wp2_with fail
  go_ret
  exact ⟨rfl, rfl⟩
/-- The lowest 32 bits, signed. -/
def sign32 (n : Int) : Int := if n % 4294967296 < 2147483648 then n % 4294967296 else n % 4294967296 + 18446744069414584320
theorem sign_short {n : Int} (hn : U64 n) : (sign32 n == n) = shortB n := by
  obtain ⟨h0, h1⟩ := hn
  rw [Bool.eq_iff_iff]
  simp only [shortB, beq_iff_eq, Bool.or_eq_true, decide_eq_true_eq]
  unfold sign32
  split <;> constructor <;> intro h <;> omega
set_option maxRecDepth 100000 in
theorem rsign32_any (n : Int) (hn : U64 n) (w : World) : Calls Tryz.prog 84 #[.int .u64 n, .int .i64 32] w fun e w' => e = .returned (.int .u64 (sign32 n)) ∧ w' = w := by
  have hc := fun w => rcut32_any n hn w
  have hx : 0 ≤ n % 4294967296 ∧ n % 4294967296 < 4294967296 := by omega
  have HS := Lib.hid (show sign32 n = if n % 4294967296 < 2147483648 then n % 4294967296 else n % 4294967296 + 18446744069414584320 from rfl)
  generalize n % 4294967296 = x at *
  obtain ⟨x0, x1⟩ := hx
  by_cases h : x < 2147483648
  · have hq : (x / 2147483648 == 0) = true := by rw [beq_iff_eq]; omega
    have HX := Lib.hid h
    clear h
    go_enter Tryz.func84, Tryz.ntmps84
    go_wp2_with fail
    refine (hc _).mono ?_
    rintro e w1 ⟨rfl, rfl⟩
    go_wp2_with fail
    go_ret
    exact ⟨by rw [HS.out, if_pos HX.out]; rfl, rfl⟩
  · have hq : (x / 2147483648 == 0) = false := by rw [beq_eq_false_iff_ne]; omega
    have hw : IntKind.u64.wrap (x - 4294967296) = x + 18446744069414584320 := by rw [IntKind.wrap_u64]; omega
    have HX := Lib.hid h
    clear h
    go_enter Tryz.func84, Tryz.ntmps84
    go_wp2_with fail
    refine (hc _).mono ?_
    rintro e w1 ⟨rfl, rfl⟩
    go_wp2_with fail
    go_ret
    exact ⟨by rw [HS.out, if_neg (Int.not_lt.2 HX.out)]; rfl, rfl⟩
theorem known_u64 {v m lo hi : Int} (hv : U64 v) : U64 (knownF v m lo hi).1 := by
  unfold knownF
  split
  · exact hv
  · exact ⟨by decide, by decide⟩
/-- The Mov of what is known of an instruction's register. -/
def movR (x : Insn) (kd v m lo hi : Int) : Insn × Bool := if kd = 1 ∧ (knownF v m lo hi).2 = true ∧ shortB (knownF v m lo hi).1 = true then (⟨183, x.dst, 0, 0, wrap32 (knownF v m lo hi).1⟩, true) else (Insn.zero, false)
set_option maxRecDepth 100000 in
set_option maxHeartbeats 4000000 in
theorem moved_five (x0 x1 x2 x3 x4 kd v m lo hi i o : Int) (hv : U64 v) (w : World) : Calls Tryz.prog 21 #[.agg #[.int .u8 x0, .int .u8 x1, .int .u8 x2, .int .i16 x3, .int .i32 x4], .agg #[.int .u8 kd, .int .u64 v, .int .u64 m, .int .u64 lo, .int .u64 hi, .int .i64 i, .int .i64 o]] w fun e w' => e = .returned (.tuple #[(movR ⟨x0, x1, x2, x3, x4⟩ kd v m lo hi).1.val, .bool (movR ⟨x0, x1, x2, x3, x4⟩ kd v m lo hi).2]) ∧ Below w.heap.size w w' := by
  have hk := fun w => fknown_any v m lo hi hv w
  have hs := fun w => short_any (knownF v m lo hi).1 (known_u64 hv) w
  have HM := Lib.hid (show movR ⟨x0, x1, x2, x3, x4⟩ kd v m lo hi = if kd = 1 ∧ (knownF v m lo hi).2 = true ∧ shortB (knownF v m lo hi).1 = true then (⟨183, x1, 0, 0, wrap32 (knownF v m lo hi).1⟩, true) else (Insn.zero, false) from rfl)
  generalize movR ⟨x0, x1, x2, x3, x4⟩ kd v m lo hi = mr at *
  generalize knownF v m lo hi = kn at *
  obtain ⟨k, b⟩ := kn
  simp only at hk hs HM
  generalize hsb : shortB k = s at *
  clear hsb
  cases b
  · have hmr : mr = (Insn.zero, false) := by rw [HM.out]; simp
    clear HM
    subst hmr
    simp only [Insn.val, Insn.zero]
    have q0 : (((w.alloc (.cells #[.int .u8 x0, .int .u8 x1, .int .u8 x2, .int .i16 x3, .int .i32 x4] 27)).alloc (.cells #[.int .u8 kd, .int .u64 v, .int .u64 m, .int .u64 lo, .int .u64 hi, .int .i64 i, .int .i64 o] 66)).alloc (.cells #[.int .u8 0, .int .u8 0, .int .u8 0, .int .i16 0, .int .i32 0] 27)).heap[w.heap.size]? = some (.cells #[.int .u8 x0, .int .u8 x1, .int .u8 x2, .int .i16 x3, .int .i32 x4] 27) := heap3_0 _ _ _ _
    have e0 := boxc (k := 0) (u := .int .u8 x0) q0 rfl
    have e1 := boxc (k := 1) (u := .int .u8 x1) q0 rfl
    have e2 := boxc (k := 2) (u := .int .u8 x2) q0 rfl
    have e3 := boxc (k := 3) (u := .int .i16 x3) q0 rfl
    have e4 := boxc (k := 4) (u := .int .i32 x4) q0 rfl
    clear q0
    have q1 : (((w.alloc (.cells #[.int .u8 x0, .int .u8 x1, .int .u8 x2, .int .i16 x3, .int .i32 x4] 27)).alloc (.cells #[.int .u8 kd, .int .u64 v, .int .u64 m, .int .u64 lo, .int .u64 hi, .int .i64 i, .int .i64 o] 66)).alloc (.cells #[.int .u8 0, .int .u8 0, .int .u8 0, .int .i16 0, .int .i32 0] 27)).heap[(w.heap.size + 1)]? = some (.cells #[.int .u8 kd, .int .u64 v, .int .u64 m, .int .u64 lo, .int .u64 hi, .int .i64 i, .int .i64 o] 66) := heap3_1 _ _ _ _
    have f0 := boxc (k := 0) (u := .int .u8 kd) q1 rfl
    have f1 := boxc (k := 1) (u := .int .u64 v) q1 rfl
    have f2 := boxc (k := 2) (u := .int .u64 m) q1 rfl
    have f3 := boxc (k := 3) (u := .int .u64 lo) q1 rfl
    have f4 := boxc (k := 4) (u := .int .u64 hi) q1 rfl
    have f5 := boxc (k := 5) (u := .int .i64 i) q1 rfl
    have f6 := boxc (k := 6) (u := .int .i64 o) q1 rfl
    clear q1
    have q2 : (((w.alloc (.cells #[.int .u8 x0, .int .u8 x1, .int .u8 x2, .int .i16 x3, .int .i32 x4] 27)).alloc (.cells #[.int .u8 kd, .int .u64 v, .int .u64 m, .int .u64 lo, .int .u64 hi, .int .i64 i, .int .i64 o] 66)).alloc (.cells #[.int .u8 0, .int .u8 0, .int .u8 0, .int .i16 0, .int .i32 0] 27)).heap[(w.heap.size + 2)]? = some (.cells #[.int .u8 0, .int .u8 0, .int .u8 0, .int .i16 0, .int .i32 0] 27) := heap3_2 _ _ _ _
    have g0 := boxc (k := 0) (u := .int .u8 0) q2 rfl
    have g1 := boxc (k := 1) (u := .int .u8 0) q2 rfl
    have g2 := boxc (k := 2) (u := .int .u8 0) q2 rfl
    have g3 := boxc (k := 3) (u := .int .i16 0) q2 rfl
    have g4 := boxc (k := 4) (u := .int .i32 0) q2 rfl
    have t2 := boxt q2
    clear q2
    have hW0 : Below w.heap.size w (((w.alloc (.cells #[.int .u8 x0, .int .u8 x1, .int .u8 x2, .int .i16 x3, .int .i32 x4] 27)).alloc (.cells #[.int .u8 kd, .int .u64 v, .int .u64 m, .int .u64 lo, .int .u64 hi, .int .i64 i, .int .i64 o] 66)).alloc (.cells #[.int .u8 0, .int .u8 0, .int .u8 0, .int .i16 0, .int .i32 0] 27)) := below_boxes3 _ _ _ _
    have hr := Below.refl (((w.alloc (.cells #[.int .u8 x0, .int .u8 x1, .int .u8 x2, .int .i16 x3, .int .i32 x4] 27)).alloc (.cells #[.int .u8 kd, .int .u64 v, .int .u64 m, .int .u64 lo, .int .u64 hi, .int .i64 i, .int .i64 o] 66)).alloc (.cells #[.int .u8 0, .int .u8 0, .int .u8 0, .int .i16 0, .int .i32 0] 27)).heap.size (((w.alloc (.cells #[.int .u8 x0, .int .u8 x1, .int .u8 x2, .int .i16 x3, .int .i32 x4] 27)).alloc (.cells #[.int .u8 kd, .int .u64 v, .int .u64 m, .int .u64 lo, .int .u64 hi, .int .i64 i, .int .i64 o] 66)).alloc (.cells #[.int .u8 0, .int .u8 0, .int .u8 0, .int .i16 0, .int .i32 0] 27))
    go_enter Tryz.func21, Tryz.ntmps21
    go_upto_region 1 with fail
    generalize ((w.alloc (.cells #[.int .u8 x0, .int .u8 x1, .int .u8 x2, .int .i16 x3, .int .i32 x4] 27)).alloc (.cells #[.int .u8 kd, .int .u64 v, .int .u64 m, .int .u64 lo, .int .u64 hi, .int .i64 i, .int .i64 o] 66)).alloc (.cells #[.int .u8 0, .int .u8 0, .int .u8 0, .int .i16 0, .int .i32 0] 27) = W at *
    go_wp2_with fail
    refine (hk _).mono ?_
    rintro e w1 ⟨rfl, hb1⟩
    have z0 := g0 _ hb1
    have z1 := g1 _ hb1
    have z2 := g2 _ hb1
    have z3 := g3 _ hb1
    have z4 := g4 _ hb1
    go_wp2_with fail
    refine bodyPost_ret (v := .tuple #[.agg #[.int .u8 0, .int .u8 0, .int .u8 0, .int .i16 0, .int .i32 0], .bool false]) (by simp [results, Tryz.results21, go_sem, *]) rfl ⟨rfl, ?_⟩
    (repeat (refine Below.setCell ?_ (by first | exact Nat.le_refl _ | exact Nat.le_succ _ | (simp; done) | (simp; omega)) _))
    exact hW0.trans (hb1.mono hW0.size)
  · by_cases hkd : kd = 1
    · subst hkd
      cases s
      · have hmr : mr = (Insn.zero, false) := by rw [HM.out]; simp
        clear HM
        subst hmr
        simp only [Insn.val, Insn.zero]
        have q0 : (((w.alloc (.cells #[.int .u8 x0, .int .u8 x1, .int .u8 x2, .int .i16 x3, .int .i32 x4] 27)).alloc (.cells #[.int .u8 1, .int .u64 v, .int .u64 m, .int .u64 lo, .int .u64 hi, .int .i64 i, .int .i64 o] 66)).alloc (.cells #[.int .u8 0, .int .u8 0, .int .u8 0, .int .i16 0, .int .i32 0] 27)).heap[w.heap.size]? = some (.cells #[.int .u8 x0, .int .u8 x1, .int .u8 x2, .int .i16 x3, .int .i32 x4] 27) := heap3_0 _ _ _ _
        have e0 := boxc (k := 0) (u := .int .u8 x0) q0 rfl
        have e1 := boxc (k := 1) (u := .int .u8 x1) q0 rfl
        have e2 := boxc (k := 2) (u := .int .u8 x2) q0 rfl
        have e3 := boxc (k := 3) (u := .int .i16 x3) q0 rfl
        have e4 := boxc (k := 4) (u := .int .i32 x4) q0 rfl
        clear q0
        have q1 : (((w.alloc (.cells #[.int .u8 x0, .int .u8 x1, .int .u8 x2, .int .i16 x3, .int .i32 x4] 27)).alloc (.cells #[.int .u8 1, .int .u64 v, .int .u64 m, .int .u64 lo, .int .u64 hi, .int .i64 i, .int .i64 o] 66)).alloc (.cells #[.int .u8 0, .int .u8 0, .int .u8 0, .int .i16 0, .int .i32 0] 27)).heap[(w.heap.size + 1)]? = some (.cells #[.int .u8 1, .int .u64 v, .int .u64 m, .int .u64 lo, .int .u64 hi, .int .i64 i, .int .i64 o] 66) := heap3_1 _ _ _ _
        have f0 := boxc (k := 0) (u := .int .u8 1) q1 rfl
        have f1 := boxc (k := 1) (u := .int .u64 v) q1 rfl
        have f2 := boxc (k := 2) (u := .int .u64 m) q1 rfl
        have f3 := boxc (k := 3) (u := .int .u64 lo) q1 rfl
        have f4 := boxc (k := 4) (u := .int .u64 hi) q1 rfl
        have f5 := boxc (k := 5) (u := .int .i64 i) q1 rfl
        have f6 := boxc (k := 6) (u := .int .i64 o) q1 rfl
        clear q1
        have q2 : (((w.alloc (.cells #[.int .u8 x0, .int .u8 x1, .int .u8 x2, .int .i16 x3, .int .i32 x4] 27)).alloc (.cells #[.int .u8 1, .int .u64 v, .int .u64 m, .int .u64 lo, .int .u64 hi, .int .i64 i, .int .i64 o] 66)).alloc (.cells #[.int .u8 0, .int .u8 0, .int .u8 0, .int .i16 0, .int .i32 0] 27)).heap[(w.heap.size + 2)]? = some (.cells #[.int .u8 0, .int .u8 0, .int .u8 0, .int .i16 0, .int .i32 0] 27) := heap3_2 _ _ _ _
        have g0 := boxc (k := 0) (u := .int .u8 0) q2 rfl
        have g1 := boxc (k := 1) (u := .int .u8 0) q2 rfl
        have g2 := boxc (k := 2) (u := .int .u8 0) q2 rfl
        have g3 := boxc (k := 3) (u := .int .i16 0) q2 rfl
        have g4 := boxc (k := 4) (u := .int .i32 0) q2 rfl
        have t2 := boxt q2
        clear q2
        have hW0 : Below w.heap.size w (((w.alloc (.cells #[.int .u8 x0, .int .u8 x1, .int .u8 x2, .int .i16 x3, .int .i32 x4] 27)).alloc (.cells #[.int .u8 1, .int .u64 v, .int .u64 m, .int .u64 lo, .int .u64 hi, .int .i64 i, .int .i64 o] 66)).alloc (.cells #[.int .u8 0, .int .u8 0, .int .u8 0, .int .i16 0, .int .i32 0] 27)) := below_boxes3 _ _ _ _
        have hr := Below.refl (((w.alloc (.cells #[.int .u8 x0, .int .u8 x1, .int .u8 x2, .int .i16 x3, .int .i32 x4] 27)).alloc (.cells #[.int .u8 1, .int .u64 v, .int .u64 m, .int .u64 lo, .int .u64 hi, .int .i64 i, .int .i64 o] 66)).alloc (.cells #[.int .u8 0, .int .u8 0, .int .u8 0, .int .i16 0, .int .i32 0] 27)).heap.size (((w.alloc (.cells #[.int .u8 x0, .int .u8 x1, .int .u8 x2, .int .i16 x3, .int .i32 x4] 27)).alloc (.cells #[.int .u8 1, .int .u64 v, .int .u64 m, .int .u64 lo, .int .u64 hi, .int .i64 i, .int .i64 o] 66)).alloc (.cells #[.int .u8 0, .int .u8 0, .int .u8 0, .int .i16 0, .int .i32 0] 27))
        go_enter Tryz.func21, Tryz.ntmps21
        go_upto_region 1 with fail
        generalize ((w.alloc (.cells #[.int .u8 x0, .int .u8 x1, .int .u8 x2, .int .i16 x3, .int .i32 x4] 27)).alloc (.cells #[.int .u8 1, .int .u64 v, .int .u64 m, .int .u64 lo, .int .u64 hi, .int .i64 i, .int .i64 o] 66)).alloc (.cells #[.int .u8 0, .int .u8 0, .int .u8 0, .int .i16 0, .int .i32 0] 27) = W at *
        go_wp2_with fail
        refine (hk _).mono ?_
        rintro e w1 ⟨rfl, hb1⟩
        go_wp2_with fail
        refine (hs _).mono ?_
        rintro e w2 ⟨rfl, rfl⟩
        have z0 := g0 _ hb1
        have z1 := g1 _ hb1
        have z2 := g2 _ hb1
        have z3 := g3 _ hb1
        have z4 := g4 _ hb1
        go_wp2_with fail
        refine bodyPost_ret (v := .tuple #[.agg #[.int .u8 0, .int .u8 0, .int .u8 0, .int .i16 0, .int .i32 0], .bool false]) (by simp [results, Tryz.results21, go_sem, *]) rfl ⟨rfl, ?_⟩
        (repeat (refine Below.setCell ?_ (by first | exact Nat.le_refl _ | exact Nat.le_succ _ | (simp; done) | (simp; omega)) _))
        exact hW0.trans (hb1.mono hW0.size)
      · have hmr : mr = (⟨183, x1, 0, 0, wrap32 k⟩, true) := by rw [HM.out]; simp
        clear HM
        subst hmr
        simp only [Insn.val]
        have q0 : (((w.alloc (.cells #[.int .u8 x0, .int .u8 x1, .int .u8 x2, .int .i16 x3, .int .i32 x4] 27)).alloc (.cells #[.int .u8 1, .int .u64 v, .int .u64 m, .int .u64 lo, .int .u64 hi, .int .i64 i, .int .i64 o] 66)).alloc (.cells #[.int .u8 0, .int .u8 0, .int .u8 0, .int .i16 0, .int .i32 0] 27)).heap[w.heap.size]? = some (.cells #[.int .u8 x0, .int .u8 x1, .int .u8 x2, .int .i16 x3, .int .i32 x4] 27) := heap3_0 _ _ _ _
        have e0 := boxc (k := 0) (u := .int .u8 x0) q0 rfl
        have e1 := boxc (k := 1) (u := .int .u8 x1) q0 rfl
        have e2 := boxc (k := 2) (u := .int .u8 x2) q0 rfl
        have e3 := boxc (k := 3) (u := .int .i16 x3) q0 rfl
        have e4 := boxc (k := 4) (u := .int .i32 x4) q0 rfl
        clear q0
        have q1 : (((w.alloc (.cells #[.int .u8 x0, .int .u8 x1, .int .u8 x2, .int .i16 x3, .int .i32 x4] 27)).alloc (.cells #[.int .u8 1, .int .u64 v, .int .u64 m, .int .u64 lo, .int .u64 hi, .int .i64 i, .int .i64 o] 66)).alloc (.cells #[.int .u8 0, .int .u8 0, .int .u8 0, .int .i16 0, .int .i32 0] 27)).heap[(w.heap.size + 1)]? = some (.cells #[.int .u8 1, .int .u64 v, .int .u64 m, .int .u64 lo, .int .u64 hi, .int .i64 i, .int .i64 o] 66) := heap3_1 _ _ _ _
        have f0 := boxc (k := 0) (u := .int .u8 1) q1 rfl
        have f1 := boxc (k := 1) (u := .int .u64 v) q1 rfl
        have f2 := boxc (k := 2) (u := .int .u64 m) q1 rfl
        have f3 := boxc (k := 3) (u := .int .u64 lo) q1 rfl
        have f4 := boxc (k := 4) (u := .int .u64 hi) q1 rfl
        have f5 := boxc (k := 5) (u := .int .i64 i) q1 rfl
        have f6 := boxc (k := 6) (u := .int .i64 o) q1 rfl
        clear q1
        have q2 : (((w.alloc (.cells #[.int .u8 x0, .int .u8 x1, .int .u8 x2, .int .i16 x3, .int .i32 x4] 27)).alloc (.cells #[.int .u8 1, .int .u64 v, .int .u64 m, .int .u64 lo, .int .u64 hi, .int .i64 i, .int .i64 o] 66)).alloc (.cells #[.int .u8 0, .int .u8 0, .int .u8 0, .int .i16 0, .int .i32 0] 27)).heap[(w.heap.size + 2)]? = some (.cells #[.int .u8 0, .int .u8 0, .int .u8 0, .int .i16 0, .int .i32 0] 27) := heap3_2 _ _ _ _
        have g0 := boxc (k := 0) (u := .int .u8 0) q2 rfl
        have g1 := boxc (k := 1) (u := .int .u8 0) q2 rfl
        have g2 := boxc (k := 2) (u := .int .u8 0) q2 rfl
        have g3 := boxc (k := 3) (u := .int .i16 0) q2 rfl
        have g4 := boxc (k := 4) (u := .int .i32 0) q2 rfl
        have t2 := boxt q2
        clear q2
        have hW0 : Below w.heap.size w (((w.alloc (.cells #[.int .u8 x0, .int .u8 x1, .int .u8 x2, .int .i16 x3, .int .i32 x4] 27)).alloc (.cells #[.int .u8 1, .int .u64 v, .int .u64 m, .int .u64 lo, .int .u64 hi, .int .i64 i, .int .i64 o] 66)).alloc (.cells #[.int .u8 0, .int .u8 0, .int .u8 0, .int .i16 0, .int .i32 0] 27)) := below_boxes3 _ _ _ _
        have hr := Below.refl (((w.alloc (.cells #[.int .u8 x0, .int .u8 x1, .int .u8 x2, .int .i16 x3, .int .i32 x4] 27)).alloc (.cells #[.int .u8 1, .int .u64 v, .int .u64 m, .int .u64 lo, .int .u64 hi, .int .i64 i, .int .i64 o] 66)).alloc (.cells #[.int .u8 0, .int .u8 0, .int .u8 0, .int .i16 0, .int .i32 0] 27)).heap.size (((w.alloc (.cells #[.int .u8 x0, .int .u8 x1, .int .u8 x2, .int .i16 x3, .int .i32 x4] 27)).alloc (.cells #[.int .u8 1, .int .u64 v, .int .u64 m, .int .u64 lo, .int .u64 hi, .int .i64 i, .int .i64 o] 66)).alloc (.cells #[.int .u8 0, .int .u8 0, .int .u8 0, .int .i16 0, .int .i32 0] 27))
        go_enter Tryz.func21, Tryz.ntmps21
        go_upto_region 1 with fail
        generalize ((w.alloc (.cells #[.int .u8 x0, .int .u8 x1, .int .u8 x2, .int .i16 x3, .int .i32 x4] 27)).alloc (.cells #[.int .u8 1, .int .u64 v, .int .u64 m, .int .u64 lo, .int .u64 hi, .int .i64 i, .int .i64 o] 66)).alloc (.cells #[.int .u8 0, .int .u8 0, .int .u8 0, .int .i16 0, .int .i32 0] 27) = W at *
        go_wp2_with fail
        refine (hk _).mono ?_
        rintro e w1 ⟨rfl, hb1⟩
        go_wp2_with fail
        refine (hs _).mono ?_
        rintro e w2 ⟨rfl, rfl⟩
        have z0 := g0 _ hb1
        have z1 := g1 _ hb1
        have z2 := g2 _ hb1
        have z3 := g3 _ hb1
        have z4 := g4 _ hb1
        go_wp2_with fail
        refine bodyPost_ret (v := .tuple #[.agg #[.int .u8 183, .int .u8 x1, .int .u8 0, .int .i16 0, .int .i32 (wrap32 k)], .bool true]) (by simp [results, Tryz.results21, go_sem, *]) rfl ⟨rfl, ?_⟩
        (repeat (refine Below.setCell ?_ (by first | exact Nat.le_refl _ | exact Nat.le_succ _ | (simp; done) | (simp; omega)) _))
        exact hW0.trans (hb1.mono hW0.size)
    · have hne : (kd != 1) = true := by simp [hkd]
      have hmr : mr = (Insn.zero, false) := by rw [HM.out, if_neg (fun h => hkd h.1)]
      clear HM hkd
      subst hmr
      simp only [Insn.val, Insn.zero]
      have q0 : (((w.alloc (.cells #[.int .u8 x0, .int .u8 x1, .int .u8 x2, .int .i16 x3, .int .i32 x4] 27)).alloc (.cells #[.int .u8 kd, .int .u64 v, .int .u64 m, .int .u64 lo, .int .u64 hi, .int .i64 i, .int .i64 o] 66)).alloc (.cells #[.int .u8 0, .int .u8 0, .int .u8 0, .int .i16 0, .int .i32 0] 27)).heap[w.heap.size]? = some (.cells #[.int .u8 x0, .int .u8 x1, .int .u8 x2, .int .i16 x3, .int .i32 x4] 27) := heap3_0 _ _ _ _
      have e0 := boxc (k := 0) (u := .int .u8 x0) q0 rfl
      have e1 := boxc (k := 1) (u := .int .u8 x1) q0 rfl
      have e2 := boxc (k := 2) (u := .int .u8 x2) q0 rfl
      have e3 := boxc (k := 3) (u := .int .i16 x3) q0 rfl
      have e4 := boxc (k := 4) (u := .int .i32 x4) q0 rfl
      clear q0
      have q1 : (((w.alloc (.cells #[.int .u8 x0, .int .u8 x1, .int .u8 x2, .int .i16 x3, .int .i32 x4] 27)).alloc (.cells #[.int .u8 kd, .int .u64 v, .int .u64 m, .int .u64 lo, .int .u64 hi, .int .i64 i, .int .i64 o] 66)).alloc (.cells #[.int .u8 0, .int .u8 0, .int .u8 0, .int .i16 0, .int .i32 0] 27)).heap[(w.heap.size + 1)]? = some (.cells #[.int .u8 kd, .int .u64 v, .int .u64 m, .int .u64 lo, .int .u64 hi, .int .i64 i, .int .i64 o] 66) := heap3_1 _ _ _ _
      have f0 := boxc (k := 0) (u := .int .u8 kd) q1 rfl
      have f1 := boxc (k := 1) (u := .int .u64 v) q1 rfl
      have f2 := boxc (k := 2) (u := .int .u64 m) q1 rfl
      have f3 := boxc (k := 3) (u := .int .u64 lo) q1 rfl
      have f4 := boxc (k := 4) (u := .int .u64 hi) q1 rfl
      have f5 := boxc (k := 5) (u := .int .i64 i) q1 rfl
      have f6 := boxc (k := 6) (u := .int .i64 o) q1 rfl
      clear q1
      have q2 : (((w.alloc (.cells #[.int .u8 x0, .int .u8 x1, .int .u8 x2, .int .i16 x3, .int .i32 x4] 27)).alloc (.cells #[.int .u8 kd, .int .u64 v, .int .u64 m, .int .u64 lo, .int .u64 hi, .int .i64 i, .int .i64 o] 66)).alloc (.cells #[.int .u8 0, .int .u8 0, .int .u8 0, .int .i16 0, .int .i32 0] 27)).heap[(w.heap.size + 2)]? = some (.cells #[.int .u8 0, .int .u8 0, .int .u8 0, .int .i16 0, .int .i32 0] 27) := heap3_2 _ _ _ _
      have g0 := boxc (k := 0) (u := .int .u8 0) q2 rfl
      have g1 := boxc (k := 1) (u := .int .u8 0) q2 rfl
      have g2 := boxc (k := 2) (u := .int .u8 0) q2 rfl
      have g3 := boxc (k := 3) (u := .int .i16 0) q2 rfl
      have g4 := boxc (k := 4) (u := .int .i32 0) q2 rfl
      have t2 := boxt q2
      clear q2
      have hW0 : Below w.heap.size w (((w.alloc (.cells #[.int .u8 x0, .int .u8 x1, .int .u8 x2, .int .i16 x3, .int .i32 x4] 27)).alloc (.cells #[.int .u8 kd, .int .u64 v, .int .u64 m, .int .u64 lo, .int .u64 hi, .int .i64 i, .int .i64 o] 66)).alloc (.cells #[.int .u8 0, .int .u8 0, .int .u8 0, .int .i16 0, .int .i32 0] 27)) := below_boxes3 _ _ _ _
      have hr := Below.refl (((w.alloc (.cells #[.int .u8 x0, .int .u8 x1, .int .u8 x2, .int .i16 x3, .int .i32 x4] 27)).alloc (.cells #[.int .u8 kd, .int .u64 v, .int .u64 m, .int .u64 lo, .int .u64 hi, .int .i64 i, .int .i64 o] 66)).alloc (.cells #[.int .u8 0, .int .u8 0, .int .u8 0, .int .i16 0, .int .i32 0] 27)).heap.size (((w.alloc (.cells #[.int .u8 x0, .int .u8 x1, .int .u8 x2, .int .i16 x3, .int .i32 x4] 27)).alloc (.cells #[.int .u8 kd, .int .u64 v, .int .u64 m, .int .u64 lo, .int .u64 hi, .int .i64 i, .int .i64 o] 66)).alloc (.cells #[.int .u8 0, .int .u8 0, .int .u8 0, .int .i16 0, .int .i32 0] 27))
      go_enter Tryz.func21, Tryz.ntmps21
      go_upto_region 1 with fail
      generalize ((w.alloc (.cells #[.int .u8 x0, .int .u8 x1, .int .u8 x2, .int .i16 x3, .int .i32 x4] 27)).alloc (.cells #[.int .u8 kd, .int .u64 v, .int .u64 m, .int .u64 lo, .int .u64 hi, .int .i64 i, .int .i64 o] 66)).alloc (.cells #[.int .u8 0, .int .u8 0, .int .u8 0, .int .i16 0, .int .i32 0] 27) = W at *
      go_wp2_with fail
      refine (hk _).mono ?_
      rintro e w1 ⟨rfl, hb1⟩
      have z0 := g0 _ hb1
      have z1 := g1 _ hb1
      have z2 := g2 _ hb1
      have z3 := g3 _ hb1
      have z4 := g4 _ hb1
      go_wp2_with fail
      refine bodyPost_ret (v := .tuple #[.agg #[.int .u8 0, .int .u8 0, .int .u8 0, .int .i16 0, .int .i32 0], .bool false]) (by simp [results, Tryz.results21, go_sem, *]) rfl ⟨rfl, ?_⟩
      (repeat (refine Below.setCell ?_ (by first | exact Nat.le_refl _ | exact Nat.le_succ _ | (simp; done) | (simp; omega)) _))
      exact hW0.trans (hb1.mono hW0.size)
/-- The same, by the reference: where it is not known, the instruction as it is. -/
def rmovR (x : Insn) (kd v m lo hi : Int) : Insn × Bool := if kd = 1 ∧ (knownF v m lo hi).2 = true ∧ shortB (knownF v m lo hi).1 = true then (⟨183, x.dst, 0, 0, wrap32 (knownF v m lo hi).1⟩, true) else (x, false)
end Go.Proofs.YtncogaikiceidaaGreat
end
