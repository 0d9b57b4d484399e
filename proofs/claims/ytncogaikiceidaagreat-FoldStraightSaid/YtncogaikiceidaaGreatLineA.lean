/- Facts of one number, and the readings of a walk. No statement is proved here. -/
import Derived.Test.YtncogaikiceidaaGreatLine
import Derived.Test.YtncogaikiceidaaGreatFold
namespace Go.Proofs.YtncogaikiceidaaGreat
open Go.RowKit
set_option linter.unusedSimpArgs false
set_option linter.unusedVariables false
set_option linter.unnecessarySimpa false
section
set_option maxRecDepth 100000 in
set_option maxHeartbeats 2000000 in
theorem rright13S {rs : List RV} (hr : StOk rs) (w : World) : Calls Tryz.prog 67 #[.agg (stV rs).toArray] w fun e w' => e = .returned (.bool true) ∧ Below w.heap.size w w' := by
  have hreg := fun (i : Nat) (hi : i < 11) => hr.reg hi
  have hslot := fun (i j : Nat) (hi : i < 64) (hj : j < 8) => stV_slot hr.len (i := i) (j := j) hi hj
  generalize stV rs = A at *
  have q0 := heap1_0 w (.cells A.toArray 92)
  have hc : ∀ k u, A[k]? = some u → ∀ w', Below (w.alloc (.cells A.toArray 92)).heap.size (w.alloc (.cells A.toArray 92)) w' → w'.cell? ⟨w.heap.size, k, none⟩ = some u := fun k u hu => boxc q0 (by simpa using hu)
  clear q0
  have hW0 : Below w.heap.size w (w.alloc (.cells A.toArray 92)) := below_boxes1 _ _
  have hrf := Below.refl (w.alloc (.cells A.toArray 92)).heap.size (w.alloc (.cells A.toArray 92))
  go_enter Tryz.func67, Tryz.ntmps67
  go_upto_region 1 with fail
  generalize w.alloc (.cells A.toArray 92) = W at *
  have HREG := Lib.hid hreg
  have HSLOT := Lib.hid hslot
  have HC := Lib.hid hc
  clear hreg hslot hc hr
  go_wp2_with fail
  go_loopw [3] (fun k wr => ∃ j : Nat, j ≤ 11 ∧ k = .int .i64 j ∧ Below W.heap.size W wr) (fun k _ => 11 - (intOf k).toNat)
  case atStart => exact ⟨0, by omega, rfl, hrf⟩
  case round =>
    obtain ⟨j, hj, rfl, hb⟩ := hrel
    rcases Nat.lt_or_ge j 11 with hlt | hge
    · obtain ⟨v, hv, hvc⟩ := HREG.out j hlt
      obtain ⟨v0, v1, v2, v3, v4, v5, v6, rfl, hcall⟩ := hv.get
      have c0 := HC.out (j * 7) v0 (by rw [show j * 7 = 7 * j + 0 by omega, hvc 0 (by omega)]; rfl) _ hb
      have c1 := HC.out (j * 7 + 1) v1 (by rw [show j * 7 + 1 = 7 * j + 1 by omega, hvc 1 (by omega)]; rfl) _ hb
      have c2 := HC.out (j * 7 + 2) v2 (by rw [show j * 7 + 2 = 7 * j + 2 by omega, hvc 2 (by omega)]; rfl) _ hb
      have c3 := HC.out (j * 7 + 3) v3 (by rw [show j * 7 + 3 = 7 * j + 3 by omega, hvc 3 (by omega)]; rfl) _ hb
      have c4 := HC.out (j * 7 + 4) v4 (by rw [show j * 7 + 4 = 7 * j + 4 by omega, hvc 4 (by omega)]; rfl) _ hb
      have c5 := HC.out (j * 7 + 5) v5 (by rw [show j * 7 + 5 = 7 * j + 5 by omega, hvc 5 (by omega)]; rfl) _ hb
      have c6 := HC.out (j * 7 + 6) v6 (by rw [show j * 7 + 6 = 7 * j + 6 by omega, hvc 6 (by omega)]; rfl) _ hb
      clear hvc hv
      go_wp2_with fail
      refine (hcall _).mono ?_
      rintro e w1 ⟨rfl, hc1⟩
      have hb1 := hb.trans (hc1.mono hb.size)
      clear hc1
      go_wp2_with fail
      go_roundw
      case rel => exact ⟨j + 1, by omega, by go_num, hb1⟩
      case measure => simp [intOf]; omega
    · go_wp2_with fail
      go_loopw [4] (fun k wr => ∃ j : Nat, j ≤ 64 ∧ k = .int .i64 j ∧ Below W.heap.size W wr) (fun k _ => 64 - (intOf k).toNat)
      case atStart => exact ⟨0, by omega, rfl, hb⟩
      case round =>
        clear hb hge
        obtain ⟨j, hj, rfl, hb⟩ := hrel
        rcases Nat.lt_or_ge j 64 with hlt | hge
        · have c0 := HC.out (77 + j * 8) (.int .u8 0) (by rw [show 77 + j * 8 = 77 + 8 * j + 0 by omega, HSLOT.out j 0 hlt (by omega)]; rfl)
          have c1 := HC.out (77 + j * 8 + 1) (.int .u64 0) (by rw [show 77 + j * 8 + 1 = 77 + 8 * j + 1 by omega, HSLOT.out j 1 hlt (by omega)]; rfl)
          have c2 := HC.out (77 + j * 8 + 2) (.int .u64 0) (by rw [show 77 + j * 8 + 2 = 77 + 8 * j + 2 by omega, HSLOT.out j 2 hlt (by omega)]; rfl)
          have c3 := HC.out (77 + j * 8 + 3) (.int .u64 0) (by rw [show 77 + j * 8 + 3 = 77 + 8 * j + 3 by omega, HSLOT.out j 3 hlt (by omega)]; rfl)
          have c4 := HC.out (77 + j * 8 + 4) (.int .u64 0) (by rw [show 77 + j * 8 + 4 = 77 + 8 * j + 4 by omega, HSLOT.out j 4 hlt (by omega)]; rfl)
          have c5 := HC.out (77 + j * 8 + 5) (.int .i64 0) (by rw [show 77 + j * 8 + 5 = 77 + 8 * j + 5 by omega, HSLOT.out j 5 hlt (by omega)]; rfl)
          have c6 := HC.out (77 + j * 8 + 6) (.int .i64 0) (by rw [show 77 + j * 8 + 6 = 77 + 8 * j + 6 by omega, HSLOT.out j 6 hlt (by omega)]; rfl)
          have c7 := HC.out (77 + j * 8 + 7) (.int .u8 0) (by rw [show 77 + j * 8 + 7 = 77 + 8 * j + 7 by omega, HSLOT.out j 7 hlt (by omega)]; rfl)
          have hz := rval12_none
          have C := c0 _ hb
          go_wp2_with fail
          refine (hz _).mono ?_
          rintro e w1 ⟨rfl, hc1⟩
          have hb1 := hb.trans (hc1.mono hb.size)
          clear hc1
          have C0 := c0 _ hb1
          go_wp2_with fail
          go_roundw
          case rel => exact ⟨j + 1, by omega, by go_num, hb1⟩
          case measure => simp [intOf]; omega
        · go_wp2_with fail
          go_ret
          exact ⟨rfl, hW0.trans (hb.mono hW0.size)⟩


end
section
attribute [local go_sem ↓] ldFrom_589 ldFrom_604 mkS89_eq mkW94_eq mkW108_eq
set_option maxRecDepth 100000 in
set_option maxHeartbeats 4000000 in
theorem rdst14G (K : List Value) (hKn : K.length = 604) (d : Nat) (hd : d < 11) (h5 : K[5]? = some (.int .u8 d)) (r0 r1 r2 r3 r4 r5 r6 : Int) (g0 : K[15 + d * 7]? = some (.int .u8 r0)) (g1 : K[15 + d * 7 + 1]? = some (.int .u64 r1)) (g2 : K[15 + d * 7 + 2]? = some (.int .u64 r2)) (g3 : K[15 + d * 7 + 3]? = some (.int .u64 r3)) (g4 : K[15 + d * 7 + 4]? = some (.int .u64 r4)) (g5 : K[15 + d * 7 + 5]? = some (.int .i64 r5)) (g6 : K[15 + d * 7 + 6]? = some (.int .i64 r6)) (w : World) :
    Calls Tryz.prog 127 #[.agg K.toArray] w fun e w' => e = .returned (.agg #[.int .u8 r0, .int .u64 r1, .int .u64 r2, .int .u64 r3, .int .u64 r4, .int .i64 r5, .int .i64 r6]) ∧ Below w.heap.size w w' := by
  have q0 : ((w.alloc (.cells K.toArray 158)).alloc (.cells #[.int .u8 0, .int .u64 0, .int .u64 0, .int .u64 0, .int .u64 0, .int .i64 0, .int .i64 0] 66)).heap[w.heap.size]? = some (.cells K.toArray 158) := heap2_0 _ _ _
  have k5 := boxc (k := 5) (u := .int .u8 d) q0 (by simpa using h5)
  have k15 := boxc (k := 15 + d * 7) (u := .int .u8 r0) q0 (by simpa using g0)
  have k16 := boxc (k := 15 + d * 7 + 1) (u := .int .u64 r1) q0 (by simpa using g1)
  have k17 := boxc (k := 15 + d * 7 + 2) (u := .int .u64 r2) q0 (by simpa using g2)
  have k18 := boxc (k := 15 + d * 7 + 3) (u := .int .u64 r3) q0 (by simpa using g3)
  have k19 := boxc (k := 15 + d * 7 + 4) (u := .int .u64 r4) q0 (by simpa using g4)
  have k20 := boxc (k := 15 + d * 7 + 5) (u := .int .i64 r5) q0 (by simpa using g5)
  have k21 := boxc (k := 15 + d * 7 + 6) (u := .int .i64 r6) q0 (by simpa using g6)
  clear q0 h5 g0 g1 g2 g3 g4 g5 g6
  have q1 : ((w.alloc (.cells K.toArray 158)).alloc (.cells #[.int .u8 0, .int .u64 0, .int .u64 0, .int .u64 0, .int .u64 0, .int .i64 0, .int .i64 0] 66)).heap[(w.heap.size + 1)]? = some (.cells #[.int .u8 0, .int .u64 0, .int .u64 0, .int .u64 0, .int .u64 0, .int .i64 0, .int .i64 0] 66) := heap2_1 _ _ _
  have b0 := boxc (k := 0) (u := .int .u8 0) q1 rfl
  have b1 := boxc (k := 1) (u := .int .u64 0) q1 rfl
  have b2 := boxc (k := 2) (u := .int .u64 0) q1 rfl
  have b3 := boxc (k := 3) (u := .int .u64 0) q1 rfl
  have b4 := boxc (k := 4) (u := .int .u64 0) q1 rfl
  have b5 := boxc (k := 5) (u := .int .i64 0) q1 rfl
  have b6 := boxc (k := 6) (u := .int .i64 0) q1 rfl
  have t1 := boxt q1
  clear q1
  have hW0 : Below w.heap.size w ((w.alloc (.cells K.toArray 158)).alloc (.cells #[.int .u8 0, .int .u64 0, .int .u64 0, .int .u64 0, .int .u64 0, .int .i64 0, .int .i64 0] 66)) := below_boxes2 _ _ _
  have hrf := Below.refl ((w.alloc (.cells K.toArray 158)).alloc (.cells #[.int .u8 0, .int .u64 0, .int .u64 0, .int .u64 0, .int .u64 0, .int .i64 0, .int .i64 0] 66)).heap.size ((w.alloc (.cells K.toArray 158)).alloc (.cells #[.int .u8 0, .int .u64 0, .int .u64 0, .int .u64 0, .int .u64 0, .int .i64 0, .int .i64 0] 66))
  have hdi : (d : Int) < 11 := by omega
  go_enter Tryz.func127, Tryz.ntmps127
  go_upto_region 1 with fail
  generalize (w.alloc (.cells K.toArray 158)).alloc (.cells #[.int .u8 0, .int .u64 0, .int .u64 0, .int .u64 0, .int .u64 0, .int .i64 0, .int .i64 0] 66) = W at *
  have z0 := b0 _ hrf
  have z1 := b1 _ hrf
  have z2 := b2 _ hrf
  have z3 := b3 _ hrf
  have z4 := b4 _ hrf
  have z5 := b5 _ hrf
  have z6 := b6 _ hrf
  go_wp2_with fail
  refine bodyPost_ret (v := .agg #[.int .u8 r0, .int .u64 r1, .int .u64 r2, .int .u64 r3, .int .u64 r4, .int .i64 r5, .int .i64 r6]) (by simp [results, Tryz.results127, go_sem, *]) rfl ⟨rfl, ?_⟩
  (repeat (refine Below.setCell ?_ (by first | exact Nat.le_refl _ | exact Nat.le_succ _ | (simp; done) | (simp; omega)) _))
  exact hW0.trans (hrf.mono hW0.size)

end
section
/-- All blocks but one are as they were. -/
structure KeepB (g : Nat) (V w' : World) : Prop where
  size : V.heap.size ≤ w'.heap.size
  keep : ∀ k, k < V.heap.size → k ≠ g → w'.heap[k]? = V.heap[k]?
section
variable {g : Nat} {V w w' : World}
theorem keepB_refl : KeepB g V V := ⟨Nat.le_refl _, fun _ _ _ => rfl⟩
theorem keepB_drew (h : KeepB g V w) : KeepB g V w.drew := ⟨h.size, h.keep⟩
theorem keepB_drewN (h : KeepB g V w) (n : Nat) : KeepB g V (w.drewN n) := ⟨h.size, h.keep⟩
theorem keepB_step (h : KeepB g V w) (hb : Below w.heap.size w w') : KeepB g V w' :=
  ⟨Nat.le_trans h.size hb.size, fun k hk hg => (hb.block k (Nat.lt_of_lt_of_le hk h.size)).trans (h.keep k hk hg)⟩
theorem keepB_set {o : Nat} {u : Value} (h : KeepB g V w) : KeepB g V (w.setCell ⟨g, o, none⟩ u) :=
  ⟨by simpa using h.size, fun k hk hg => (Below.heap_setCell _ _ _ _ hg).trans (h.keep k hk hg)⟩
theorem keepB_alloc {o : Obj} (h : KeepB g V w) : KeepB g V (w.alloc o) :=
  ⟨Nat.le_trans h.size (by simp), fun k hk hg => (Below.heap_alloc _ _ _ (Nat.lt_of_lt_of_le hk h.size)).trans (h.keep k hk hg)⟩
theorem keepB_of (h : Below V.heap.size V w) : KeepB g V w := ⟨h.size, fun k hk _ => h.block k hk⟩
theorem keepB_cell (h : KeepB g V w) {b o : Nat} (hb : b < V.heap.size) (hg : b ≠ g) {u : Value} (hu : V.cell? ⟨b, o, none⟩ = some u) : w.cell? ⟨b, o, none⟩ = some u :=
  (World.cell?_of_block (a := ⟨b, o, none⟩) (h.keep b hb hg)).trans hu
end

end
section
theorem known_num {n : Int} : knownF n 0 n n = (n, true) := by simp [knownF]
theorem rfknown_k (n : Int) (hn : U64 n) (w : World) : Calls Tryz.prog 9 #[.agg #[.int .u64 n, .int .u64 0, .int .u64 n, .int .u64 n]] w fun e w' => e = .returned (.tuple #[.int .u64 n, .bool true]) ∧ Below w.heap.size w w' := by
  have := rfknown_any n 0 n n hn w
  rwa [known_num] at this

theorem rtright_k (n : Int) (w : World) : Calls Tryz.prog 91 #[.agg #[.int .u64 n, .int .u64 0]] w fun e w' => e = .returned (.bool true) ∧ Below w.heap.size w w' := by
  refine (rtright_any n 0 w).mono ?_
  rintro e w1 ⟨b, rfl, h, hb⟩
  have := h rfl
  subst this
  exact ⟨rfl, hb⟩
theorem rsettle_k (v lo hi : Int) (hv : U64 v) (h0 : lo ≤ v) (h1 : v ≤ hi) (w : World) : Calls Tryz.prog 60 #[.agg #[.int .u64 v, .int .u64 0, .int .u64 lo, .int .u64 hi]] w fun e w' => e = .returned (.tuple #[.agg #[.int .u64 v, .int .u64 0, .int .u64 v, .int .u64 v], .bool true]) ∧ Below w.heap.size w w' := by
  refine (rsettle_any v 0 lo hi w).mono ?_
  rintro e w1 ⟨a, b, c, d, r, rfl, h, hb⟩
  obtain ⟨e0, e1, e2, e3, e4⟩ := (h rfl hv).1 ⟨h0, h1⟩
  rw [e0, e1, e2, e3, e4]
  exact ⟨rfl, hb⟩

set_option maxRecDepth 100000 in
theorem rwide_true (op : Int) (ho : OpOk op) (a b : Int) (ha : U64 a) (hb : U64 b) (w : World) : Calls Tryz.prog 161 #[.int .u8 op, .bool false, .int .i16 0, .agg #[.int .u64 a, .int .u64 0, .int .u64 a, .int .u64 a], .agg #[.int .u64 b, .int .u64 0, .int .u64 b, .int .u64 b]] w fun e w' => e = .returned (.agg #[.int .u64 (doM op true a b), .int .u64 0, .int .u64 (doM op true a b), .int .u64 (doM op true a b)]) ∧ Below w.heap.size w w' := by
  have hk1 := fun w => rfknown_k a ha w
  have hk2 := fun w => rfknown_k b hb w
  have hd := fun w => rdo_any op ho true a b ha hb w
  generalize doM op true a b = n at *
  have q0 : (((w.alloc (.cells #[.int .u64 a, .int .u64 0, .int .u64 a, .int .u64 a] 64)).alloc (.cells #[.int .u64 b, .int .u64 0, .int .u64 b, .int .u64 b] 64)).alloc (.cells #[.int .u64 0, .int .u64 0, .int .u64 0, .int .u64 0] 64)).heap[w.heap.size]? = some (.cells #[.int .u64 a, .int .u64 0, .int .u64 a, .int .u64 a] 64) := heap3_0 _ _ _ _
  have a0 := boxc (k := 0) (u := .int .u64 a) q0 rfl
  have a1 := boxc (k := 1) (u := .int .u64 0) q0 rfl
  have a2 := boxc (k := 2) (u := .int .u64 a) q0 rfl
  have a3 := boxc (k := 3) (u := .int .u64 a) q0 rfl
  clear q0
  have q1 : (((w.alloc (.cells #[.int .u64 a, .int .u64 0, .int .u64 a, .int .u64 a] 64)).alloc (.cells #[.int .u64 b, .int .u64 0, .int .u64 b, .int .u64 b] 64)).alloc (.cells #[.int .u64 0, .int .u64 0, .int .u64 0, .int .u64 0] 64)).heap[(w.heap.size + 1)]? = some (.cells #[.int .u64 b, .int .u64 0, .int .u64 b, .int .u64 b] 64) := heap3_1 _ _ _ _
  have b0 := boxc (k := 0) (u := .int .u64 b) q1 rfl
  have b1 := boxc (k := 1) (u := .int .u64 0) q1 rfl
  have b2 := boxc (k := 2) (u := .int .u64 b) q1 rfl
  have b3 := boxc (k := 3) (u := .int .u64 b) q1 rfl
  clear q1
  have q2 : (((w.alloc (.cells #[.int .u64 a, .int .u64 0, .int .u64 a, .int .u64 a] 64)).alloc (.cells #[.int .u64 b, .int .u64 0, .int .u64 b, .int .u64 b] 64)).alloc (.cells #[.int .u64 0, .int .u64 0, .int .u64 0, .int .u64 0] 64)).heap[(w.heap.size + 2)]? = some (.cells #[.int .u64 0, .int .u64 0, .int .u64 0, .int .u64 0] 64) := heap3_2 _ _ _ _
  have c0 := boxc (k := 0) (u := .int .u64 0) q2 rfl
  have c1 := boxc (k := 1) (u := .int .u64 0) q2 rfl
  have c2 := boxc (k := 2) (u := .int .u64 0) q2 rfl
  have c3 := boxc (k := 3) (u := .int .u64 0) q2 rfl
  have t2 := boxt q2
  clear q2
  have hW0 : Below w.heap.size w (((w.alloc (.cells #[.int .u64 a, .int .u64 0, .int .u64 a, .int .u64 a] 64)).alloc (.cells #[.int .u64 b, .int .u64 0, .int .u64 b, .int .u64 b] 64)).alloc (.cells #[.int .u64 0, .int .u64 0, .int .u64 0, .int .u64 0] 64)) := below_boxes3 _ _ _ _
  have hr := Below.refl (((w.alloc (.cells #[.int .u64 a, .int .u64 0, .int .u64 a, .int .u64 a] 64)).alloc (.cells #[.int .u64 b, .int .u64 0, .int .u64 b, .int .u64 b] 64)).alloc (.cells #[.int .u64 0, .int .u64 0, .int .u64 0, .int .u64 0] 64)).heap.size (((w.alloc (.cells #[.int .u64 a, .int .u64 0, .int .u64 a, .int .u64 a] 64)).alloc (.cells #[.int .u64 b, .int .u64 0, .int .u64 b, .int .u64 b] 64)).alloc (.cells #[.int .u64 0, .int .u64 0, .int .u64 0, .int .u64 0] 64))
  go_enter Tryz.func161, Tryz.ntmps161
  go_upto_region 1 with fail
  generalize ((w.alloc (.cells #[.int .u64 a, .int .u64 0, .int .u64 a, .int .u64 a] 64)).alloc (.cells #[.int .u64 b, .int .u64 0, .int .u64 b, .int .u64 b] 64)).alloc (.cells #[.int .u64 0, .int .u64 0, .int .u64 0, .int .u64 0] 64) = W at *
  go_wp2_with fail
  refine (hk1 _).mono ?_
  rintro e w1 ⟨rfl, hc1⟩
  have hb1 : Below W.heap.size W w1 := hc1
  clear hc1
  have B0 := b0 _ hb1
  have B1 := b1 _ hb1
  have B2 := b2 _ hb1
  have B3 := b3 _ hb1
  go_wp2_with fail
  refine (hk2 _).mono ?_
  rintro e w2 ⟨rfl, hc2⟩
  have hb2 := hb1.trans (hc2.mono hb1.size)
  clear hc2
  go_wp2_with fail
  refine (hd _).mono ?_
  rintro e w3 ⟨rfl, hc3⟩
  have hb3 := hb2.trans (hc3.mono hb2.size)
  clear hc3
  go_wp2_with fail
  refine (rof_any n _).mono ?_
  rintro e w4 ⟨rfl, hc4⟩
  have hb4 := hb3.trans (hc4.mono hb3.size)
  clear hc4
  have z0 := c0 _ hb4
  have z1 := c1 _ hb4
  have z2 := c2 _ hb4
  have z3 := c3 _ hb4
  go_wp2_with fail
  refine bodyPost_ret (v := .agg #[.int .u64 n, .int .u64 0, .int .u64 n, .int .u64 n]) (by simp [results, Tryz.results161, go_sem, *]) rfl ⟨rfl, ?_⟩
  (repeat (refine Below.setCell ?_ (by first | exact Nat.le_refl _ | exact Nat.le_succ _ | (simp; done) | (simp; omega)) _))
  exact hW0.trans (hb4.mono hW0.size)

set_option maxRecDepth 100000 in
theorem rwide_false (op : Int) (ho : OpOk op) (a b : Int) (ha : U64 a) (hb : U64 b) (w : World) : Calls Tryz.prog 161 #[.int .u8 op, .bool true, .int .i16 0, .agg #[.int .u64 a, .int .u64 0, .int .u64 a, .int .u64 a], .agg #[.int .u64 b, .int .u64 0, .int .u64 b, .int .u64 b]] w fun e w' => e = .returned (.agg #[.int .u64 (doM op false a b), .int .u64 0, .int .u64 (doM op false a b), .int .u64 (doM op false a b)]) ∧ Below w.heap.size w w' := by
  have hk1 := fun w => rfknown_k a ha w
  have hk2 := fun w => rfknown_k b hb w
  have hd := fun w => rdo_any op ho false a b ha hb w
  generalize doM op false a b = n at *
  have q0 : (((w.alloc (.cells #[.int .u64 a, .int .u64 0, .int .u64 a, .int .u64 a] 64)).alloc (.cells #[.int .u64 b, .int .u64 0, .int .u64 b, .int .u64 b] 64)).alloc (.cells #[.int .u64 0, .int .u64 0, .int .u64 0, .int .u64 0] 64)).heap[w.heap.size]? = some (.cells #[.int .u64 a, .int .u64 0, .int .u64 a, .int .u64 a] 64) := heap3_0 _ _ _ _
  have a0 := boxc (k := 0) (u := .int .u64 a) q0 rfl
  have a1 := boxc (k := 1) (u := .int .u64 0) q0 rfl
  have a2 := boxc (k := 2) (u := .int .u64 a) q0 rfl
  have a3 := boxc (k := 3) (u := .int .u64 a) q0 rfl
  clear q0
  have q1 : (((w.alloc (.cells #[.int .u64 a, .int .u64 0, .int .u64 a, .int .u64 a] 64)).alloc (.cells #[.int .u64 b, .int .u64 0, .int .u64 b, .int .u64 b] 64)).alloc (.cells #[.int .u64 0, .int .u64 0, .int .u64 0, .int .u64 0] 64)).heap[(w.heap.size + 1)]? = some (.cells #[.int .u64 b, .int .u64 0, .int .u64 b, .int .u64 b] 64) := heap3_1 _ _ _ _
  have b0 := boxc (k := 0) (u := .int .u64 b) q1 rfl
  have b1 := boxc (k := 1) (u := .int .u64 0) q1 rfl
  have b2 := boxc (k := 2) (u := .int .u64 b) q1 rfl
  have b3 := boxc (k := 3) (u := .int .u64 b) q1 rfl
  clear q1
  have q2 : (((w.alloc (.cells #[.int .u64 a, .int .u64 0, .int .u64 a, .int .u64 a] 64)).alloc (.cells #[.int .u64 b, .int .u64 0, .int .u64 b, .int .u64 b] 64)).alloc (.cells #[.int .u64 0, .int .u64 0, .int .u64 0, .int .u64 0] 64)).heap[(w.heap.size + 2)]? = some (.cells #[.int .u64 0, .int .u64 0, .int .u64 0, .int .u64 0] 64) := heap3_2 _ _ _ _
  have c0 := boxc (k := 0) (u := .int .u64 0) q2 rfl
  have c1 := boxc (k := 1) (u := .int .u64 0) q2 rfl
  have c2 := boxc (k := 2) (u := .int .u64 0) q2 rfl
  have c3 := boxc (k := 3) (u := .int .u64 0) q2 rfl
  have t2 := boxt q2
  clear q2
  have hW0 : Below w.heap.size w (((w.alloc (.cells #[.int .u64 a, .int .u64 0, .int .u64 a, .int .u64 a] 64)).alloc (.cells #[.int .u64 b, .int .u64 0, .int .u64 b, .int .u64 b] 64)).alloc (.cells #[.int .u64 0, .int .u64 0, .int .u64 0, .int .u64 0] 64)) := below_boxes3 _ _ _ _
  have hr := Below.refl (((w.alloc (.cells #[.int .u64 a, .int .u64 0, .int .u64 a, .int .u64 a] 64)).alloc (.cells #[.int .u64 b, .int .u64 0, .int .u64 b, .int .u64 b] 64)).alloc (.cells #[.int .u64 0, .int .u64 0, .int .u64 0, .int .u64 0] 64)).heap.size (((w.alloc (.cells #[.int .u64 a, .int .u64 0, .int .u64 a, .int .u64 a] 64)).alloc (.cells #[.int .u64 b, .int .u64 0, .int .u64 b, .int .u64 b] 64)).alloc (.cells #[.int .u64 0, .int .u64 0, .int .u64 0, .int .u64 0] 64))
  go_enter Tryz.func161, Tryz.ntmps161
  go_upto_region 1 with fail
  generalize ((w.alloc (.cells #[.int .u64 a, .int .u64 0, .int .u64 a, .int .u64 a] 64)).alloc (.cells #[.int .u64 b, .int .u64 0, .int .u64 b, .int .u64 b] 64)).alloc (.cells #[.int .u64 0, .int .u64 0, .int .u64 0, .int .u64 0] 64) = W at *
  go_wp2_with fail
  refine (hk1 _).mono ?_
  rintro e w1 ⟨rfl, hc1⟩
  have hb1 : Below W.heap.size W w1 := hc1
  clear hc1
  have B0 := b0 _ hb1
  have B1 := b1 _ hb1
  have B2 := b2 _ hb1
  have B3 := b3 _ hb1
  go_wp2_with fail
  refine (hk2 _).mono ?_
  rintro e w2 ⟨rfl, hc2⟩
  have hb2 := hb1.trans (hc2.mono hb1.size)
  clear hc2
  go_wp2_with fail
  refine (hd _).mono ?_
  rintro e w3 ⟨rfl, hc3⟩
  have hb3 := hb2.trans (hc3.mono hb2.size)
  clear hc3
  go_wp2_with fail
  refine (rof_any n _).mono ?_
  rintro e w4 ⟨rfl, hc4⟩
  have hb4 := hb3.trans (hc4.mono hb3.size)
  clear hc4
  have z0 := c0 _ hb4
  have z1 := c1 _ hb4
  have z2 := c2 _ hb4
  have z3 := c3 _ hb4
  go_wp2_with fail
  refine bodyPost_ret (v := .agg #[.int .u64 n, .int .u64 0, .int .u64 n, .int .u64 n]) (by simp [results, Tryz.results161, go_sem, *]) rfl ⟨rfl, ?_⟩
  (repeat (refine Below.setCell ?_ (by first | exact Nat.le_refl _ | exact Nat.le_succ _ | (simp; done) | (simp; omega)) _))
  exact hW0.trans (hb4.mono hW0.size)

set_option maxRecDepth 100000 in
theorem rtcut_k (n : Int) (hn : U64 n) (w : World) : Calls Tryz.prog 177 #[.agg #[.int .u64 n, .int .u64 0], .int .i64 32] w fun e w' => e = .returned (.agg #[.int .u64 (n % 4294967296), .int .u64 0]) ∧ Below w.heap.size w w' := by
  have n0 := hn.1
  have n1 := hn.2
  have hq := fun w => rtright_k n w
  have q0 : ((w.alloc (.cells #[.int .u64 n, .int .u64 0] 60)).alloc (.cells #[.int .u64 0, .int .u64 0] 60)).heap[w.heap.size]? = some (.cells #[.int .u64 n, .int .u64 0] 60) := heap2_0 _ _ _
  have a0 := boxc (k := 0) (u := .int .u64 n) q0 rfl
  have a1 := boxc (k := 1) (u := .int .u64 0) q0 rfl
  clear q0
  have q1 : ((w.alloc (.cells #[.int .u64 n, .int .u64 0] 60)).alloc (.cells #[.int .u64 0, .int .u64 0] 60)).heap[(w.heap.size + 1)]? = some (.cells #[.int .u64 0, .int .u64 0] 60) := heap2_1 _ _ _
  have b0 := boxc (k := 0) (u := .int .u64 0) q1 rfl
  have b1 := boxc (k := 1) (u := .int .u64 0) q1 rfl
  have t1 := boxt q1
  clear q1
  have hW0 : Below w.heap.size w ((w.alloc (.cells #[.int .u64 n, .int .u64 0] 60)).alloc (.cells #[.int .u64 0, .int .u64 0] 60)) := below_boxes2 _ _ _
  have hr := Below.refl ((w.alloc (.cells #[.int .u64 n, .int .u64 0] 60)).alloc (.cells #[.int .u64 0, .int .u64 0] 60)).heap.size ((w.alloc (.cells #[.int .u64 n, .int .u64 0] 60)).alloc (.cells #[.int .u64 0, .int .u64 0] 60))
  go_enter Tryz.func177, Tryz.ntmps177
  go_upto_region 1 with fail
  generalize (w.alloc (.cells #[.int .u64 n, .int .u64 0] 60)).alloc (.cells #[.int .u64 0, .int .u64 0] 60) = W at *
  go_wp2_with fail
  refine (hq _).mono ?_
  rintro e w1 ⟨rfl, hc1⟩
  have hb1 : Below W.heap.size W w1 := hc1
  clear hc1
  have A0 := a0 _ hb1
  have A1 := a1 _ hb1
  have z0 := b0 _ hb1
  have z1 := b1 _ hb1
  have T := fun k => t1 k _ hb1
  have hB := hW0.trans (hb1.mono hW0.size)
  go_upto_region 5 with fail
  go_region
  go_wp2_with fail
  refine bodyPost_ret (v := .agg #[.int .u64 (n % 4294967296), .int .u64 0]) (by simp [results, Tryz.results177, go_sem, *]) rfl ⟨rfl, ?_⟩
  (repeat (first | (with_reducible assumption) | (with_reducible refine below_drewN ?_ _) | (with_reducible refine sbelow_drew ?_) | (with_reducible refine Below.setCell ?_ (by first | exact Nat.le_refl _ | exact Nat.le_succ _ | (simp; done) | (simp; omega)) _)))

set_option maxRecDepth 100000 in
theorem rsettled_k (v lo hi : Int) (hv : U64 v) (h0 : lo ≤ v) (h1 : v ≤ hi) (w : World) : Calls Tryz.prog 145 #[.agg #[.int .u64 v, .int .u64 0], .agg #[.int .u64 lo, .int .u64 hi]] w fun e w' => e = .returned (.agg #[.int .u64 v, .int .u64 0, .int .u64 v, .int .u64 v]) ∧ Below w.heap.size w w' := by
  have hq := fun w => rsettle_k v lo hi hv h0 h1 w
  have q0 : (((w.alloc (.cells #[.int .u64 v, .int .u64 0] 60)).alloc (.cells #[.int .u64 lo, .int .u64 hi] 62)).alloc (.cells #[.int .u64 0, .int .u64 0, .int .u64 0, .int .u64 0] 64)).heap[w.heap.size]? = some (.cells #[.int .u64 v, .int .u64 0] 60) := heap3_0 _ _ _ _
  have a0 := boxc (k := 0) (u := .int .u64 v) q0 rfl
  have a1 := boxc (k := 1) (u := .int .u64 0) q0 rfl
  clear q0
  have q1 : (((w.alloc (.cells #[.int .u64 v, .int .u64 0] 60)).alloc (.cells #[.int .u64 lo, .int .u64 hi] 62)).alloc (.cells #[.int .u64 0, .int .u64 0, .int .u64 0, .int .u64 0] 64)).heap[(w.heap.size + 1)]? = some (.cells #[.int .u64 lo, .int .u64 hi] 62) := heap3_1 _ _ _ _
  have b0 := boxc (k := 0) (u := .int .u64 lo) q1 rfl
  have b1 := boxc (k := 1) (u := .int .u64 hi) q1 rfl
  clear q1
  have q2 : (((w.alloc (.cells #[.int .u64 v, .int .u64 0] 60)).alloc (.cells #[.int .u64 lo, .int .u64 hi] 62)).alloc (.cells #[.int .u64 0, .int .u64 0, .int .u64 0, .int .u64 0] 64)).heap[(w.heap.size + 2)]? = some (.cells #[.int .u64 0, .int .u64 0, .int .u64 0, .int .u64 0] 64) := heap3_2 _ _ _ _
  have c0 := boxc (k := 0) (u := .int .u64 0) q2 rfl
  have c1 := boxc (k := 1) (u := .int .u64 0) q2 rfl
  have c2 := boxc (k := 2) (u := .int .u64 0) q2 rfl
  have c3 := boxc (k := 3) (u := .int .u64 0) q2 rfl
  have t2 := boxt q2
  clear q2
  have hW0 : Below w.heap.size w (((w.alloc (.cells #[.int .u64 v, .int .u64 0] 60)).alloc (.cells #[.int .u64 lo, .int .u64 hi] 62)).alloc (.cells #[.int .u64 0, .int .u64 0, .int .u64 0, .int .u64 0] 64)) := below_boxes3 _ _ _ _
  have hr := Below.refl (((w.alloc (.cells #[.int .u64 v, .int .u64 0] 60)).alloc (.cells #[.int .u64 lo, .int .u64 hi] 62)).alloc (.cells #[.int .u64 0, .int .u64 0, .int .u64 0, .int .u64 0] 64)).heap.size (((w.alloc (.cells #[.int .u64 v, .int .u64 0] 60)).alloc (.cells #[.int .u64 lo, .int .u64 hi] 62)).alloc (.cells #[.int .u64 0, .int .u64 0, .int .u64 0, .int .u64 0] 64))
  go_enter Tryz.func145, Tryz.ntmps145
  go_upto_region 1 with fail
  generalize ((w.alloc (.cells #[.int .u64 v, .int .u64 0] 60)).alloc (.cells #[.int .u64 lo, .int .u64 hi] 62)).alloc (.cells #[.int .u64 0, .int .u64 0, .int .u64 0, .int .u64 0] 64) = W at *
  clear h0 h1
  go_wp2_with fail
  refine (hq _).mono ?_
  rintro e w1 ⟨rfl, hc1⟩
  have hb1 : Below W.heap.size W w1 := hc1
  clear hc1
  go_upto_region 2 with fail
  have hq0 : (w1.alloc (.cells #[.int .u64 v, .int .u64 0, .int .u64 v, .int .u64 v] 64)).heap[w1.heap.size]? = some (.cells #[.int .u64 v, .int .u64 0, .int .u64 v, .int .u64 v] 64) := heap1_0 _ _
  have y0 := boxc (k := 0) (u := .int .u64 v) hq0 rfl _ (Below.refl _ _)
  have y1 := boxc (k := 1) (u := .int .u64 0) hq0 rfl _ (Below.refl _ _)
  have y2 := boxc (k := 2) (u := .int .u64 v) hq0 rfl _ (Below.refl _ _)
  have y3 := boxc (k := 3) (u := .int .u64 v) hq0 rfl _ (Below.refl _ _)
  have hb2 := hb1.alloc hb1.size (.cells #[.int .u64 v, .int .u64 0, .int .u64 v, .int .u64 v] 64)
  generalize w1.alloc (.cells #[.int .u64 v, .int .u64 0, .int .u64 v, .int .u64 v] 64) = V at *
  clear hq0
  have z0 := c0 _ hb2
  have z1 := c1 _ hb2
  have z2 := c2 _ hb2
  have z3 := c3 _ hb2
  go_wp2_with fail
  refine bodyPost_ret (v := .agg #[.int .u64 v, .int .u64 0, .int .u64 v, .int .u64 v]) (by simp [results, Tryz.results145, go_sem, *]) rfl ⟨rfl, ?_⟩
  (repeat (refine Below.setCell ?_ (by first | exact Nat.le_refl _ | exact Nat.le_succ _ | (simp; done) | (simp; omega)) _))
  exact hW0.trans (hb2.mono hW0.size)

set_option maxRecDepth 100000 in
set_option maxHeartbeats 4000000 in
theorem rfcut_hi (n : Int) (hn : U64 n) (h : 4294967296 ≤ n) (w : World) : Calls Tryz.prog 162 #[.agg #[.int .u64 n, .int .u64 0, .int .u64 n, .int .u64 n]] w fun e w' => e = .returned (.agg #[.int .u64 (n % 4294967296), .int .u64 0, .int .u64 (n % 4294967296), .int .u64 (n % 4294967296)]) ∧ Below w.heap.size w w' := by
  have hm : U64 (n % 4294967296) := u64_mod32
  have n0 := hn.1
  have hq := fun w => rfright_k n hn w
  have ht := fun w => rtcut_k n hn w
  have hs := fun w => rsettled_k (n % 4294967296) 0 4294967295 hm (by omega) (by omega) w
  have q0 : ((w.alloc (.cells #[.int .u64 n, .int .u64 0, .int .u64 n, .int .u64 n] 64)).alloc (.cells #[.int .u64 0, .int .u64 0, .int .u64 0, .int .u64 0] 64)).heap[w.heap.size]? = some (.cells #[.int .u64 n, .int .u64 0, .int .u64 n, .int .u64 n] 64) := heap2_0 _ _ _
  have a0 := boxc (k := 0) (u := .int .u64 n) q0 rfl
  have a1 := boxc (k := 1) (u := .int .u64 0) q0 rfl
  have a2 := boxc (k := 2) (u := .int .u64 n) q0 rfl
  have a3 := boxc (k := 3) (u := .int .u64 n) q0 rfl
  clear q0
  have q1 : ((w.alloc (.cells #[.int .u64 n, .int .u64 0, .int .u64 n, .int .u64 n] 64)).alloc (.cells #[.int .u64 0, .int .u64 0, .int .u64 0, .int .u64 0] 64)).heap[(w.heap.size + 1)]? = some (.cells #[.int .u64 0, .int .u64 0, .int .u64 0, .int .u64 0] 64) := heap2_1 _ _ _
  have b0 := boxc (k := 0) (u := .int .u64 0) q1 rfl
  have b1 := boxc (k := 1) (u := .int .u64 0) q1 rfl
  have b2 := boxc (k := 2) (u := .int .u64 0) q1 rfl
  have b3 := boxc (k := 3) (u := .int .u64 0) q1 rfl
  have t1 := boxt q1
  clear q1
  have hW0 : Below w.heap.size w ((w.alloc (.cells #[.int .u64 n, .int .u64 0, .int .u64 n, .int .u64 n] 64)).alloc (.cells #[.int .u64 0, .int .u64 0, .int .u64 0, .int .u64 0] 64)) := below_boxes2 _ _ _
  have hr := Below.refl ((w.alloc (.cells #[.int .u64 n, .int .u64 0, .int .u64 n, .int .u64 n] 64)).alloc (.cells #[.int .u64 0, .int .u64 0, .int .u64 0, .int .u64 0] 64)).heap.size ((w.alloc (.cells #[.int .u64 n, .int .u64 0, .int .u64 n, .int .u64 n] 64)).alloc (.cells #[.int .u64 0, .int .u64 0, .int .u64 0, .int .u64 0] 64))
  have hWs : w.heap.size + 2 ≤ ((w.alloc (.cells #[.int .u64 n, .int .u64 0, .int .u64 n, .int .u64 n] 64)).alloc (.cells #[.int .u64 0, .int .u64 0, .int .u64 0, .int .u64 0] 64)).heap.size := by simp
  go_enter Tryz.func162, Tryz.ntmps162
  go_upto_region 1 with fail
  generalize (w.alloc (.cells #[.int .u64 n, .int .u64 0, .int .u64 n, .int .u64 n] 64)).alloc (.cells #[.int .u64 0, .int .u64 0, .int .u64 0, .int .u64 0] 64) = W at *
  go_wp2_with fail
  refine (hq _).mono ?_
  rintro e w1 ⟨rfl, hc1⟩
  have hb1 : Below W.heap.size W w1 := hc1
  clear hc1
  have A0 := a0 _ hb1
  have A1 := a1 _ hb1
  have A2 := a2 _ hb1
  have A3 := a3 _ hb1
  go_upto_region 6 with fail
  have qv : (w1.alloc (.cells #[.int .u64 0, .int .u64 4294967295] 62)).heap[w1.heap.size]? = some (.cells #[.int .u64 0, .int .u64 4294967295] 62) := heap1_0 _ _
  have d0 := boxc (k := 0) (u := .int .u64 0) qv rfl
  have d1 := boxc (k := 1) (u := .int .u64 4294967295) qv rfl
  clear qv
  have hbV := hb1.alloc hb1.size (.cells #[.int .u64 0, .int .u64 4294967295] 62)
  have hrV := Below.refl (w1.alloc (.cells #[.int .u64 0, .int .u64 4294967295] 62)).heap.size (w1.alloc (.cells #[.int .u64 0, .int .u64 4294967295] 62))
  have hVs : w1.heap.size < (w1.alloc (.cells #[.int .u64 0, .int .u64 4294967295] 62)).heap.size := by simp
  have hWs2 := hWs
  replace hWs : w.heap.size < W.heap.size := by omega
  generalize w1.alloc (.cells #[.int .u64 0, .int .u64 4294967295] 62) = V at *
  have hg0 : w.heap.size < V.heap.size := Nat.lt_of_lt_of_le hWs hbV.size
  have hgv : w.heap.size ≠ w.heap.size + 1 := by omega
  have hg1 : w1.heap.size < V.heap.size := hVs
  have hgw : w1.heap.size ≠ w.heap.size + 1 := by have := hb1.size; omega
  have K0 : ∀ w', KeepB (w.heap.size + 1) V w' → w'.cell? ⟨w.heap.size, 0, none⟩ = some (.int .u64 n) := fun w' h => keepB_cell h hg0 hgv (a0 _ hbV)
  have K1 : ∀ w', KeepB (w.heap.size + 1) V w' → w'.cell? ⟨w.heap.size, 1, none⟩ = some (.int .u64 0) := fun w' h => keepB_cell h hg0 hgv (a1 _ hbV)
  have K2 : ∀ w', KeepB (w.heap.size + 1) V w' → w'.cell? ⟨w.heap.size, 2, none⟩ = some (.int .u64 n) := fun w' h => keepB_cell h hg0 hgv (a2 _ hbV)
  have K3 : ∀ w', KeepB (w.heap.size + 1) V w' → w'.cell? ⟨w.heap.size, 3, none⟩ = some (.int .u64 n) := fun w' h => keepB_cell h hg0 hgv (a3 _ hbV)
  have M0 : ∀ w', KeepB (w.heap.size + 1) V w' → w'.cell? ⟨w1.heap.size, 0, none⟩ = some (.int .u64 0) := fun w' h => keepB_cell h hg1 hgw (d0 _ hrV)
  have M1 : ∀ w', KeepB (w.heap.size + 1) V w' → w'.cell? ⟨w1.heap.size, 1, none⟩ = some (.int .u64 4294967295) := fun w' h => keepB_cell h hg1 hgw (d1 _ hrV)
  replace b0 := fun w' (h : Below V.heap.size V w') => b0 w' (hbV.trans (h.mono hbV.size))
  replace b1 := fun w' (h : Below V.heap.size V w') => b1 w' (hbV.trans (h.mono hbV.size))
  replace b2 := fun w' (h : Below V.heap.size V w') => b2 w' (hbV.trans (h.mono hbV.size))
  replace b3 := fun w' (h : Below V.heap.size V w') => b3 w' (hbV.trans (h.mono hbV.size))
  replace t1 := fun k w' (h : Below V.heap.size V w') => t1 k w' (hbV.trans (h.mono hbV.size))
  clear A0 a0 A1 a1 A2 a2 A3 a3 d0 d1 hr
  have hkV : KeepB (w.heap.size + 1) V V := keepB_refl
  go_region_held3 (fun w' => KeepB (w.heap.size + 1) V w') (with_reducible repeat (first | assumption | refine keepB_drew ?_ | refine keepB_set ?_)) (first | (go_at_call 177; refine (ht _).mono ?_; rintro e w5 ⟨rfl, hb5⟩; have hS5 : KeepB (w.heap.size + 1) V w5 := keepB_step (by assumption) hb5; have hT5 : Below V.heap.size V w5 := below_step (by first | assumption | exact sbelow_drew (by assumption)) (Nat.le_refl _) hb5) | (go_at_call 145; refine (hs _).mono ?_; rintro e w6 ⟨rfl, hb6⟩; have hS6 : KeepB (w.heap.size + 1) V w6 := keepB_step (by assumption) hb6; have hT6 : Below V.heap.size V w6 := below_step (by first | assumption | exact sbelow_drew (by assumption)) (Nat.le_refl _) hb6))
  all_goals
    have hB := hW0.trans ((hbV.trans (hT6.mono hbV.size)).mono hW0.size)
    go_wp2_with fail
    refine bodyPost_ret (v := .agg #[.int .u64 (n % 4294967296), .int .u64 0, .int .u64 (n % 4294967296), .int .u64 (n % 4294967296)]) (by simp [results, Tryz.results162, go_sem, *]) rfl ⟨rfl, ?_⟩
    (repeat (first | (with_reducible assumption) | (with_reducible refine below_drewN ?_ _) | (with_reducible refine sbelow_drew ?_) | (with_reducible refine Below.setCell ?_ (by first | exact Nat.le_refl _ | exact Nat.le_succ _ | (simp; done) | (simp; omega)) _)))

set_option maxRecDepth 100000 in
set_option maxHeartbeats 4000000 in
theorem rfcut_lo (n : Int) (hn : U64 n) (h : n < 4294967296) (w : World) : Calls Tryz.prog 162 #[.agg #[.int .u64 n, .int .u64 0, .int .u64 n, .int .u64 n]] w fun e w' => e = .returned (.agg #[.int .u64 (n % 4294967296), .int .u64 0, .int .u64 (n % 4294967296), .int .u64 (n % 4294967296)]) ∧ Below w.heap.size w w' := by
  have hm : U64 (n % 4294967296) := u64_mod32
  have n0 := hn.1
  have hq := fun w => rfright_k n hn w
  have ht := fun w => rtcut_k n hn w
  have hs := fun w => rsettled_k (n % 4294967296) n n hm (by omega) (by omega) w
  have q0 : ((w.alloc (.cells #[.int .u64 n, .int .u64 0, .int .u64 n, .int .u64 n] 64)).alloc (.cells #[.int .u64 0, .int .u64 0, .int .u64 0, .int .u64 0] 64)).heap[w.heap.size]? = some (.cells #[.int .u64 n, .int .u64 0, .int .u64 n, .int .u64 n] 64) := heap2_0 _ _ _
  have a0 := boxc (k := 0) (u := .int .u64 n) q0 rfl
  have a1 := boxc (k := 1) (u := .int .u64 0) q0 rfl
  have a2 := boxc (k := 2) (u := .int .u64 n) q0 rfl
  have a3 := boxc (k := 3) (u := .int .u64 n) q0 rfl
  clear q0
  have q1 : ((w.alloc (.cells #[.int .u64 n, .int .u64 0, .int .u64 n, .int .u64 n] 64)).alloc (.cells #[.int .u64 0, .int .u64 0, .int .u64 0, .int .u64 0] 64)).heap[(w.heap.size + 1)]? = some (.cells #[.int .u64 0, .int .u64 0, .int .u64 0, .int .u64 0] 64) := heap2_1 _ _ _
  have b0 := boxc (k := 0) (u := .int .u64 0) q1 rfl
  have b1 := boxc (k := 1) (u := .int .u64 0) q1 rfl
  have b2 := boxc (k := 2) (u := .int .u64 0) q1 rfl
  have b3 := boxc (k := 3) (u := .int .u64 0) q1 rfl
  have t1 := boxt q1
  clear q1
  have hW0 : Below w.heap.size w ((w.alloc (.cells #[.int .u64 n, .int .u64 0, .int .u64 n, .int .u64 n] 64)).alloc (.cells #[.int .u64 0, .int .u64 0, .int .u64 0, .int .u64 0] 64)) := below_boxes2 _ _ _
  have hr := Below.refl ((w.alloc (.cells #[.int .u64 n, .int .u64 0, .int .u64 n, .int .u64 n] 64)).alloc (.cells #[.int .u64 0, .int .u64 0, .int .u64 0, .int .u64 0] 64)).heap.size ((w.alloc (.cells #[.int .u64 n, .int .u64 0, .int .u64 n, .int .u64 n] 64)).alloc (.cells #[.int .u64 0, .int .u64 0, .int .u64 0, .int .u64 0] 64))
  have hWs : w.heap.size + 2 ≤ ((w.alloc (.cells #[.int .u64 n, .int .u64 0, .int .u64 n, .int .u64 n] 64)).alloc (.cells #[.int .u64 0, .int .u64 0, .int .u64 0, .int .u64 0] 64)).heap.size := by simp
  go_enter Tryz.func162, Tryz.ntmps162
  go_upto_region 1 with fail
  generalize (w.alloc (.cells #[.int .u64 n, .int .u64 0, .int .u64 n, .int .u64 n] 64)).alloc (.cells #[.int .u64 0, .int .u64 0, .int .u64 0, .int .u64 0] 64) = W at *
  go_wp2_with fail
  refine (hq _).mono ?_
  rintro e w1 ⟨rfl, hc1⟩
  have hb1 : Below W.heap.size W w1 := hc1
  clear hc1
  have A0 := a0 _ hb1
  have A1 := a1 _ hb1
  have A2 := a2 _ hb1
  have A3 := a3 _ hb1
  go_upto_region 6 with fail
  have qv : (w1.alloc (.cells #[.int .u64 n, .int .u64 n] 62)).heap[w1.heap.size]? = some (.cells #[.int .u64 n, .int .u64 n] 62) := heap1_0 _ _
  have d0 := boxc (k := 0) (u := .int .u64 n) qv rfl
  have d1 := boxc (k := 1) (u := .int .u64 n) qv rfl
  clear qv
  have hbV := hb1.alloc hb1.size (.cells #[.int .u64 n, .int .u64 n] 62)
  have hrV := Below.refl (w1.alloc (.cells #[.int .u64 n, .int .u64 n] 62)).heap.size (w1.alloc (.cells #[.int .u64 n, .int .u64 n] 62))
  have hVs : w1.heap.size < (w1.alloc (.cells #[.int .u64 n, .int .u64 n] 62)).heap.size := by simp
  have hWs2 := hWs
  replace hWs : w.heap.size < W.heap.size := by omega
  generalize w1.alloc (.cells #[.int .u64 n, .int .u64 n] 62) = V at *
  have hg0 : w.heap.size < V.heap.size := Nat.lt_of_lt_of_le hWs hbV.size
  have hgv : w.heap.size ≠ w.heap.size + 1 := by omega
  have hg1 : w1.heap.size < V.heap.size := hVs
  have hgw : w1.heap.size ≠ w.heap.size + 1 := by have := hb1.size; omega
  have K0 : ∀ w', KeepB (w.heap.size + 1) V w' → w'.cell? ⟨w.heap.size, 0, none⟩ = some (.int .u64 n) := fun w' h => keepB_cell h hg0 hgv (a0 _ hbV)
  have K1 : ∀ w', KeepB (w.heap.size + 1) V w' → w'.cell? ⟨w.heap.size, 1, none⟩ = some (.int .u64 0) := fun w' h => keepB_cell h hg0 hgv (a1 _ hbV)
  have K2 : ∀ w', KeepB (w.heap.size + 1) V w' → w'.cell? ⟨w.heap.size, 2, none⟩ = some (.int .u64 n) := fun w' h => keepB_cell h hg0 hgv (a2 _ hbV)
  have K3 : ∀ w', KeepB (w.heap.size + 1) V w' → w'.cell? ⟨w.heap.size, 3, none⟩ = some (.int .u64 n) := fun w' h => keepB_cell h hg0 hgv (a3 _ hbV)
  have M0 : ∀ w', KeepB (w.heap.size + 1) V w' → w'.cell? ⟨w1.heap.size, 0, none⟩ = some (.int .u64 n) := fun w' h => keepB_cell h hg1 hgw (d0 _ hrV)
  have M1 : ∀ w', KeepB (w.heap.size + 1) V w' → w'.cell? ⟨w1.heap.size, 1, none⟩ = some (.int .u64 n) := fun w' h => keepB_cell h hg1 hgw (d1 _ hrV)
  replace b0 := fun w' (h : Below V.heap.size V w') => b0 w' (hbV.trans (h.mono hbV.size))
  replace b1 := fun w' (h : Below V.heap.size V w') => b1 w' (hbV.trans (h.mono hbV.size))
  replace b2 := fun w' (h : Below V.heap.size V w') => b2 w' (hbV.trans (h.mono hbV.size))
  replace b3 := fun w' (h : Below V.heap.size V w') => b3 w' (hbV.trans (h.mono hbV.size))
  replace t1 := fun k w' (h : Below V.heap.size V w') => t1 k w' (hbV.trans (h.mono hbV.size))
  clear A0 a0 A1 a1 A2 a2 A3 a3 d0 d1 hr
  have hkV : KeepB (w.heap.size + 1) V V := keepB_refl
  go_region_held3 (fun w' => KeepB (w.heap.size + 1) V w') (with_reducible repeat (first | assumption | refine keepB_drew ?_ | refine keepB_set ?_)) (first | (go_at_call 177; refine (ht _).mono ?_; rintro e w5 ⟨rfl, hb5⟩; have hS5 : KeepB (w.heap.size + 1) V w5 := keepB_step (by assumption) hb5; have hT5 : Below V.heap.size V w5 := below_step (by first | assumption | exact sbelow_drew (by assumption)) (Nat.le_refl _) hb5) | (go_at_call 145; refine (hs _).mono ?_; rintro e w6 ⟨rfl, hb6⟩; have hS6 : KeepB (w.heap.size + 1) V w6 := keepB_step (by assumption) hb6; have hT6 : Below V.heap.size V w6 := below_step (by first | assumption | exact sbelow_drew (by assumption)) (Nat.le_refl _) hb6))
  all_goals
    have hB := hW0.trans ((hbV.trans (hT6.mono hbV.size)).mono hW0.size)
    go_wp2_with fail
    refine bodyPost_ret (v := .agg #[.int .u64 (n % 4294967296), .int .u64 0, .int .u64 (n % 4294967296), .int .u64 (n % 4294967296)]) (by simp [results, Tryz.results162, go_sem, *]) rfl ⟨rfl, ?_⟩
    (repeat (first | (with_reducible assumption) | (with_reducible refine below_drewN ?_ _) | (with_reducible refine sbelow_drew ?_) | (with_reducible refine Below.setCell ?_ (by first | exact Nat.le_refl _ | exact Nat.le_succ _ | (simp; done) | (simp; omega)) _)))

theorem rfcut_k (n : Int) (hn : U64 n) (w : World) : Calls Tryz.prog 162 #[.agg #[.int .u64 n, .int .u64 0, .int .u64 n, .int .u64 n]] w fun e w' => e = .returned (.agg #[.int .u64 (n % 4294967296), .int .u64 0, .int .u64 (n % 4294967296), .int .u64 (n % 4294967296)]) ∧ Below w.heap.size w w' := by
  rcases Int.lt_or_le n 4294967296 with h | h
  · exact rfcut_lo n hn h w
  · exact rfcut_hi n hn h w

end
section
set_option maxRecDepth 100000 in
set_option maxHeartbeats 4000000 in
theorem rfdo_true (op : Int) (ho : OpOk op) (a b : Int) (ha : U64 a) (hb : U64 b) (w : World) : Calls Tryz.prog 132 #[.int .u8 op, .bool true, .int .i16 0, .agg #[.int .u64 a, .int .u64 0, .int .u64 a, .int .u64 a], .agg #[.int .u64 b, .int .u64 0, .int .u64 b, .int .u64 b]] w fun e w' => e = .returned (.tuple #[.agg #[.int .u64 (doM op true a b), .int .u64 0, .int .u64 (doM op true a b), .int .u64 (doM op true a b)], .int .i64 0]) ∧ Below w.heap.size w w' := by
  have ha1 := fun w => rfright_k a ha w
  have hb1_ := fun w => rfright_k b hb w
  have hd0 := fun w => rdo_any op ho true 0 0 u64_z u64_z w
  generalize doM op true 0 0 = z0_ at *
  have hw := fun w => rwide_true op ho a b ha hb w
  generalize doM op true a b = n at *
  have q0 : (((w.alloc (.cells #[.int .u64 a, .int .u64 0, .int .u64 a, .int .u64 a] 64)).alloc (.cells #[.int .u64 b, .int .u64 0, .int .u64 b, .int .u64 b] 64)).alloc (.cells #[.int .u64 0, .int .u64 0, .int .u64 0, .int .u64 0] 64)).heap[w.heap.size]? = some (.cells #[.int .u64 a, .int .u64 0, .int .u64 a, .int .u64 a] 64) := heap3_0 _ _ _ _
  have a0 := boxc (k := 0) (u := .int .u64 a) q0 rfl
  have a1 := boxc (k := 1) (u := .int .u64 0) q0 rfl
  have a2 := boxc (k := 2) (u := .int .u64 a) q0 rfl
  have a3 := boxc (k := 3) (u := .int .u64 a) q0 rfl
  clear q0
  have q1 : (((w.alloc (.cells #[.int .u64 a, .int .u64 0, .int .u64 a, .int .u64 a] 64)).alloc (.cells #[.int .u64 b, .int .u64 0, .int .u64 b, .int .u64 b] 64)).alloc (.cells #[.int .u64 0, .int .u64 0, .int .u64 0, .int .u64 0] 64)).heap[(w.heap.size + 1)]? = some (.cells #[.int .u64 b, .int .u64 0, .int .u64 b, .int .u64 b] 64) := heap3_1 _ _ _ _
  have b0 := boxc (k := 0) (u := .int .u64 b) q1 rfl
  have b1 := boxc (k := 1) (u := .int .u64 0) q1 rfl
  have b2 := boxc (k := 2) (u := .int .u64 b) q1 rfl
  have b3 := boxc (k := 3) (u := .int .u64 b) q1 rfl
  clear q1
  have q2 : (((w.alloc (.cells #[.int .u64 a, .int .u64 0, .int .u64 a, .int .u64 a] 64)).alloc (.cells #[.int .u64 b, .int .u64 0, .int .u64 b, .int .u64 b] 64)).alloc (.cells #[.int .u64 0, .int .u64 0, .int .u64 0, .int .u64 0] 64)).heap[(w.heap.size + 2)]? = some (.cells #[.int .u64 0, .int .u64 0, .int .u64 0, .int .u64 0] 64) := heap3_2 _ _ _ _
  have c0 := boxc (k := 0) (u := .int .u64 0) q2 rfl
  have c1 := boxc (k := 1) (u := .int .u64 0) q2 rfl
  have c2 := boxc (k := 2) (u := .int .u64 0) q2 rfl
  have c3 := boxc (k := 3) (u := .int .u64 0) q2 rfl
  have t2 := boxt q2
  clear q2
  have hW0 : Below w.heap.size w (((w.alloc (.cells #[.int .u64 a, .int .u64 0, .int .u64 a, .int .u64 a] 64)).alloc (.cells #[.int .u64 b, .int .u64 0, .int .u64 b, .int .u64 b] 64)).alloc (.cells #[.int .u64 0, .int .u64 0, .int .u64 0, .int .u64 0] 64)) := below_boxes3 _ _ _ _
  have hr := Below.refl (((w.alloc (.cells #[.int .u64 a, .int .u64 0, .int .u64 a, .int .u64 a] 64)).alloc (.cells #[.int .u64 b, .int .u64 0, .int .u64 b, .int .u64 b] 64)).alloc (.cells #[.int .u64 0, .int .u64 0, .int .u64 0, .int .u64 0] 64)).heap.size (((w.alloc (.cells #[.int .u64 a, .int .u64 0, .int .u64 a, .int .u64 a] 64)).alloc (.cells #[.int .u64 b, .int .u64 0, .int .u64 b, .int .u64 b] 64)).alloc (.cells #[.int .u64 0, .int .u64 0, .int .u64 0, .int .u64 0] 64))
  have hWs : w.heap.size + 3 ≤ (((w.alloc (.cells #[.int .u64 a, .int .u64 0, .int .u64 a, .int .u64 a] 64)).alloc (.cells #[.int .u64 b, .int .u64 0, .int .u64 b, .int .u64 b] 64)).alloc (.cells #[.int .u64 0, .int .u64 0, .int .u64 0, .int .u64 0] 64)).heap.size := by simp
  go_enter Tryz.func132, Tryz.ntmps132
  go_upto_region 1 with fail
  generalize ((w.alloc (.cells #[.int .u64 a, .int .u64 0, .int .u64 a, .int .u64 a] 64)).alloc (.cells #[.int .u64 b, .int .u64 0, .int .u64 b, .int .u64 b] 64)).alloc (.cells #[.int .u64 0, .int .u64 0, .int .u64 0, .int .u64 0] 64) = W at *
  go_wp2_with fail
  refine (hd0 _).mono ?_
  rintro e w1 ⟨rfl, hc1⟩
  have hb1 : Below W.heap.size W w1 := hc1
  clear hc1
  have A0 := a0 _ hb1
  have A1 := a1 _ hb1
  have A2 := a2 _ hb1
  have A3 := a3 _ hb1
  go_wp2_with fail
  refine (ha1 _).mono ?_
  rintro e w2 ⟨rfl, hc2⟩
  have hb2 := hb1.trans (hc2.mono hb1.size)
  clear hc2
  have B0 := b0 _ hb2
  have B1 := b1 _ hb2
  have B2 := b2 _ hb2
  have B3 := b3 _ hb2
  go_wp2_with fail
  refine (hb1_ _).mono ?_
  rintro e w3 ⟨rfl, hc3⟩
  have hb3 := hb2.trans (hc3.mono hb2.size)
  clear hc3
  have C0 := a0 _ hb3
  have C1 := a1 _ hb3
  have C2 := a2 _ hb3
  have C3 := a3 _ hb3
  have D0 := b0 _ hb3
  have D1 := b1 _ hb3
  have D2 := b2 _ hb3
  have D3 := b3 _ hb3
  go_wp2_with fail
  refine (hw _).mono ?_
  rintro e w4 ⟨rfl, hc4⟩
  have hb4 := hb3.trans (hc4.mono hb3.size)
  clear hc4
  have z0 := c0 _ hb4
  have z1 := c1 _ hb4
  have z2 := c2 _ hb4
  have z3 := c3 _ hb4
  go_wp2_with fail
  refine bodyPost_ret (v := .tuple #[.agg #[.int .u64 n, .int .u64 0, .int .u64 n, .int .u64 n], .int .i64 0]) (by simp [results, Tryz.results132, go_sem, *]) rfl ⟨rfl, ?_⟩
  (repeat (refine Below.setCell ?_ (by first | exact Nat.le_refl _ | exact Nat.le_succ _ | (simp; done) | (simp; omega)) _))
  exact hW0.trans (hb4.mono hW0.size)

set_option maxRecDepth 100000 in
set_option maxHeartbeats 4000000 in
theorem rfdo_false (op : Int) (ho : OpOk op) (a b : Int) (ha : U64 a) (hb : U64 b) (w : World) : Calls Tryz.prog 132 #[.int .u8 op, .bool false, .int .i16 0, .agg #[.int .u64 a, .int .u64 0, .int .u64 a, .int .u64 a], .agg #[.int .u64 b, .int .u64 0, .int .u64 b, .int .u64 b]] w fun e w' => e = .returned (.tuple #[.agg #[.int .u64 (doM op false a b), .int .u64 0, .int .u64 (doM op false a b), .int .u64 (doM op false a b)], .int .i64 0]) ∧ Below w.heap.size w w' := by
  have ha1 := fun w => rfright_k a ha w
  have hb1_ := fun w => rfright_k b hb w
  have hd0 := fun w => rdo_any op ho false 0 0 u64_z u64_z w
  generalize doM op false 0 0 = z0_ at *
  have hw := fun w => rwide_false op ho (a % 4294967296) (b % 4294967296) u64_mod32 u64_mod32 w
  have hn : U64 (doM op false (a % 4294967296) (b % 4294967296)) := u64_do ho u64_mod32 u64_mod32
  rw [← do_cut ho a b ha hb]
  generalize doM op false (a % 4294967296) (b % 4294967296) = n at *
  have q0 : (((w.alloc (.cells #[.int .u64 a, .int .u64 0, .int .u64 a, .int .u64 a] 64)).alloc (.cells #[.int .u64 b, .int .u64 0, .int .u64 b, .int .u64 b] 64)).alloc (.cells #[.int .u64 0, .int .u64 0, .int .u64 0, .int .u64 0] 64)).heap[w.heap.size]? = some (.cells #[.int .u64 a, .int .u64 0, .int .u64 a, .int .u64 a] 64) := heap3_0 _ _ _ _
  have a0 := boxc (k := 0) (u := .int .u64 a) q0 rfl
  have a1 := boxc (k := 1) (u := .int .u64 0) q0 rfl
  have a2 := boxc (k := 2) (u := .int .u64 a) q0 rfl
  have a3 := boxc (k := 3) (u := .int .u64 a) q0 rfl
  clear q0
  have q1 : (((w.alloc (.cells #[.int .u64 a, .int .u64 0, .int .u64 a, .int .u64 a] 64)).alloc (.cells #[.int .u64 b, .int .u64 0, .int .u64 b, .int .u64 b] 64)).alloc (.cells #[.int .u64 0, .int .u64 0, .int .u64 0, .int .u64 0] 64)).heap[(w.heap.size + 1)]? = some (.cells #[.int .u64 b, .int .u64 0, .int .u64 b, .int .u64 b] 64) := heap3_1 _ _ _ _
  have b0 := boxc (k := 0) (u := .int .u64 b) q1 rfl
  have b1 := boxc (k := 1) (u := .int .u64 0) q1 rfl
  have b2 := boxc (k := 2) (u := .int .u64 b) q1 rfl
  have b3 := boxc (k := 3) (u := .int .u64 b) q1 rfl
  clear q1
  have q2 : (((w.alloc (.cells #[.int .u64 a, .int .u64 0, .int .u64 a, .int .u64 a] 64)).alloc (.cells #[.int .u64 b, .int .u64 0, .int .u64 b, .int .u64 b] 64)).alloc (.cells #[.int .u64 0, .int .u64 0, .int .u64 0, .int .u64 0] 64)).heap[(w.heap.size + 2)]? = some (.cells #[.int .u64 0, .int .u64 0, .int .u64 0, .int .u64 0] 64) := heap3_2 _ _ _ _
  have c0 := boxc (k := 0) (u := .int .u64 0) q2 rfl
  have c1 := boxc (k := 1) (u := .int .u64 0) q2 rfl
  have c2 := boxc (k := 2) (u := .int .u64 0) q2 rfl
  have c3 := boxc (k := 3) (u := .int .u64 0) q2 rfl
  have t2 := boxt q2
  clear q2
  have hW0 : Below w.heap.size w (((w.alloc (.cells #[.int .u64 a, .int .u64 0, .int .u64 a, .int .u64 a] 64)).alloc (.cells #[.int .u64 b, .int .u64 0, .int .u64 b, .int .u64 b] 64)).alloc (.cells #[.int .u64 0, .int .u64 0, .int .u64 0, .int .u64 0] 64)) := below_boxes3 _ _ _ _
  have hr := Below.refl (((w.alloc (.cells #[.int .u64 a, .int .u64 0, .int .u64 a, .int .u64 a] 64)).alloc (.cells #[.int .u64 b, .int .u64 0, .int .u64 b, .int .u64 b] 64)).alloc (.cells #[.int .u64 0, .int .u64 0, .int .u64 0, .int .u64 0] 64)).heap.size (((w.alloc (.cells #[.int .u64 a, .int .u64 0, .int .u64 a, .int .u64 a] 64)).alloc (.cells #[.int .u64 b, .int .u64 0, .int .u64 b, .int .u64 b] 64)).alloc (.cells #[.int .u64 0, .int .u64 0, .int .u64 0, .int .u64 0] 64))
  have hWs : w.heap.size + 3 ≤ (((w.alloc (.cells #[.int .u64 a, .int .u64 0, .int .u64 a, .int .u64 a] 64)).alloc (.cells #[.int .u64 b, .int .u64 0, .int .u64 b, .int .u64 b] 64)).alloc (.cells #[.int .u64 0, .int .u64 0, .int .u64 0, .int .u64 0] 64)).heap.size := by simp
  go_enter Tryz.func132, Tryz.ntmps132
  go_upto_region 1 with fail
  generalize ((w.alloc (.cells #[.int .u64 a, .int .u64 0, .int .u64 a, .int .u64 a] 64)).alloc (.cells #[.int .u64 b, .int .u64 0, .int .u64 b, .int .u64 b] 64)).alloc (.cells #[.int .u64 0, .int .u64 0, .int .u64 0, .int .u64 0] 64) = W at *
  go_wp2_with fail
  refine (hd0 _).mono ?_
  rintro e w1 ⟨rfl, hc1⟩
  have hb1 : Below W.heap.size W w1 := hc1
  clear hc1
  have A0 := a0 _ hb1
  have A1 := a1 _ hb1
  have A2 := a2 _ hb1
  have A3 := a3 _ hb1
  go_wp2_with fail
  refine (ha1 _).mono ?_
  rintro e w2 ⟨rfl, hc2⟩
  have hb2 := hb1.trans (hc2.mono hb1.size)
  clear hc2
  have B0 := b0 _ hb2
  have B1 := b1 _ hb2
  have B2 := b2 _ hb2
  have B3 := b3 _ hb2
  go_wp2_with fail
  refine (hb1_ _).mono ?_
  rintro e w3 ⟨rfl, hc3⟩
  have hb3 := hb2.trans (hc3.mono hb2.size)
  clear hc3
  clear A0 B0 A1 B1 A2 B2 A3 B3
  go_upto_region 6 with fail
  generalize w3 = V at *
  have hrV := Below.refl V.heap.size V
  have hg0 : w.heap.size < V.heap.size := by have := hb3.size; omega
  have hg1 : w.heap.size + 1 < V.heap.size := by have := hb3.size; omega
  have hn0 : w.heap.size ≠ w.heap.size + 2 := by omega
  have hn1 : w.heap.size + 1 ≠ w.heap.size + 2 := by omega
  have K0 : ∀ w', KeepB (w.heap.size + 2) V w' → w'.cell? ⟨w.heap.size, 0, none⟩ = some (.int .u64 a) := fun w' h => keepB_cell h hg0 hn0 (a0 _ hb3)
  have K1 : ∀ w', KeepB (w.heap.size + 2) V w' → w'.cell? ⟨w.heap.size, 1, none⟩ = some (.int .u64 0) := fun w' h => keepB_cell h hg0 hn0 (a1 _ hb3)
  have K2 : ∀ w', KeepB (w.heap.size + 2) V w' → w'.cell? ⟨w.heap.size, 2, none⟩ = some (.int .u64 a) := fun w' h => keepB_cell h hg0 hn0 (a2 _ hb3)
  have K3 : ∀ w', KeepB (w.heap.size + 2) V w' → w'.cell? ⟨w.heap.size, 3, none⟩ = some (.int .u64 a) := fun w' h => keepB_cell h hg0 hn0 (a3 _ hb3)
  have M0 : ∀ w', KeepB (w.heap.size + 2) V w' → w'.cell? ⟨w.heap.size + 1, 0, none⟩ = some (.int .u64 b) := fun w' h => keepB_cell h hg1 hn1 (b0 _ hb3)
  have M1 : ∀ w', KeepB (w.heap.size + 2) V w' → w'.cell? ⟨w.heap.size + 1, 1, none⟩ = some (.int .u64 0) := fun w' h => keepB_cell h hg1 hn1 (b1 _ hb3)
  have M2 : ∀ w', KeepB (w.heap.size + 2) V w' → w'.cell? ⟨w.heap.size + 1, 2, none⟩ = some (.int .u64 b) := fun w' h => keepB_cell h hg1 hn1 (b2 _ hb3)
  have M3 : ∀ w', KeepB (w.heap.size + 2) V w' → w'.cell? ⟨w.heap.size + 1, 3, none⟩ = some (.int .u64 b) := fun w' h => keepB_cell h hg1 hn1 (b3 _ hb3)
  replace c0 := fun w' (h : Below V.heap.size V w') => c0 w' (hb3.trans (h.mono hb3.size))
  replace c1 := fun w' (h : Below V.heap.size V w') => c1 w' (hb3.trans (h.mono hb3.size))
  replace c2 := fun w' (h : Below V.heap.size V w') => c2 w' (hb3.trans (h.mono hb3.size))
  replace c3 := fun w' (h : Below V.heap.size V w') => c3 w' (hb3.trans (h.mono hb3.size))
  replace t2 := fun k w' (h : Below V.heap.size V w') => t2 k w' (hb3.trans (h.mono hb3.size))
  clear a0 b0 a1 b1 a2 b2 a3 b3 hr ha1 hb1_ hd0
  have hkV : KeepB (w.heap.size + 2) V V := keepB_refl
  go_region_held3 (fun w' => KeepB (w.heap.size + 2) V w') (with_reducible repeat (first | assumption | refine keepB_drew ?_ | refine keepB_set ?_)) (first | (go_at_call 162; refine (rfcut_k _ (by assumption) _).mono ?_; rintro e w5 ⟨rfl, hb5⟩; have hS5 : KeepB (w.heap.size + 2) V w5 := keepB_step (by assumption) hb5; have hT5 : Below V.heap.size V w5 := below_step (by first | assumption | exact sbelow_drew (by assumption)) (Nat.le_refl _) hb5) | (go_at_call 161; refine (hw _).mono ?_; rintro e w6 ⟨rfl, hb6⟩; have hS6 : KeepB (w.heap.size + 2) V w6 := keepB_step (by assumption) hb6; have hT6 : Below V.heap.size V w6 := below_step (by first | assumption | exact sbelow_drew (by assumption)) (Nat.le_refl _) hb6))
  all_goals
    have hB := hW0.trans ((hb3.trans (hT5.mono hb3.size)).mono hW0.size)
    go_wp2_with fail
    refine bodyPost_ret (v := .tuple #[.agg #[.int .u64 (n % 4294967296), .int .u64 0, .int .u64 (n % 4294967296), .int .u64 (n % 4294967296)], .int .i64 0]) (by simp [results, Tryz.results132, go_sem, *]) rfl ⟨rfl, ?_⟩
    (repeat (first | (with_reducible assumption) | (with_reducible refine below_drewN ?_ _) | (with_reducible refine sbelow_drew ?_) | (with_reducible refine Below.setCell ?_ (by first | exact Nat.le_refl _ | exact Nat.le_succ _ | (simp; done) | (simp; omega)) _)))

theorem rfdo_any (op : Int) (ho : OpOk op) (wide : Bool) (a b : Int) (ha : U64 a) (hb : U64 b) (w : World) : Calls Tryz.prog 132 #[.int .u8 op, .bool wide, .int .i16 0, .agg #[.int .u64 a, .int .u64 0, .int .u64 a, .int .u64 a], .agg #[.int .u64 b, .int .u64 0, .int .u64 b, .int .u64 b]] w fun e w' => e = .returned (.tuple #[.agg #[.int .u64 (doM op wide a b), .int .u64 0, .int .u64 (doM op wide a b), .int .u64 (doM op wide a b)], .int .i64 0]) ∧ Below w.heap.size w w' := by
  cases wide
  · exact rfdo_false op ho a b ha hb w
  · exact rfdo_true op ho a b ha hb w

end
section
/-- The cells of a walk's instruction, of such arithmetic, with a state. -/
def KL (l : List Insn) (Ad : Option Addr) (c j : Nat) (x0 : Int) (d : Nat) (im op : Int) (wd : Bool) (rs : List RV) : List Value := [.slice Ad l.length c, .slice none 0 0, .int .i64 0, .int .i64 j, .int .u8 x0, .int .u8 d, .int .u8 0, .int .i16 0, .int .i32 im, .int .u8 1, .int .u8 op, .bool wd, .bool false, .bool false, .int .i64 0] ++ stV rs
theorem KL_len {l : List Insn} {Ad : Option Addr} {c j : Nat} {x0 : Int} {d : Nat} {im op : Int} {wd : Bool} {rs : List RV} (h : rs.length = 11) : (KL l Ad c j x0 d im op wd rs).length = 604 := by rw [KL, List.length_append, stV_len h]; rfl
theorem KL_reg {l : List Insn} {Ad : Option Addr} {c j : Nat} {x0 : Int} {d : Nat} {im op : Int} {wd : Bool} {rs : List RV} (h : rs.length = 11) (hd : d < 11) {i : Nat} (hi : i < 7) : (KL l Ad c j x0 d im op wd rs)[15 + d * 7 + i]? = (rs.getD d .no).cells[i]? := by
  rw [KL, List.getElem?_append_right (by simp; omega), ← stV_reg h hd hi]
  congr 1
  simp; omega

theorem rimm_any (x0 x1 x2 x3 im : Int) (h0 : -2147483648 ≤ im) (h1 : im ≤ 2147483647) (w : World) : Calls Tryz.prog 160 #[.agg #[.int .u8 x0, .int .u8 x1, .int .u8 x2, .int .i16 x3, .int .i32 im]] w fun e w' => e = .returned (.int .u64 (immU im)) ∧ Below w.heap.size w w' := by
  have hq := fun w => rsign32_any (im % 4294967296) ⟨by omega, by omega⟩ w
  have hw : IntKind.u32.wrap im = im % 4294967296 := by simp [IntKind.wrap, IntKind.bits, IntKind.signed]
  have HI := Lib.hid (show sign32 (im % 4294967296) = immU im from rfl)
  rw [HI.out] at hq
  have hw2 : IntKind.u64.wrap (im % 4294967296) = im % 4294967296 := by rw [IntKind.wrap_u64]; omega
  generalize immU im = r at *
  clear HI
  go_enter Tryz.func160, Tryz.ntmps160
  go_wp2_with fail
  refine (hq _).mono ?_
  rintro e w1 ⟨rfl, rfl⟩
  go_wp2_with fail
  go_ret
  exact ⟨rfl, (Below.refl _ _).alloc (Nat.le_refl _) _⟩

attribute [local go_sem ↓] ldFrom_589 ldFrom_604 mkS89_eq mkW94_eq mkW108_eq
theorem rdst14V (l : List Insn) (Ad : Option Addr) (c j : Nat) (x0 : Int) (d : Nat) (hd : d < 11) (im : Int) (hi0 : -2147483648 ≤ im) (hi1 : im ≤ 2147483647) (op : Int) (wd : Bool) (rs : List RV) (hrs : StOk rs) (w : World) : Calls Tryz.prog 127 #[.agg (KL l Ad c j x0 d im op wd rs).toArray] w fun e w' => e = .returned (.agg (rs.getD d .no).cells.toArray) ∧ Below w.heap.size w w' := by
  have hr := fun (i : Nat) (hi : i < 7) => KL_reg (l := l) (Ad := Ad) (c := c) (j := j) (x0 := x0) (d := d) (im := im) (op := op) (wd := wd) hrs.len hd hi
  have h5 : (KL l Ad c j x0 d im op wd rs)[5]? = some (.int .u8 d) := rfl
  have hl := KL_len (l := l) (Ad := Ad) (c := c) (j := j) (x0 := x0) (d := d) (im := im) (op := op) (wd := wd) hrs.len
  generalize rs.getD d .no = v at *
  cases v
  case no => exact rdst14G _ hl d hd h5 0 0 0 0 0 0 0 (hr 0 (by omega)) (hr 1 (by omega)) (hr 2 (by omega)) (hr 3 (by omega)) (hr 4 (by omega)) (hr 5 (by omega)) (hr 6 (by omega)) w
  case ctx => exact rdst14G _ hl d hd h5 2 0 0 0 0 0 0 (hr 0 (by omega)) (hr 1 (by omega)) (hr 2 (by omega)) (hr 3 (by omega)) (hr 4 (by omega)) (hr 5 (by omega)) (hr 6 (by omega)) w
  case stk => exact rdst14G _ hl d hd h5 3 0 0 0 0 0 512 (hr 0 (by omega)) (hr 1 (by omega)) (hr 2 (by omega)) (hr 3 (by omega)) (hr 4 (by omega)) (hr 5 (by omega)) (hr 6 (by omega)) w
  case num n => exact rdst14G _ hl d hd h5 1 n 0 n n 0 0 (hr 0 (by omega)) (hr 1 (by omega)) (hr 2 (by omega)) (hr 3 (by omega)) (hr 4 (by omega)) (hr 5 (by omega)) (hr 6 (by omega)) w

set_option maxRecDepth 100000 in
set_option maxHeartbeats 4000000 in
theorem rsecond14V (l : List Insn) (Ad : Option Addr) (c j : Nat) (x0 : Int) (d : Nat) (hd : d < 11) (im : Int) (hi0 : -2147483648 ≤ im) (hi1 : im ≤ 2147483647) (op : Int) (wd : Bool) (rs : List RV) (hrs : StOk rs)  (w : World) : Calls Tryz.prog 128 #[.agg (KL l Ad c j x0 d im op wd rs).toArray] w fun e w' => e = .returned (.agg #[.int .u8 1, .int .u64 (immU im), .int .u64 0, .int .u64 (immU im), .int .u64 (immU im), .int .i64 0, .int .i64 0]) ∧ Below w.heap.size w w' := by
  have hKn := KL_len (l := l) (Ad := Ad) (c := c) (j := j) (x0 := x0) (d := d) (im := im) (op := op) (wd := wd) hrs.len
  have him := fun w => rimm_any x0 d 0 0 im hi0 hi1 w
  have hkn := fun w => rknown14 (immU im) (immU_u64 im) w
  generalize immU im = r at *
  generalize hK : KL l Ad c j x0 d im op wd rs = K at *
  have q0 : ((w.alloc (.cells K.toArray 158)).alloc (.cells #[.int .u8 0, .int .u64 0, .int .u64 0, .int .u64 0, .int .u64 0, .int .i64 0, .int .i64 0] 66)).heap[w.heap.size]? = some (.cells K.toArray 158) := heap2_0 _ _ _
  have k4 := boxc (k := 4) (u := .int .u8 x0) q0 (by rw [← hK]; rfl)
  have k5 := boxc (k := 5) (u := .int .u8 d) q0 (by rw [← hK]; rfl)
  have k6 := boxc (k := 6) (u := .int .u8 0) q0 (by rw [← hK]; rfl)
  have k7 := boxc (k := 7) (u := .int .i16 0) q0 (by rw [← hK]; rfl)
  have k8 := boxc (k := 8) (u := .int .i32 im) q0 (by rw [← hK]; rfl)
  have k12 := boxc (k := 12) (u := .bool false) q0 (by rw [← hK]; rfl)
  have hRK : ∀ w', Below ((w.alloc (.cells K.toArray 158)).alloc (.cells #[.int .u8 0, .int .u64 0, .int .u64 0, .int .u64 0, .int .u64 0, .int .i64 0, .int .i64 0] 66)).heap.size ((w.alloc (.cells K.toArray 158)).alloc (.cells #[.int .u8 0, .int .u64 0, .int .u64 0, .int .u64 0, .int .u64 0, .int .i64 0, .int .i64 0] 66)) w' → w'.rangeAt w.heap.size 0 K := fun w' h k u hu => by rw [Nat.zero_add]; exact boxc q0 (by simpa using hu) w' h
  clear q0
  have q1 : ((w.alloc (.cells K.toArray 158)).alloc (.cells #[.int .u8 0, .int .u64 0, .int .u64 0, .int .u64 0, .int .u64 0, .int .i64 0, .int .i64 0] 66)).heap[(w.heap.size + 1)]? = some (.cells #[.int .u8 0, .int .u64 0, .int .u64 0, .int .u64 0, .int .u64 0, .int .i64 0, .int .i64 0] 66) := heap2_1 _ _ _
  have b0 := boxc (k := 0) (u := .int .u8 0) q1 rfl
  have b1 := boxc (k := 1) (u := .int .u64 0) q1 rfl
  have b2 := boxc (k := 2) (u := .int .u64 0) q1 rfl
  have b3 := boxc (k := 3) (u := .int .u64 0) q1 rfl
  have b4 := boxc (k := 4) (u := .int .u64 0) q1 rfl
  have b5 := boxc (k := 5) (u := .int .i64 0) q1 rfl
  have b6 := boxc (k := 6) (u := .int .i64 0) q1 rfl
  have t1 := boxt q1
  clear q1
  have hW0 : Below w.heap.size w ((w.alloc (.cells K.toArray 158)).alloc (.cells #[.int .u8 0, .int .u64 0, .int .u64 0, .int .u64 0, .int .u64 0, .int .i64 0, .int .i64 0] 66)) := below_boxes2 _ _ _
  have hrf := Below.refl ((w.alloc (.cells K.toArray 158)).alloc (.cells #[.int .u8 0, .int .u64 0, .int .u64 0, .int .u64 0, .int .u64 0, .int .i64 0, .int .i64 0] 66)).heap.size ((w.alloc (.cells K.toArray 158)).alloc (.cells #[.int .u8 0, .int .u64 0, .int .u64 0, .int .u64 0, .int .u64 0, .int .i64 0, .int .i64 0] 66))
  clear hK
  go_enter Tryz.func128, Tryz.ntmps128
  go_upto_region 1 with fail
  generalize (w.alloc (.cells K.toArray 158)).alloc (.cells #[.int .u8 0, .int .u64 0, .int .u64 0, .int .u64 0, .int .u64 0, .int .i64 0, .int .i64 0] 66) = W at *
  have hlK : ∀ w', Below W.heap.size W w' → (ldRow ⟨w.heap.size, 0, none⟩ 604).run Tryz.prog w' = .ok K.toArray w' := fun w' h => run_ldRow (hRK w' h) hKn
  clear hRK
  go_wp2_with fail
  refine (him _).mono ?_
  rintro e w1 ⟨rfl, hc1⟩
  have hb1 : Below W.heap.size W w1 := hc1
  clear hc1
  go_wp2_with fail
  refine (hkn _).mono ?_
  rintro e w2 ⟨rfl, hc2⟩
  have hb2 := hb1.trans (hc2.mono hb1.size)
  clear hc2
  have z0 := b0 _ hb2
  have z1 := b1 _ hb2
  have z2 := b2 _ hb2
  have z3 := b3 _ hb2
  have z4 := b4 _ hb2
  have z5 := b5 _ hb2
  have z6 := b6 _ hb2
  go_wp2_with fail
  refine bodyPost_ret (v := .agg #[.int .u8 1, .int .u64 r, .int .u64 0, .int .u64 r, .int .u64 r, .int .i64 0, .int .i64 0]) (by simp [results, Tryz.results128, go_sem, *]) rfl ⟨rfl, ?_⟩
  (repeat (refine Below.setCell ?_ (by first | exact Nat.le_refl _ | exact Nat.le_succ _ | (simp; done) | (simp; omega)) _))
  exact hW0.trans (hb2.mono hW0.size)

set_option maxRecDepth 100000 in
set_option maxHeartbeats 4000000 in
theorem runset14_mov (l : List Insn) (Ad : Option Addr) (c j : Nat) (x0 : Int) (d : Nat) (hd : d < 11) (im : Int) (hi0 : -2147483648 ≤ im) (hi1 : im ≤ 2147483647) (op : Int) (wd : Bool) (rs : List RV) (hrs : StOk rs) (h : op = 176) (w : World) : Calls Tryz.prog 98 #[.agg (KL l Ad c j x0 d im op wd rs).toArray] w fun e w' => e = .returned (.bool false) ∧ Below w.heap.size w w' := by
  have hKn := KL_len (l := l) (Ad := Ad) (c := c) (j := j) (x0 := x0) (d := d) (im := im) (op := op) (wd := wd) hrs.len
  have hdst := fun w => rdst14V l Ad c j x0 d hd im hi0 hi1 op wd rs hrs w
  have hsec := fun w => rsecond14V l Ad c j x0 d hd im hi0 hi1 op wd rs hrs w
  generalize immU im = r at *
  have hfl := field41_0
  have hq : (op != 176) = false := by simp [h]
  clear h
  generalize hK : KL l Ad c j x0 d im op wd rs = K at *
  have q0 : (w.alloc (.cells K.toArray 158)).heap[w.heap.size]? = some (.cells K.toArray 158) := heap1_0 _ _
  have k0 := boxc (k := 0) (u := .slice Ad l.length c) q0 (by rw [← hK]; rfl)
  have k1 := boxc (k := 1) (u := .slice none 0 0) q0 (by rw [← hK]; rfl)
  have k2 := boxc (k := 2) (u := .int .i64 0) q0 (by rw [← hK]; rfl)
  have k3 := boxc (k := 3) (u := .int .i64 j) q0 (by rw [← hK]; rfl)
  have k4 := boxc (k := 4) (u := .int .u8 x0) q0 (by rw [← hK]; rfl)
  have k5 := boxc (k := 5) (u := .int .u8 d) q0 (by rw [← hK]; rfl)
  have k6 := boxc (k := 6) (u := .int .u8 0) q0 (by rw [← hK]; rfl)
  have k7 := boxc (k := 7) (u := .int .i16 0) q0 (by rw [← hK]; rfl)
  have k8 := boxc (k := 8) (u := .int .i32 im) q0 (by rw [← hK]; rfl)
  have k9 := boxc (k := 9) (u := .int .u8 1) q0 (by rw [← hK]; rfl)
  have k10 := boxc (k := 10) (u := .int .u8 op) q0 (by rw [← hK]; rfl)
  have k11 := boxc (k := 11) (u := .bool wd) q0 (by rw [← hK]; rfl)
  have k12 := boxc (k := 12) (u := .bool false) q0 (by rw [← hK]; rfl)
  have k13 := boxc (k := 13) (u := .bool false) q0 (by rw [← hK]; rfl)
  have k14 := boxc (k := 14) (u := .int .i64 0) q0 (by rw [← hK]; rfl)
  have hRK : ∀ w', Below (w.alloc (.cells K.toArray 158)).heap.size (w.alloc (.cells K.toArray 158)) w' → w'.rangeAt w.heap.size 0 K := fun w' h k u hu => by rw [Nat.zero_add]; exact boxc q0 (by simpa using hu) w' h
  clear q0
  have hW0 : Below w.heap.size w (w.alloc (.cells K.toArray 158)) := below_boxes1 _ _
  have hrf := Below.refl (w.alloc (.cells K.toArray 158)).heap.size (w.alloc (.cells K.toArray 158))
  clear hK
  go_enter Tryz.func98, Tryz.ntmps98
  go_upto_region 1 with fail
  generalize w.alloc (.cells K.toArray 158) = W at *
  have hlK : ∀ w', Below W.heap.size W w' → (ldRow ⟨w.heap.size, 0, none⟩ 604).run Tryz.prog w' = .ok K.toArray w' := fun w' h => run_ldRow (hRK w' h) hKn
  clear hRK
  have HL := hlK _ hrf
  go_wp2_with fail
  refine (hsec _).mono ?_
  rintro e w1 ⟨rfl, hc1⟩
  have hb1 : Below W.heap.size W w1 := hc1
  clear hc1
  go_wp2_with fail
  go_ret
  exact ⟨rfl, hW0.trans (hb1.mono hW0.size)⟩

set_option maxRecDepth 100000 in
set_option maxHeartbeats 4000000 in
theorem runset14_num (l : List Insn) (Ad : Option Addr) (c j : Nat) (x0 : Int) (d : Nat) (hd : d < 11) (im : Int) (hi0 : -2147483648 ≤ im) (hi1 : im ≤ 2147483647) (op : Int) (wd : Bool) (rs : List RV) (hrs : StOk rs) (h : ¬ op = 176) (a : Int) (ha : rs.getD d .no = .num a) (w : World) : Calls Tryz.prog 98 #[.agg (KL l Ad c j x0 d im op wd rs).toArray] w fun e w' => e = .returned (.bool false) ∧ Below w.heap.size w w' := by
  have hKn := KL_len (l := l) (Ad := Ad) (c := c) (j := j) (x0 := x0) (d := d) (im := im) (op := op) (wd := wd) hrs.len
  have hdst := fun w => rdst14V l Ad c j x0 d hd im hi0 hi1 op wd rs hrs w
  have hsec := fun w => rsecond14V l Ad c j x0 d hd im hi0 hi1 op wd rs hrs w
  generalize immU im = r at *
  have hfl := field41_0
  have hq : (op != 176) = true := by simp [h]
  clear h
  rw [ha] at hdst
  simp only [RV.cells, NumL] at hdst
  clear ha
  generalize hK : KL l Ad c j x0 d im op wd rs = K at *
  have q0 : (w.alloc (.cells K.toArray 158)).heap[w.heap.size]? = some (.cells K.toArray 158) := heap1_0 _ _
  have k0 := boxc (k := 0) (u := .slice Ad l.length c) q0 (by rw [← hK]; rfl)
  have k1 := boxc (k := 1) (u := .slice none 0 0) q0 (by rw [← hK]; rfl)
  have k2 := boxc (k := 2) (u := .int .i64 0) q0 (by rw [← hK]; rfl)
  have k3 := boxc (k := 3) (u := .int .i64 j) q0 (by rw [← hK]; rfl)
  have k4 := boxc (k := 4) (u := .int .u8 x0) q0 (by rw [← hK]; rfl)
  have k5 := boxc (k := 5) (u := .int .u8 d) q0 (by rw [← hK]; rfl)
  have k6 := boxc (k := 6) (u := .int .u8 0) q0 (by rw [← hK]; rfl)
  have k7 := boxc (k := 7) (u := .int .i16 0) q0 (by rw [← hK]; rfl)
  have k8 := boxc (k := 8) (u := .int .i32 im) q0 (by rw [← hK]; rfl)
  have k9 := boxc (k := 9) (u := .int .u8 1) q0 (by rw [← hK]; rfl)
  have k10 := boxc (k := 10) (u := .int .u8 op) q0 (by rw [← hK]; rfl)
  have k11 := boxc (k := 11) (u := .bool wd) q0 (by rw [← hK]; rfl)
  have k12 := boxc (k := 12) (u := .bool false) q0 (by rw [← hK]; rfl)
  have k13 := boxc (k := 13) (u := .bool false) q0 (by rw [← hK]; rfl)
  have k14 := boxc (k := 14) (u := .int .i64 0) q0 (by rw [← hK]; rfl)
  have hRK : ∀ w', Below (w.alloc (.cells K.toArray 158)).heap.size (w.alloc (.cells K.toArray 158)) w' → w'.rangeAt w.heap.size 0 K := fun w' h k u hu => by rw [Nat.zero_add]; exact boxc q0 (by simpa using hu) w' h
  clear q0
  have hW0 : Below w.heap.size w (w.alloc (.cells K.toArray 158)) := below_boxes1 _ _
  have hrf := Below.refl (w.alloc (.cells K.toArray 158)).heap.size (w.alloc (.cells K.toArray 158))
  clear hK
  go_enter Tryz.func98, Tryz.ntmps98
  go_upto_region 1 with fail
  generalize w.alloc (.cells K.toArray 158) = W at *
  have hlK : ∀ w', Below W.heap.size W w' → (ldRow ⟨w.heap.size, 0, none⟩ 604).run Tryz.prog w' = .ok K.toArray w' := fun w' h => run_ldRow (hRK w' h) hKn
  clear hRK
  have HL := hlK _ hrf
  go_wp2_with fail
  refine (hdst _).mono ?_
  rintro e w1 ⟨rfl, hc1⟩
  have hb1 : Below W.heap.size W w1 := hc1
  clear hc1
  have HL1 := hlK _ hb1
  go_wp2_with fail
  refine (hsec _).mono ?_
  rintro e w2 ⟨rfl, hc2⟩
  have hb2 := hb1.trans (hc2.mono hb1.size)
  clear hc2
  go_wp2_with fail
  go_ret
  exact ⟨rfl, hW0.trans (hb2.mono hW0.size)⟩


end
end Go.Proofs.YtncogaikiceidaaGreat
