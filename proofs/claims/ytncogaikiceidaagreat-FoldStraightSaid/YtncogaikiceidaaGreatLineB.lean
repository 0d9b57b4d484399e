/- A step of plain arithmetic. No statement is proved here. -/
import Derived.Test.YtncogaikiceidaaGreatLineA
namespace Go.Proofs.YtncogaikiceidaaGreat
open Go.RowKit
set_option linter.unusedSimpArgs false
set_option linter.unusedVariables false
set_option linter.unnecessarySimpa false
section
attribute [local go_sem ↓] ldFrom_589 ldFrom_604 mkS89_eq mkW94_eq mkW108_eq
set_option maxRecDepth 100000 in
set_option maxHeartbeats 4000000 in
theorem rarith14_movnum (l : List Insn) (Ad : Option Addr) (c j : Nat) (x0 : Int) (d : Nat) (hd : d < 11) (im : Int) (hi0 : -2147483648 ≤ im) (hi1 : im ≤ 2147483647) (op : Int) (wd : Bool) (rs : List RV) (hrs : StOk rs) (h : op = 176) (hw : wd = true) (a : Int) (ha : rs.getD d .no = .num a) (w : World) : Calls Tryz.prog 100 #[.agg (KL l Ad c j x0 d im op wd rs).toArray] w fun e w' => e = .returned (.tuple #[.agg #[.int .u8 1, .int .u64 (immU im), .int .u64 0, .int .u64 (immU im), .int .u64 (immU im), .int .i64 0, .int .i64 0], .int .i64 0]) ∧ Below w.heap.size w w' := by
  subst h hw
  have hKn := KL_len (l := l) (Ad := Ad) (c := c) (j := j) (x0 := x0) (d := d) (im := im) (op := 176) (wd := true) hrs.len
  have hdst := fun w => rdst14V l Ad c j x0 d hd im hi0 hi1 176 true rs hrs w
  have hsec := fun w => rsecond14V l Ad c j x0 d hd im hi0 hi1 176 true rs hrs w
  generalize immU im = r at *
  have hfl := field41_0
  rw [ha] at hdst
  simp only [RV.cells, NumL] at hdst
  clear ha
  generalize hK : KL l Ad c j x0 d im 176 true rs = K at *
  have q0 : ((w.alloc (.cells K.toArray 158)).alloc (.cells #[.int .u8 0, .int .u64 0, .int .u64 0, .int .u64 0, .int .u64 0, .int .i64 0, .int .i64 0] 66)).heap[w.heap.size]? = some (.cells K.toArray 158) := heap2_0 _ _ _
  have k7 := boxc (k := 7) (u := .int .i16 0) q0 (by rw [← hK]; rfl)
  have k8 := boxc (k := 8) (u := .int .i32 im) q0 (by rw [← hK]; rfl)
  have k9 := boxc (k := 9) (u := .int .u8 1) q0 (by rw [← hK]; rfl)
  have k10 := boxc (k := 10) (u := .int .u8 176) q0 (by rw [← hK]; rfl)
  have k11 := boxc (k := 11) (u := .bool true) q0 (by rw [← hK]; rfl)
  have hRK : ∀ w', Below ((w.alloc (.cells K.toArray 158)).alloc (.cells #[.int .u8 0, .int .u64 0, .int .u64 0, .int .u64 0, .int .u64 0, .int .i64 0, .int .i64 0] 66)).heap.size ((w.alloc (.cells K.toArray 158)).alloc (.cells #[.int .u8 0, .int .u64 0, .int .u64 0, .int .u64 0, .int .u64 0, .int .i64 0, .int .i64 0] 66)) w' → w'.rangeAt w.heap.size 0 K := fun w' h k u hu => by rw [Nat.zero_add]; exact boxc q0 (by simpa using hu) w' h
  clear q0
  have q1 : ((w.alloc (.cells K.toArray 158)).alloc (.cells #[.int .u8 0, .int .u64 0, .int .u64 0, .int .u64 0, .int .u64 0, .int .i64 0, .int .i64 0] 66)).heap[(w.heap.size + 1)]? = some (.cells #[.int .u8 0, .int .u64 0, .int .u64 0, .int .u64 0, .int .u64 0, .int .i64 0, .int .i64 0] 66) := heap2_1 _ _ _
  have b0 := boxc (k := 0) (u := .int .u8 0) q1 rfl
  have b1 := boxc (k := 1) (u := .int .u64 0) q1 rfl
  have b2 := boxc (k := 2) (u := .int .u64 0) q1 rfl
  have b3 := boxc (k := 3) (u := .int .u64 0) q1 rfl
  have b4 := boxc (k := 4) (u := .int .u64 0) q1 rfl
  have b5 := boxc (k := 5) (u := .int .i64 0) q1 rfl
  have b6 := boxc (k := 6) (u := .int .i64 0) q1 rfl
  have t1 := boxt q1
  clear q1
  have hW0 : Below w.heap.size w ((w.alloc (.cells K.toArray 158)).alloc (.cells #[.int .u8 0, .int .u64 0, .int .u64 0, .int .u64 0, .int .u64 0, .int .i64 0, .int .i64 0] 66)) := below_boxes2 _ _ _
  have hrf := Below.refl ((w.alloc (.cells K.toArray 158)).alloc (.cells #[.int .u8 0, .int .u64 0, .int .u64 0, .int .u64 0, .int .u64 0, .int .i64 0, .int .i64 0] 66)).heap.size ((w.alloc (.cells K.toArray 158)).alloc (.cells #[.int .u8 0, .int .u64 0, .int .u64 0, .int .u64 0, .int .u64 0, .int .i64 0, .int .i64 0] 66))
  clear hK
  go_enter Tryz.func100, Tryz.ntmps100
  go_upto_region 1 with fail
  generalize (w.alloc (.cells K.toArray 158)).alloc (.cells #[.int .u8 0, .int .u64 0, .int .u64 0, .int .u64 0, .int .u64 0, .int .i64 0, .int .i64 0] 66) = W at *
  have hlK : ∀ w', Below W.heap.size W w' → (ldRow ⟨w.heap.size, 0, none⟩ 604).run Tryz.prog w' = .ok K.toArray w' := fun w' h => run_ldRow (hRK w' h) hKn
  clear hRK
  have HL := hlK _ hrf
  go_wp2_with fail
  refine (hdst _).mono ?_
  rintro e w1 ⟨rfl, hc1⟩
  have hb1 : Below W.heap.size W w1 := hc1
  clear hc1
  go_upto_region 2 with fail
  have q_p : (w1.alloc (.cells #[.int .u8 1, .int .u64 a, .int .u64 0, .int .u64 a, .int .u64 a, .int .i64 0, .int .i64 0] 66)).heap[w1.heap.size]? = some (.cells #[.int .u8 1, .int .u64 a, .int .u64 0, .int .u64 a, .int .u64 a, .int .i64 0, .int .i64 0] 66) := heap1_0 _ _
  have p0 := boxc (k := 0) (u := .int .u8 1) q_p rfl
  have p1 := boxc (k := 1) (u := .int .u64 a) q_p rfl
  have p2 := boxc (k := 2) (u := .int .u64 0) q_p rfl
  have p3 := boxc (k := 3) (u := .int .u64 a) q_p rfl
  have p4 := boxc (k := 4) (u := .int .u64 a) q_p rfl
  have p5 := boxc (k := 5) (u := .int .i64 0) q_p rfl
  have p6 := boxc (k := 6) (u := .int .i64 0) q_p rfl
  have pt := boxt q_p
  clear q_p
  have hb2 : Below W.heap.size W (w1.alloc (.cells #[.int .u8 1, .int .u64 a, .int .u64 0, .int .u64 a, .int .u64 a, .int .i64 0, .int .i64 0] 66)) := hb1.alloc hb1.size _
  have hp_ : Below w1.heap.size w1 (w1.alloc (.cells #[.int .u8 1, .int .u64 a, .int .u64 0, .int .u64 a, .int .u64 a, .int .i64 0, .int .i64 0] 66)) := (Below.refl _ _).alloc (Nat.le_refl _) _
  have hlp : w1.heap.size < (w1.alloc (.cells #[.int .u8 1, .int .u64 a, .int .u64 0, .int .u64 a, .int .u64 a, .int .i64 0, .int .i64 0] 66)).heap.size := by simp
  have hrp := Below.refl (w1.alloc (.cells #[.int .u8 1, .int .u64 a, .int .u64 0, .int .u64 a, .int .u64 a, .int .i64 0, .int .i64 0] 66)).heap.size (w1.alloc (.cells #[.int .u8 1, .int .u64 a, .int .u64 0, .int .u64 a, .int .u64 a, .int .i64 0, .int .i64 0] 66))
  generalize w1.alloc (.cells #[.int .u8 1, .int .u64 a, .int .u64 0, .int .u64 a, .int .u64 a, .int .i64 0, .int .i64 0] 66) = U at *
  have HL2 := hlK _ hb2
  clear HL
  go_wp2_with fail
  refine (hsec _).mono ?_
  rintro e w3 ⟨rfl, hc3⟩
  have hb3 := hb2.trans (hc3.mono hb2.size)
  have hU3 : Below U.heap.size U w3 := hc3
  clear hc3
  go_upto_region 3 with fail
  have q_y : (w3.alloc (.cells #[.int .u8 1, .int .u64 r, .int .u64 0, .int .u64 r, .int .u64 r, .int .i64 0, .int .i64 0] 66)).heap[w3.heap.size]? = some (.cells #[.int .u8 1, .int .u64 r, .int .u64 0, .int .u64 r, .int .u64 r, .int .i64 0, .int .i64 0] 66) := heap1_0 _ _
  have y0 := boxc (k := 0) (u := .int .u8 1) q_y rfl
  have y1 := boxc (k := 1) (u := .int .u64 r) q_y rfl
  have y2 := boxc (k := 2) (u := .int .u64 0) q_y rfl
  have y3 := boxc (k := 3) (u := .int .u64 r) q_y rfl
  have y4 := boxc (k := 4) (u := .int .u64 r) q_y rfl
  have y5 := boxc (k := 5) (u := .int .i64 0) q_y rfl
  have y6 := boxc (k := 6) (u := .int .i64 0) q_y rfl
  have yt := boxt q_y
  clear q_y
  have hb4 : Below W.heap.size W (w3.alloc (.cells #[.int .u8 1, .int .u64 r, .int .u64 0, .int .u64 r, .int .u64 r, .int .i64 0, .int .i64 0] 66)) := hb3.alloc hb3.size _
  have hy_ : Below w3.heap.size w3 (w3.alloc (.cells #[.int .u8 1, .int .u64 r, .int .u64 0, .int .u64 r, .int .u64 r, .int .i64 0, .int .i64 0] 66)) := (Below.refl _ _).alloc (Nat.le_refl _) _
  have hly : w3.heap.size < (w3.alloc (.cells #[.int .u8 1, .int .u64 r, .int .u64 0, .int .u64 r, .int .u64 r, .int .i64 0, .int .i64 0] 66)).heap.size := by simp
  have hry := Below.refl (w3.alloc (.cells #[.int .u8 1, .int .u64 r, .int .u64 0, .int .u64 r, .int .u64 r, .int .i64 0, .int .i64 0] 66)).heap.size (w3.alloc (.cells #[.int .u8 1, .int .u64 r, .int .u64 0, .int .u64 r, .int .u64 r, .int .i64 0, .int .i64 0] 66))
  generalize w3.alloc (.cells #[.int .u8 1, .int .u64 r, .int .u64 0, .int .u64 r, .int .u64 r, .int .i64 0, .int .i64 0] 66) = R at *
  have hU4 : Below U.heap.size U R := hU3.trans (hy_.mono hU3.size)
  clear HL2
  have Y0 := y0 _ hry
  have Y1 := y1 _ hry
  have Y2 := y2 _ hry
  have Y3 := y3 _ hry
  have Y4 := y4 _ hry
  have Y5 := y5 _ hry
  have Y6 := y6 _ hry
  have z0 := b0 _ hb4
  have z1 := b1 _ hb4
  have z2 := b2 _ hb4
  have z3 := b3 _ hb4
  have z4 := b4 _ hb4
  have z5 := b5 _ hb4
  have z6 := b6 _ hb4
  go_wp2_with fail
  refine bodyPost_ret (v := .tuple #[.agg #[.int .u8 1, .int .u64 r, .int .u64 0, .int .u64 r, .int .u64 r, .int .i64 0, .int .i64 0], .int .i64 0]) (by simp [results, Tryz.results100, go_sem, *]) rfl ⟨rfl, ?_⟩
  (repeat (refine Below.setCell ?_ (by first | exact Nat.le_refl _ | exact Nat.le_succ _ | (simp; done) | (simp; omega)) _))
  exact hW0.trans (hb4.mono hW0.size)

set_option maxRecDepth 100000 in
set_option maxHeartbeats 4000000 in
theorem rarith14_movno (l : List Insn) (Ad : Option Addr) (c j : Nat) (x0 : Int) (d : Nat) (hd : d < 11) (im : Int) (hi0 : -2147483648 ≤ im) (hi1 : im ≤ 2147483647) (op : Int) (wd : Bool) (rs : List RV) (hrs : StOk rs) (h : op = 176) (hw : wd = true) (ha : rs.getD d .no = .no) (w : World) : Calls Tryz.prog 100 #[.agg (KL l Ad c j x0 d im op wd rs).toArray] w fun e w' => e = .returned (.tuple #[.agg #[.int .u8 1, .int .u64 (immU im), .int .u64 0, .int .u64 (immU im), .int .u64 (immU im), .int .i64 0, .int .i64 0], .int .i64 0]) ∧ Below w.heap.size w w' := by
  subst h hw
  have hKn := KL_len (l := l) (Ad := Ad) (c := c) (j := j) (x0 := x0) (d := d) (im := im) (op := 176) (wd := true) hrs.len
  have hdst := fun w => rdst14V l Ad c j x0 d hd im hi0 hi1 176 true rs hrs w
  have hsec := fun w => rsecond14V l Ad c j x0 d hd im hi0 hi1 176 true rs hrs w
  generalize immU im = r at *
  have hfl := field41_0
  rw [ha] at hdst
  simp only [RV.cells, Z7L] at hdst
  clear ha
  generalize hK : KL l Ad c j x0 d im 176 true rs = K at *
  have q0 : ((w.alloc (.cells K.toArray 158)).alloc (.cells #[.int .u8 0, .int .u64 0, .int .u64 0, .int .u64 0, .int .u64 0, .int .i64 0, .int .i64 0] 66)).heap[w.heap.size]? = some (.cells K.toArray 158) := heap2_0 _ _ _
  have k7 := boxc (k := 7) (u := .int .i16 0) q0 (by rw [← hK]; rfl)
  have k8 := boxc (k := 8) (u := .int .i32 im) q0 (by rw [← hK]; rfl)
  have k9 := boxc (k := 9) (u := .int .u8 1) q0 (by rw [← hK]; rfl)
  have k10 := boxc (k := 10) (u := .int .u8 176) q0 (by rw [← hK]; rfl)
  have k11 := boxc (k := 11) (u := .bool true) q0 (by rw [← hK]; rfl)
  have hRK : ∀ w', Below ((w.alloc (.cells K.toArray 158)).alloc (.cells #[.int .u8 0, .int .u64 0, .int .u64 0, .int .u64 0, .int .u64 0, .int .i64 0, .int .i64 0] 66)).heap.size ((w.alloc (.cells K.toArray 158)).alloc (.cells #[.int .u8 0, .int .u64 0, .int .u64 0, .int .u64 0, .int .u64 0, .int .i64 0, .int .i64 0] 66)) w' → w'.rangeAt w.heap.size 0 K := fun w' h k u hu => by rw [Nat.zero_add]; exact boxc q0 (by simpa using hu) w' h
  clear q0
  have q1 : ((w.alloc (.cells K.toArray 158)).alloc (.cells #[.int .u8 0, .int .u64 0, .int .u64 0, .int .u64 0, .int .u64 0, .int .i64 0, .int .i64 0] 66)).heap[(w.heap.size + 1)]? = some (.cells #[.int .u8 0, .int .u64 0, .int .u64 0, .int .u64 0, .int .u64 0, .int .i64 0, .int .i64 0] 66) := heap2_1 _ _ _
  have b0 := boxc (k := 0) (u := .int .u8 0) q1 rfl
  have b1 := boxc (k := 1) (u := .int .u64 0) q1 rfl
  have b2 := boxc (k := 2) (u := .int .u64 0) q1 rfl
  have b3 := boxc (k := 3) (u := .int .u64 0) q1 rfl
  have b4 := boxc (k := 4) (u := .int .u64 0) q1 rfl
  have b5 := boxc (k := 5) (u := .int .i64 0) q1 rfl
  have b6 := boxc (k := 6) (u := .int .i64 0) q1 rfl
  have t1 := boxt q1
  clear q1
  have hW0 : Below w.heap.size w ((w.alloc (.cells K.toArray 158)).alloc (.cells #[.int .u8 0, .int .u64 0, .int .u64 0, .int .u64 0, .int .u64 0, .int .i64 0, .int .i64 0] 66)) := below_boxes2 _ _ _
  have hrf := Below.refl ((w.alloc (.cells K.toArray 158)).alloc (.cells #[.int .u8 0, .int .u64 0, .int .u64 0, .int .u64 0, .int .u64 0, .int .i64 0, .int .i64 0] 66)).heap.size ((w.alloc (.cells K.toArray 158)).alloc (.cells #[.int .u8 0, .int .u64 0, .int .u64 0, .int .u64 0, .int .u64 0, .int .i64 0, .int .i64 0] 66))
  clear hK
  go_enter Tryz.func100, Tryz.ntmps100
  go_upto_region 1 with fail
  generalize (w.alloc (.cells K.toArray 158)).alloc (.cells #[.int .u8 0, .int .u64 0, .int .u64 0, .int .u64 0, .int .u64 0, .int .i64 0, .int .i64 0] 66) = W at *
  have hlK : ∀ w', Below W.heap.size W w' → (ldRow ⟨w.heap.size, 0, none⟩ 604).run Tryz.prog w' = .ok K.toArray w' := fun w' h => run_ldRow (hRK w' h) hKn
  clear hRK
  have HL := hlK _ hrf
  go_wp2_with fail
  refine (hdst _).mono ?_
  rintro e w1 ⟨rfl, hc1⟩
  have hb1 : Below W.heap.size W w1 := hc1
  clear hc1
  go_upto_region 2 with fail
  have q_p : (w1.alloc (.cells #[.int .u8 0, .int .u64 0, .int .u64 0, .int .u64 0, .int .u64 0, .int .i64 0, .int .i64 0] 66)).heap[w1.heap.size]? = some (.cells #[.int .u8 0, .int .u64 0, .int .u64 0, .int .u64 0, .int .u64 0, .int .i64 0, .int .i64 0] 66) := heap1_0 _ _
  have p0 := boxc (k := 0) (u := .int .u8 0) q_p rfl
  have p1 := boxc (k := 1) (u := .int .u64 0) q_p rfl
  have p2 := boxc (k := 2) (u := .int .u64 0) q_p rfl
  have p3 := boxc (k := 3) (u := .int .u64 0) q_p rfl
  have p4 := boxc (k := 4) (u := .int .u64 0) q_p rfl
  have p5 := boxc (k := 5) (u := .int .i64 0) q_p rfl
  have p6 := boxc (k := 6) (u := .int .i64 0) q_p rfl
  have pt := boxt q_p
  clear q_p
  have hb2 : Below W.heap.size W (w1.alloc (.cells #[.int .u8 0, .int .u64 0, .int .u64 0, .int .u64 0, .int .u64 0, .int .i64 0, .int .i64 0] 66)) := hb1.alloc hb1.size _
  have hp_ : Below w1.heap.size w1 (w1.alloc (.cells #[.int .u8 0, .int .u64 0, .int .u64 0, .int .u64 0, .int .u64 0, .int .i64 0, .int .i64 0] 66)) := (Below.refl _ _).alloc (Nat.le_refl _) _
  have hlp : w1.heap.size < (w1.alloc (.cells #[.int .u8 0, .int .u64 0, .int .u64 0, .int .u64 0, .int .u64 0, .int .i64 0, .int .i64 0] 66)).heap.size := by simp
  have hrp := Below.refl (w1.alloc (.cells #[.int .u8 0, .int .u64 0, .int .u64 0, .int .u64 0, .int .u64 0, .int .i64 0, .int .i64 0] 66)).heap.size (w1.alloc (.cells #[.int .u8 0, .int .u64 0, .int .u64 0, .int .u64 0, .int .u64 0, .int .i64 0, .int .i64 0] 66))
  generalize w1.alloc (.cells #[.int .u8 0, .int .u64 0, .int .u64 0, .int .u64 0, .int .u64 0, .int .i64 0, .int .i64 0] 66) = U at *
  have HL2 := hlK _ hb2
  clear HL
  go_wp2_with fail
  refine (hsec _).mono ?_
  rintro e w3 ⟨rfl, hc3⟩
  have hb3 := hb2.trans (hc3.mono hb2.size)
  have hU3 : Below U.heap.size U w3 := hc3
  clear hc3
  go_upto_region 3 with fail
  have q_y : (w3.alloc (.cells #[.int .u8 1, .int .u64 r, .int .u64 0, .int .u64 r, .int .u64 r, .int .i64 0, .int .i64 0] 66)).heap[w3.heap.size]? = some (.cells #[.int .u8 1, .int .u64 r, .int .u64 0, .int .u64 r, .int .u64 r, .int .i64 0, .int .i64 0] 66) := heap1_0 _ _
  have y0 := boxc (k := 0) (u := .int .u8 1) q_y rfl
  have y1 := boxc (k := 1) (u := .int .u64 r) q_y rfl
  have y2 := boxc (k := 2) (u := .int .u64 0) q_y rfl
  have y3 := boxc (k := 3) (u := .int .u64 r) q_y rfl
  have y4 := boxc (k := 4) (u := .int .u64 r) q_y rfl
  have y5 := boxc (k := 5) (u := .int .i64 0) q_y rfl
  have y6 := boxc (k := 6) (u := .int .i64 0) q_y rfl
  have yt := boxt q_y
  clear q_y
  have hb4 : Below W.heap.size W (w3.alloc (.cells #[.int .u8 1, .int .u64 r, .int .u64 0, .int .u64 r, .int .u64 r, .int .i64 0, .int .i64 0] 66)) := hb3.alloc hb3.size _
  have hy_ : Below w3.heap.size w3 (w3.alloc (.cells #[.int .u8 1, .int .u64 r, .int .u64 0, .int .u64 r, .int .u64 r, .int .i64 0, .int .i64 0] 66)) := (Below.refl _ _).alloc (Nat.le_refl _) _
  have hly : w3.heap.size < (w3.alloc (.cells #[.int .u8 1, .int .u64 r, .int .u64 0, .int .u64 r, .int .u64 r, .int .i64 0, .int .i64 0] 66)).heap.size := by simp
  have hry := Below.refl (w3.alloc (.cells #[.int .u8 1, .int .u64 r, .int .u64 0, .int .u64 r, .int .u64 r, .int .i64 0, .int .i64 0] 66)).heap.size (w3.alloc (.cells #[.int .u8 1, .int .u64 r, .int .u64 0, .int .u64 r, .int .u64 r, .int .i64 0, .int .i64 0] 66))
  generalize w3.alloc (.cells #[.int .u8 1, .int .u64 r, .int .u64 0, .int .u64 r, .int .u64 r, .int .i64 0, .int .i64 0] 66) = R at *
  have hU4 : Below U.heap.size U R := hU3.trans (hy_.mono hU3.size)
  clear HL2
  have Y0 := y0 _ hry
  have Y1 := y1 _ hry
  have Y2 := y2 _ hry
  have Y3 := y3 _ hry
  have Y4 := y4 _ hry
  have Y5 := y5 _ hry
  have Y6 := y6 _ hry
  have z0 := b0 _ hb4
  have z1 := b1 _ hb4
  have z2 := b2 _ hb4
  have z3 := b3 _ hb4
  have z4 := b4 _ hb4
  have z5 := b5 _ hb4
  have z6 := b6 _ hb4
  go_wp2_with fail
  refine bodyPost_ret (v := .tuple #[.agg #[.int .u8 1, .int .u64 r, .int .u64 0, .int .u64 r, .int .u64 r, .int .i64 0, .int .i64 0], .int .i64 0]) (by simp [results, Tryz.results100, go_sem, *]) rfl ⟨rfl, ?_⟩
  (repeat (refine Below.setCell ?_ (by first | exact Nat.le_refl _ | exact Nat.le_succ _ | (simp; done) | (simp; omega)) _))
  exact hW0.trans (hb4.mono hW0.size)

set_option maxRecDepth 100000 in
set_option maxHeartbeats 4000000 in
theorem rarith14_movctx (l : List Insn) (Ad : Option Addr) (c j : Nat) (x0 : Int) (d : Nat) (hd : d < 11) (im : Int) (hi0 : -2147483648 ≤ im) (hi1 : im ≤ 2147483647) (op : Int) (wd : Bool) (rs : List RV) (hrs : StOk rs) (h : op = 176) (hw : wd = true) (ha : rs.getD d .no = .ctx) (w : World) : Calls Tryz.prog 100 #[.agg (KL l Ad c j x0 d im op wd rs).toArray] w fun e w' => e = .returned (.tuple #[.agg #[.int .u8 1, .int .u64 (immU im), .int .u64 0, .int .u64 (immU im), .int .u64 (immU im), .int .i64 0, .int .i64 0], .int .i64 0]) ∧ Below w.heap.size w w' := by
  subst h hw
  have hKn := KL_len (l := l) (Ad := Ad) (c := c) (j := j) (x0 := x0) (d := d) (im := im) (op := 176) (wd := true) hrs.len
  have hdst := fun w => rdst14V l Ad c j x0 d hd im hi0 hi1 176 true rs hrs w
  have hsec := fun w => rsecond14V l Ad c j x0 d hd im hi0 hi1 176 true rs hrs w
  generalize immU im = r at *
  have hfl := field41_0
  rw [ha] at hdst
  simp only [RV.cells, CtxL] at hdst
  clear ha
  generalize hK : KL l Ad c j x0 d im 176 true rs = K at *
  have q0 : ((w.alloc (.cells K.toArray 158)).alloc (.cells #[.int .u8 0, .int .u64 0, .int .u64 0, .int .u64 0, .int .u64 0, .int .i64 0, .int .i64 0] 66)).heap[w.heap.size]? = some (.cells K.toArray 158) := heap2_0 _ _ _
  have k7 := boxc (k := 7) (u := .int .i16 0) q0 (by rw [← hK]; rfl)
  have k8 := boxc (k := 8) (u := .int .i32 im) q0 (by rw [← hK]; rfl)
  have k9 := boxc (k := 9) (u := .int .u8 1) q0 (by rw [← hK]; rfl)
  have k10 := boxc (k := 10) (u := .int .u8 176) q0 (by rw [← hK]; rfl)
  have k11 := boxc (k := 11) (u := .bool true) q0 (by rw [← hK]; rfl)
  have hRK : ∀ w', Below ((w.alloc (.cells K.toArray 158)).alloc (.cells #[.int .u8 0, .int .u64 0, .int .u64 0, .int .u64 0, .int .u64 0, .int .i64 0, .int .i64 0] 66)).heap.size ((w.alloc (.cells K.toArray 158)).alloc (.cells #[.int .u8 0, .int .u64 0, .int .u64 0, .int .u64 0, .int .u64 0, .int .i64 0, .int .i64 0] 66)) w' → w'.rangeAt w.heap.size 0 K := fun w' h k u hu => by rw [Nat.zero_add]; exact boxc q0 (by simpa using hu) w' h
  clear q0
  have q1 : ((w.alloc (.cells K.toArray 158)).alloc (.cells #[.int .u8 0, .int .u64 0, .int .u64 0, .int .u64 0, .int .u64 0, .int .i64 0, .int .i64 0] 66)).heap[(w.heap.size + 1)]? = some (.cells #[.int .u8 0, .int .u64 0, .int .u64 0, .int .u64 0, .int .u64 0, .int .i64 0, .int .i64 0] 66) := heap2_1 _ _ _
  have b0 := boxc (k := 0) (u := .int .u8 0) q1 rfl
  have b1 := boxc (k := 1) (u := .int .u64 0) q1 rfl
  have b2 := boxc (k := 2) (u := .int .u64 0) q1 rfl
  have b3 := boxc (k := 3) (u := .int .u64 0) q1 rfl
  have b4 := boxc (k := 4) (u := .int .u64 0) q1 rfl
  have b5 := boxc (k := 5) (u := .int .i64 0) q1 rfl
  have b6 := boxc (k := 6) (u := .int .i64 0) q1 rfl
  have t1 := boxt q1
  clear q1
  have hW0 : Below w.heap.size w ((w.alloc (.cells K.toArray 158)).alloc (.cells #[.int .u8 0, .int .u64 0, .int .u64 0, .int .u64 0, .int .u64 0, .int .i64 0, .int .i64 0] 66)) := below_boxes2 _ _ _
  have hrf := Below.refl ((w.alloc (.cells K.toArray 158)).alloc (.cells #[.int .u8 0, .int .u64 0, .int .u64 0, .int .u64 0, .int .u64 0, .int .i64 0, .int .i64 0] 66)).heap.size ((w.alloc (.cells K.toArray 158)).alloc (.cells #[.int .u8 0, .int .u64 0, .int .u64 0, .int .u64 0, .int .u64 0, .int .i64 0, .int .i64 0] 66))
  clear hK
  go_enter Tryz.func100, Tryz.ntmps100
  go_upto_region 1 with fail
  generalize (w.alloc (.cells K.toArray 158)).alloc (.cells #[.int .u8 0, .int .u64 0, .int .u64 0, .int .u64 0, .int .u64 0, .int .i64 0, .int .i64 0] 66) = W at *
  have hlK : ∀ w', Below W.heap.size W w' → (ldRow ⟨w.heap.size, 0, none⟩ 604).run Tryz.prog w' = .ok K.toArray w' := fun w' h => run_ldRow (hRK w' h) hKn
  clear hRK
  have HL := hlK _ hrf
  go_wp2_with fail
  refine (hdst _).mono ?_
  rintro e w1 ⟨rfl, hc1⟩
  have hb1 : Below W.heap.size W w1 := hc1
  clear hc1
  go_upto_region 2 with fail
  have q_p : (w1.alloc (.cells #[.int .u8 2, .int .u64 0, .int .u64 0, .int .u64 0, .int .u64 0, .int .i64 0, .int .i64 0] 66)).heap[w1.heap.size]? = some (.cells #[.int .u8 2, .int .u64 0, .int .u64 0, .int .u64 0, .int .u64 0, .int .i64 0, .int .i64 0] 66) := heap1_0 _ _
  have p0 := boxc (k := 0) (u := .int .u8 2) q_p rfl
  have p1 := boxc (k := 1) (u := .int .u64 0) q_p rfl
  have p2 := boxc (k := 2) (u := .int .u64 0) q_p rfl
  have p3 := boxc (k := 3) (u := .int .u64 0) q_p rfl
  have p4 := boxc (k := 4) (u := .int .u64 0) q_p rfl
  have p5 := boxc (k := 5) (u := .int .i64 0) q_p rfl
  have p6 := boxc (k := 6) (u := .int .i64 0) q_p rfl
  have pt := boxt q_p
  clear q_p
  have hb2 : Below W.heap.size W (w1.alloc (.cells #[.int .u8 2, .int .u64 0, .int .u64 0, .int .u64 0, .int .u64 0, .int .i64 0, .int .i64 0] 66)) := hb1.alloc hb1.size _
  have hp_ : Below w1.heap.size w1 (w1.alloc (.cells #[.int .u8 2, .int .u64 0, .int .u64 0, .int .u64 0, .int .u64 0, .int .i64 0, .int .i64 0] 66)) := (Below.refl _ _).alloc (Nat.le_refl _) _
  have hlp : w1.heap.size < (w1.alloc (.cells #[.int .u8 2, .int .u64 0, .int .u64 0, .int .u64 0, .int .u64 0, .int .i64 0, .int .i64 0] 66)).heap.size := by simp
  have hrp := Below.refl (w1.alloc (.cells #[.int .u8 2, .int .u64 0, .int .u64 0, .int .u64 0, .int .u64 0, .int .i64 0, .int .i64 0] 66)).heap.size (w1.alloc (.cells #[.int .u8 2, .int .u64 0, .int .u64 0, .int .u64 0, .int .u64 0, .int .i64 0, .int .i64 0] 66))
  generalize w1.alloc (.cells #[.int .u8 2, .int .u64 0, .int .u64 0, .int .u64 0, .int .u64 0, .int .i64 0, .int .i64 0] 66) = U at *
  have HL2 := hlK _ hb2
  clear HL
  go_wp2_with fail
  refine (hsec _).mono ?_
  rintro e w3 ⟨rfl, hc3⟩
  have hb3 := hb2.trans (hc3.mono hb2.size)
  have hU3 : Below U.heap.size U w3 := hc3
  clear hc3
  go_upto_region 3 with fail
  have q_y : (w3.alloc (.cells #[.int .u8 1, .int .u64 r, .int .u64 0, .int .u64 r, .int .u64 r, .int .i64 0, .int .i64 0] 66)).heap[w3.heap.size]? = some (.cells #[.int .u8 1, .int .u64 r, .int .u64 0, .int .u64 r, .int .u64 r, .int .i64 0, .int .i64 0] 66) := heap1_0 _ _
  have y0 := boxc (k := 0) (u := .int .u8 1) q_y rfl
  have y1 := boxc (k := 1) (u := .int .u64 r) q_y rfl
  have y2 := boxc (k := 2) (u := .int .u64 0) q_y rfl
  have y3 := boxc (k := 3) (u := .int .u64 r) q_y rfl
  have y4 := boxc (k := 4) (u := .int .u64 r) q_y rfl
  have y5 := boxc (k := 5) (u := .int .i64 0) q_y rfl
  have y6 := boxc (k := 6) (u := .int .i64 0) q_y rfl
  have yt := boxt q_y
  clear q_y
  have hb4 : Below W.heap.size W (w3.alloc (.cells #[.int .u8 1, .int .u64 r, .int .u64 0, .int .u64 r, .int .u64 r, .int .i64 0, .int .i64 0] 66)) := hb3.alloc hb3.size _
  have hy_ : Below w3.heap.size w3 (w3.alloc (.cells #[.int .u8 1, .int .u64 r, .int .u64 0, .int .u64 r, .int .u64 r, .int .i64 0, .int .i64 0] 66)) := (Below.refl _ _).alloc (Nat.le_refl _) _
  have hly : w3.heap.size < (w3.alloc (.cells #[.int .u8 1, .int .u64 r, .int .u64 0, .int .u64 r, .int .u64 r, .int .i64 0, .int .i64 0] 66)).heap.size := by simp
  have hry := Below.refl (w3.alloc (.cells #[.int .u8 1, .int .u64 r, .int .u64 0, .int .u64 r, .int .u64 r, .int .i64 0, .int .i64 0] 66)).heap.size (w3.alloc (.cells #[.int .u8 1, .int .u64 r, .int .u64 0, .int .u64 r, .int .u64 r, .int .i64 0, .int .i64 0] 66))
  generalize w3.alloc (.cells #[.int .u8 1, .int .u64 r, .int .u64 0, .int .u64 r, .int .u64 r, .int .i64 0, .int .i64 0] 66) = R at *
  have hU4 : Below U.heap.size U R := hU3.trans (hy_.mono hU3.size)
  clear HL2
  have Y0 := y0 _ hry
  have Y1 := y1 _ hry
  have Y2 := y2 _ hry
  have Y3 := y3 _ hry
  have Y4 := y4 _ hry
  have Y5 := y5 _ hry
  have Y6 := y6 _ hry
  have z0 := b0 _ hb4
  have z1 := b1 _ hb4
  have z2 := b2 _ hb4
  have z3 := b3 _ hb4
  have z4 := b4 _ hb4
  have z5 := b5 _ hb4
  have z6 := b6 _ hb4
  go_wp2_with fail
  refine bodyPost_ret (v := .tuple #[.agg #[.int .u8 1, .int .u64 r, .int .u64 0, .int .u64 r, .int .u64 r, .int .i64 0, .int .i64 0], .int .i64 0]) (by simp [results, Tryz.results100, go_sem, *]) rfl ⟨rfl, ?_⟩
  (repeat (refine Below.setCell ?_ (by first | exact Nat.le_refl _ | exact Nat.le_succ _ | (simp; done) | (simp; omega)) _))
  exact hW0.trans (hb4.mono hW0.size)

set_option maxRecDepth 100000 in
set_option maxHeartbeats 4000000 in
theorem rarith14_add (l : List Insn) (Ad : Option Addr) (c j : Nat) (x0 : Int) (d : Nat) (hd : d < 11) (im : Int) (hi0 : -2147483648 ≤ im) (hi1 : im ≤ 2147483647) (op : Int) (wd : Bool) (rs : List RV) (hrs : StOk rs) (h : op = 0) (hw : wd = true) (a : Int) (hau : U64 a) (ha : rs.getD d .no = .num a) (w : World) : Calls Tryz.prog 100 #[.agg (KL l Ad c j x0 d im op wd rs).toArray] w fun e w' => e = .returned (.tuple #[.agg #[.int .u8 1, .int .u64 (doM 0 true a (immU im)), .int .u64 0, .int .u64 (doM 0 true a (immU im)), .int .u64 (doM 0 true a (immU im)), .int .i64 0, .int .i64 0], .int .i64 0]) ∧ Below w.heap.size w w' := by
  subst hw
  subst h
  have ho : OpOk 0 := by unfold OpOk; simp
  have hr0 : U64 (immU im) := immU_u64 im
  have hdo := fun w => rfdo_any 0 ho true a (immU im) hau hr0 w
  have hu : U64 (doM 0 true a (immU im)) := u64_do ho hau hr0
  have hnm := fun w => rnum12_k (doM 0 true a (immU im)) hu w
  generalize doM 0 true a (immU im) = z at *
  have hKn := KL_len (l := l) (Ad := Ad) (c := c) (j := j) (x0 := x0) (d := d) (im := im) (op := 0) (wd := true) hrs.len
  have hdst := fun w => rdst14V l Ad c j x0 d hd im hi0 hi1 0 true rs hrs w
  have hsec := fun w => rsecond14V l Ad c j x0 d hd im hi0 hi1 0 true rs hrs w
  generalize immU im = r at *
  have hfl := field41_0
  rw [ha] at hdst
  simp only [RV.cells, NumL] at hdst
  clear ha
  generalize hK : KL l Ad c j x0 d im 0 true rs = K at *
  have q0 : ((w.alloc (.cells K.toArray 158)).alloc (.cells #[.int .u8 0, .int .u64 0, .int .u64 0, .int .u64 0, .int .u64 0, .int .i64 0, .int .i64 0] 66)).heap[w.heap.size]? = some (.cells K.toArray 158) := heap2_0 _ _ _
  have k7 := boxc (k := 7) (u := .int .i16 0) q0 (by rw [← hK]; rfl)
  have k8 := boxc (k := 8) (u := .int .i32 im) q0 (by rw [← hK]; rfl)
  have k9 := boxc (k := 9) (u := .int .u8 1) q0 (by rw [← hK]; rfl)
  have k10 := boxc (k := 10) (u := .int .u8 0) q0 (by rw [← hK]; rfl)
  have k11 := boxc (k := 11) (u := .bool true) q0 (by rw [← hK]; rfl)
  have hRK : ∀ w', Below ((w.alloc (.cells K.toArray 158)).alloc (.cells #[.int .u8 0, .int .u64 0, .int .u64 0, .int .u64 0, .int .u64 0, .int .i64 0, .int .i64 0] 66)).heap.size ((w.alloc (.cells K.toArray 158)).alloc (.cells #[.int .u8 0, .int .u64 0, .int .u64 0, .int .u64 0, .int .u64 0, .int .i64 0, .int .i64 0] 66)) w' → w'.rangeAt w.heap.size 0 K := fun w' h k u hu => by rw [Nat.zero_add]; exact boxc q0 (by simpa using hu) w' h
  clear q0
  have q1 : ((w.alloc (.cells K.toArray 158)).alloc (.cells #[.int .u8 0, .int .u64 0, .int .u64 0, .int .u64 0, .int .u64 0, .int .i64 0, .int .i64 0] 66)).heap[(w.heap.size + 1)]? = some (.cells #[.int .u8 0, .int .u64 0, .int .u64 0, .int .u64 0, .int .u64 0, .int .i64 0, .int .i64 0] 66) := heap2_1 _ _ _
  have b0 := boxc (k := 0) (u := .int .u8 0) q1 rfl
  have b1 := boxc (k := 1) (u := .int .u64 0) q1 rfl
  have b2 := boxc (k := 2) (u := .int .u64 0) q1 rfl
  have b3 := boxc (k := 3) (u := .int .u64 0) q1 rfl
  have b4 := boxc (k := 4) (u := .int .u64 0) q1 rfl
  have b5 := boxc (k := 5) (u := .int .i64 0) q1 rfl
  have b6 := boxc (k := 6) (u := .int .i64 0) q1 rfl
  have t1 := boxt q1
  clear q1
  have hW0 : Below w.heap.size w ((w.alloc (.cells K.toArray 158)).alloc (.cells #[.int .u8 0, .int .u64 0, .int .u64 0, .int .u64 0, .int .u64 0, .int .i64 0, .int .i64 0] 66)) := below_boxes2 _ _ _
  have hrf := Below.refl ((w.alloc (.cells K.toArray 158)).alloc (.cells #[.int .u8 0, .int .u64 0, .int .u64 0, .int .u64 0, .int .u64 0, .int .i64 0, .int .i64 0] 66)).heap.size ((w.alloc (.cells K.toArray 158)).alloc (.cells #[.int .u8 0, .int .u64 0, .int .u64 0, .int .u64 0, .int .u64 0, .int .i64 0, .int .i64 0] 66))
  clear hK
  go_enter Tryz.func100, Tryz.ntmps100
  go_upto_region 1 with fail
  generalize (w.alloc (.cells K.toArray 158)).alloc (.cells #[.int .u8 0, .int .u64 0, .int .u64 0, .int .u64 0, .int .u64 0, .int .i64 0, .int .i64 0] 66) = W at *
  have hlK : ∀ w', Below W.heap.size W w' → (ldRow ⟨w.heap.size, 0, none⟩ 604).run Tryz.prog w' = .ok K.toArray w' := fun w' h => run_ldRow (hRK w' h) hKn
  clear hRK
  have HL := hlK _ hrf
  go_wp2_with fail
  refine (hdst _).mono ?_
  rintro e w1 ⟨rfl, hc1⟩
  have hb1 : Below W.heap.size W w1 := hc1
  clear hc1
  go_upto_region 2 with fail
  have q_p : (w1.alloc (.cells #[.int .u8 1, .int .u64 a, .int .u64 0, .int .u64 a, .int .u64 a, .int .i64 0, .int .i64 0] 66)).heap[w1.heap.size]? = some (.cells #[.int .u8 1, .int .u64 a, .int .u64 0, .int .u64 a, .int .u64 a, .int .i64 0, .int .i64 0] 66) := heap1_0 _ _
  have p0 := boxc (k := 0) (u := .int .u8 1) q_p rfl
  have p1 := boxc (k := 1) (u := .int .u64 a) q_p rfl
  have p2 := boxc (k := 2) (u := .int .u64 0) q_p rfl
  have p3 := boxc (k := 3) (u := .int .u64 a) q_p rfl
  have p4 := boxc (k := 4) (u := .int .u64 a) q_p rfl
  have p5 := boxc (k := 5) (u := .int .i64 0) q_p rfl
  have p6 := boxc (k := 6) (u := .int .i64 0) q_p rfl
  have pt := boxt q_p
  clear q_p
  have hb2 : Below W.heap.size W (w1.alloc (.cells #[.int .u8 1, .int .u64 a, .int .u64 0, .int .u64 a, .int .u64 a, .int .i64 0, .int .i64 0] 66)) := hb1.alloc hb1.size _
  have hp_ : Below w1.heap.size w1 (w1.alloc (.cells #[.int .u8 1, .int .u64 a, .int .u64 0, .int .u64 a, .int .u64 a, .int .i64 0, .int .i64 0] 66)) := (Below.refl _ _).alloc (Nat.le_refl _) _
  have hlp : w1.heap.size < (w1.alloc (.cells #[.int .u8 1, .int .u64 a, .int .u64 0, .int .u64 a, .int .u64 a, .int .i64 0, .int .i64 0] 66)).heap.size := by simp
  have hrp := Below.refl (w1.alloc (.cells #[.int .u8 1, .int .u64 a, .int .u64 0, .int .u64 a, .int .u64 a, .int .i64 0, .int .i64 0] 66)).heap.size (w1.alloc (.cells #[.int .u8 1, .int .u64 a, .int .u64 0, .int .u64 a, .int .u64 a, .int .i64 0, .int .i64 0] 66))
  generalize w1.alloc (.cells #[.int .u8 1, .int .u64 a, .int .u64 0, .int .u64 a, .int .u64 a, .int .i64 0, .int .i64 0] 66) = U at *
  have HL2 := hlK _ hb2
  clear HL
  go_wp2_with fail
  refine (hsec _).mono ?_
  rintro e w3 ⟨rfl, hc3⟩
  have hb3 := hb2.trans (hc3.mono hb2.size)
  have hU3 : Below U.heap.size U w3 := hc3
  clear hc3
  go_upto_region 3 with fail
  have q_y : (w3.alloc (.cells #[.int .u8 1, .int .u64 r, .int .u64 0, .int .u64 r, .int .u64 r, .int .i64 0, .int .i64 0] 66)).heap[w3.heap.size]? = some (.cells #[.int .u8 1, .int .u64 r, .int .u64 0, .int .u64 r, .int .u64 r, .int .i64 0, .int .i64 0] 66) := heap1_0 _ _
  have y0 := boxc (k := 0) (u := .int .u8 1) q_y rfl
  have y1 := boxc (k := 1) (u := .int .u64 r) q_y rfl
  have y2 := boxc (k := 2) (u := .int .u64 0) q_y rfl
  have y3 := boxc (k := 3) (u := .int .u64 r) q_y rfl
  have y4 := boxc (k := 4) (u := .int .u64 r) q_y rfl
  have y5 := boxc (k := 5) (u := .int .i64 0) q_y rfl
  have y6 := boxc (k := 6) (u := .int .i64 0) q_y rfl
  have yt := boxt q_y
  clear q_y
  have hb4 : Below W.heap.size W (w3.alloc (.cells #[.int .u8 1, .int .u64 r, .int .u64 0, .int .u64 r, .int .u64 r, .int .i64 0, .int .i64 0] 66)) := hb3.alloc hb3.size _
  have hy_ : Below w3.heap.size w3 (w3.alloc (.cells #[.int .u8 1, .int .u64 r, .int .u64 0, .int .u64 r, .int .u64 r, .int .i64 0, .int .i64 0] 66)) := (Below.refl _ _).alloc (Nat.le_refl _) _
  have hly : w3.heap.size < (w3.alloc (.cells #[.int .u8 1, .int .u64 r, .int .u64 0, .int .u64 r, .int .u64 r, .int .i64 0, .int .i64 0] 66)).heap.size := by simp
  have hry := Below.refl (w3.alloc (.cells #[.int .u8 1, .int .u64 r, .int .u64 0, .int .u64 r, .int .u64 r, .int .i64 0, .int .i64 0] 66)).heap.size (w3.alloc (.cells #[.int .u8 1, .int .u64 r, .int .u64 0, .int .u64 r, .int .u64 r, .int .i64 0, .int .i64 0] 66))
  generalize w3.alloc (.cells #[.int .u8 1, .int .u64 r, .int .u64 0, .int .u64 r, .int .u64 r, .int .i64 0, .int .i64 0] 66) = R at *
  have hU4 : Below U.heap.size U R := hU3.trans (hy_.mono hU3.size)
  clear HL2
  have hb4_ := hb4
  have hR4 := hry
  go_wp2_with fail
  refine (rpointer12_num a hau _).mono ?_
  rintro e w5 ⟨rfl, hx5⟩
  have hb5 := hb4.trans (hx5.mono hb4.size)
  have hU5 := hU4.trans (hx5.mono hU4.size)
  have hR5 := hR4.trans (hx5.mono hR4.size)
  clear hx5
  go_wp2_with fail
  refine (rnum14 a _).mono ?_
  rintro e w6 ⟨rfl, hx6⟩
  have hb6 := hb5.trans (hx6.mono hb5.size)
  have hU6 := hU5.trans (hx6.mono hU5.size)
  have hR6 := hR5.trans (hx6.mono hR5.size)
  clear hx6
  go_wp2_with fail
  refine (rnum14 r _).mono ?_
  rintro e w7 ⟨rfl, hx7⟩
  have hb7 := hb6.trans (hx7.mono hb6.size)
  have hU7 := hU6.trans (hx7.mono hU6.size)
  have hR7 := hR6.trans (hx7.mono hR6.size)
  clear hx7
  go_wp2_with fail
  refine (hdo _).mono ?_
  rintro e w8 ⟨rfl, hx8⟩
  have hb8 := hb7.trans (hx8.mono hb7.size)
  have hU8 := hU7.trans (hx8.mono hU7.size)
  have hR8 := hR7.trans (hx8.mono hR7.size)
  clear hx8
  go_wp2_with fail
  refine (hnm _).mono ?_
  rintro e w9 ⟨rfl, hx⟩
  have hb9 : Below W.heap.size W w9 := (hb8.alloc hb8.size _).trans (hx.mono (Nat.le_trans hb8.size (by simp)))
  clear hx
  have z0 := b0 _ hb9
  have z1 := b1 _ hb9
  have z2 := b2 _ hb9
  have z3 := b3 _ hb9
  have z4 := b4 _ hb9
  have z5 := b5 _ hb9
  have z6 := b6 _ hb9
  go_wp2_with fail
  refine bodyPost_ret (v := .tuple #[.agg #[.int .u8 1, .int .u64 z, .int .u64 0, .int .u64 z, .int .u64 z, .int .i64 0, .int .i64 0], .int .i64 0]) (by simp [results, Tryz.results100, go_sem, *]) rfl ⟨rfl, ?_⟩
  (repeat (refine Below.setCell ?_ (by first | exact Nat.le_refl _ | exact Nat.le_succ _ | (simp; done) | (simp; omega)) _))
  exact hW0.trans (hb9.mono hW0.size)

set_option maxRecDepth 100000 in
set_option maxHeartbeats 4000000 in
theorem rarith14_sub (l : List Insn) (Ad : Option Addr) (c j : Nat) (x0 : Int) (d : Nat) (hd : d < 11) (im : Int) (hi0 : -2147483648 ≤ im) (hi1 : im ≤ 2147483647) (op : Int) (wd : Bool) (rs : List RV) (hrs : StOk rs) (h : op = 16) (hw : wd = true) (a : Int) (hau : U64 a) (ha : rs.getD d .no = .num a) (w : World) : Calls Tryz.prog 100 #[.agg (KL l Ad c j x0 d im op wd rs).toArray] w fun e w' => e = .returned (.tuple #[.agg #[.int .u8 1, .int .u64 (doM 16 true a (immU im)), .int .u64 0, .int .u64 (doM 16 true a (immU im)), .int .u64 (doM 16 true a (immU im)), .int .i64 0, .int .i64 0], .int .i64 0]) ∧ Below w.heap.size w w' := by
  subst hw
  subst h
  have ho : OpOk 16 := by unfold OpOk; simp
  have hr0 : U64 (immU im) := immU_u64 im
  have hdo := fun w => rfdo_any 16 ho true a (immU im) hau hr0 w
  have hu : U64 (doM 16 true a (immU im)) := u64_do ho hau hr0
  have hnm := fun w => rnum12_k (doM 16 true a (immU im)) hu w
  generalize doM 16 true a (immU im) = z at *
  have hKn := KL_len (l := l) (Ad := Ad) (c := c) (j := j) (x0 := x0) (d := d) (im := im) (op := 16) (wd := true) hrs.len
  have hdst := fun w => rdst14V l Ad c j x0 d hd im hi0 hi1 16 true rs hrs w
  have hsec := fun w => rsecond14V l Ad c j x0 d hd im hi0 hi1 16 true rs hrs w
  generalize immU im = r at *
  have hfl := field41_0
  rw [ha] at hdst
  simp only [RV.cells, NumL] at hdst
  clear ha
  generalize hK : KL l Ad c j x0 d im 16 true rs = K at *
  have q0 : ((w.alloc (.cells K.toArray 158)).alloc (.cells #[.int .u8 0, .int .u64 0, .int .u64 0, .int .u64 0, .int .u64 0, .int .i64 0, .int .i64 0] 66)).heap[w.heap.size]? = some (.cells K.toArray 158) := heap2_0 _ _ _
  have k7 := boxc (k := 7) (u := .int .i16 0) q0 (by rw [← hK]; rfl)
  have k8 := boxc (k := 8) (u := .int .i32 im) q0 (by rw [← hK]; rfl)
  have k9 := boxc (k := 9) (u := .int .u8 1) q0 (by rw [← hK]; rfl)
  have k10 := boxc (k := 10) (u := .int .u8 16) q0 (by rw [← hK]; rfl)
  have k11 := boxc (k := 11) (u := .bool true) q0 (by rw [← hK]; rfl)
  have hRK : ∀ w', Below ((w.alloc (.cells K.toArray 158)).alloc (.cells #[.int .u8 0, .int .u64 0, .int .u64 0, .int .u64 0, .int .u64 0, .int .i64 0, .int .i64 0] 66)).heap.size ((w.alloc (.cells K.toArray 158)).alloc (.cells #[.int .u8 0, .int .u64 0, .int .u64 0, .int .u64 0, .int .u64 0, .int .i64 0, .int .i64 0] 66)) w' → w'.rangeAt w.heap.size 0 K := fun w' h k u hu => by rw [Nat.zero_add]; exact boxc q0 (by simpa using hu) w' h
  clear q0
  have q1 : ((w.alloc (.cells K.toArray 158)).alloc (.cells #[.int .u8 0, .int .u64 0, .int .u64 0, .int .u64 0, .int .u64 0, .int .i64 0, .int .i64 0] 66)).heap[(w.heap.size + 1)]? = some (.cells #[.int .u8 0, .int .u64 0, .int .u64 0, .int .u64 0, .int .u64 0, .int .i64 0, .int .i64 0] 66) := heap2_1 _ _ _
  have b0 := boxc (k := 0) (u := .int .u8 0) q1 rfl
  have b1 := boxc (k := 1) (u := .int .u64 0) q1 rfl
  have b2 := boxc (k := 2) (u := .int .u64 0) q1 rfl
  have b3 := boxc (k := 3) (u := .int .u64 0) q1 rfl
  have b4 := boxc (k := 4) (u := .int .u64 0) q1 rfl
  have b5 := boxc (k := 5) (u := .int .i64 0) q1 rfl
  have b6 := boxc (k := 6) (u := .int .i64 0) q1 rfl
  have t1 := boxt q1
  clear q1
  have hW0 : Below w.heap.size w ((w.alloc (.cells K.toArray 158)).alloc (.cells #[.int .u8 0, .int .u64 0, .int .u64 0, .int .u64 0, .int .u64 0, .int .i64 0, .int .i64 0] 66)) := below_boxes2 _ _ _
  have hrf := Below.refl ((w.alloc (.cells K.toArray 158)).alloc (.cells #[.int .u8 0, .int .u64 0, .int .u64 0, .int .u64 0, .int .u64 0, .int .i64 0, .int .i64 0] 66)).heap.size ((w.alloc (.cells K.toArray 158)).alloc (.cells #[.int .u8 0, .int .u64 0, .int .u64 0, .int .u64 0, .int .u64 0, .int .i64 0, .int .i64 0] 66))
  clear hK
  go_enter Tryz.func100, Tryz.ntmps100
  go_upto_region 1 with fail
  generalize (w.alloc (.cells K.toArray 158)).alloc (.cells #[.int .u8 0, .int .u64 0, .int .u64 0, .int .u64 0, .int .u64 0, .int .i64 0, .int .i64 0] 66) = W at *
  have hlK : ∀ w', Below W.heap.size W w' → (ldRow ⟨w.heap.size, 0, none⟩ 604).run Tryz.prog w' = .ok K.toArray w' := fun w' h => run_ldRow (hRK w' h) hKn
  clear hRK
  have HL := hlK _ hrf
  go_wp2_with fail
  refine (hdst _).mono ?_
  rintro e w1 ⟨rfl, hc1⟩
  have hb1 : Below W.heap.size W w1 := hc1
  clear hc1
  go_upto_region 2 with fail
  have q_p : (w1.alloc (.cells #[.int .u8 1, .int .u64 a, .int .u64 0, .int .u64 a, .int .u64 a, .int .i64 0, .int .i64 0] 66)).heap[w1.heap.size]? = some (.cells #[.int .u8 1, .int .u64 a, .int .u64 0, .int .u64 a, .int .u64 a, .int .i64 0, .int .i64 0] 66) := heap1_0 _ _
  have p0 := boxc (k := 0) (u := .int .u8 1) q_p rfl
  have p1 := boxc (k := 1) (u := .int .u64 a) q_p rfl
  have p2 := boxc (k := 2) (u := .int .u64 0) q_p rfl
  have p3 := boxc (k := 3) (u := .int .u64 a) q_p rfl
  have p4 := boxc (k := 4) (u := .int .u64 a) q_p rfl
  have p5 := boxc (k := 5) (u := .int .i64 0) q_p rfl
  have p6 := boxc (k := 6) (u := .int .i64 0) q_p rfl
  have pt := boxt q_p
  clear q_p
  have hb2 : Below W.heap.size W (w1.alloc (.cells #[.int .u8 1, .int .u64 a, .int .u64 0, .int .u64 a, .int .u64 a, .int .i64 0, .int .i64 0] 66)) := hb1.alloc hb1.size _
  have hp_ : Below w1.heap.size w1 (w1.alloc (.cells #[.int .u8 1, .int .u64 a, .int .u64 0, .int .u64 a, .int .u64 a, .int .i64 0, .int .i64 0] 66)) := (Below.refl _ _).alloc (Nat.le_refl _) _
  have hlp : w1.heap.size < (w1.alloc (.cells #[.int .u8 1, .int .u64 a, .int .u64 0, .int .u64 a, .int .u64 a, .int .i64 0, .int .i64 0] 66)).heap.size := by simp
  have hrp := Below.refl (w1.alloc (.cells #[.int .u8 1, .int .u64 a, .int .u64 0, .int .u64 a, .int .u64 a, .int .i64 0, .int .i64 0] 66)).heap.size (w1.alloc (.cells #[.int .u8 1, .int .u64 a, .int .u64 0, .int .u64 a, .int .u64 a, .int .i64 0, .int .i64 0] 66))
  generalize w1.alloc (.cells #[.int .u8 1, .int .u64 a, .int .u64 0, .int .u64 a, .int .u64 a, .int .i64 0, .int .i64 0] 66) = U at *
  have HL2 := hlK _ hb2
  clear HL
  go_wp2_with fail
  refine (hsec _).mono ?_
  rintro e w3 ⟨rfl, hc3⟩
  have hb3 := hb2.trans (hc3.mono hb2.size)
  have hU3 : Below U.heap.size U w3 := hc3
  clear hc3
  go_upto_region 3 with fail
  have q_y : (w3.alloc (.cells #[.int .u8 1, .int .u64 r, .int .u64 0, .int .u64 r, .int .u64 r, .int .i64 0, .int .i64 0] 66)).heap[w3.heap.size]? = some (.cells #[.int .u8 1, .int .u64 r, .int .u64 0, .int .u64 r, .int .u64 r, .int .i64 0, .int .i64 0] 66) := heap1_0 _ _
  have y0 := boxc (k := 0) (u := .int .u8 1) q_y rfl
  have y1 := boxc (k := 1) (u := .int .u64 r) q_y rfl
  have y2 := boxc (k := 2) (u := .int .u64 0) q_y rfl
  have y3 := boxc (k := 3) (u := .int .u64 r) q_y rfl
  have y4 := boxc (k := 4) (u := .int .u64 r) q_y rfl
  have y5 := boxc (k := 5) (u := .int .i64 0) q_y rfl
  have y6 := boxc (k := 6) (u := .int .i64 0) q_y rfl
  have yt := boxt q_y
  clear q_y
  have hb4 : Below W.heap.size W (w3.alloc (.cells #[.int .u8 1, .int .u64 r, .int .u64 0, .int .u64 r, .int .u64 r, .int .i64 0, .int .i64 0] 66)) := hb3.alloc hb3.size _
  have hy_ : Below w3.heap.size w3 (w3.alloc (.cells #[.int .u8 1, .int .u64 r, .int .u64 0, .int .u64 r, .int .u64 r, .int .i64 0, .int .i64 0] 66)) := (Below.refl _ _).alloc (Nat.le_refl _) _
  have hly : w3.heap.size < (w3.alloc (.cells #[.int .u8 1, .int .u64 r, .int .u64 0, .int .u64 r, .int .u64 r, .int .i64 0, .int .i64 0] 66)).heap.size := by simp
  have hry := Below.refl (w3.alloc (.cells #[.int .u8 1, .int .u64 r, .int .u64 0, .int .u64 r, .int .u64 r, .int .i64 0, .int .i64 0] 66)).heap.size (w3.alloc (.cells #[.int .u8 1, .int .u64 r, .int .u64 0, .int .u64 r, .int .u64 r, .int .i64 0, .int .i64 0] 66))
  generalize w3.alloc (.cells #[.int .u8 1, .int .u64 r, .int .u64 0, .int .u64 r, .int .u64 r, .int .i64 0, .int .i64 0] 66) = R at *
  have hU4 : Below U.heap.size U R := hU3.trans (hy_.mono hU3.size)
  clear HL2
  have hb4_ := hb4
  have hR4 := hry
  go_wp2_with fail
  refine (rpointer12_num a hau _).mono ?_
  rintro e w5 ⟨rfl, hx5⟩
  have hb5 := hb4.trans (hx5.mono hb4.size)
  have hU5 := hU4.trans (hx5.mono hU4.size)
  have hR5 := hR4.trans (hx5.mono hR4.size)
  clear hx5
  go_wp2_with fail
  refine (rnum14 a _).mono ?_
  rintro e w6 ⟨rfl, hx6⟩
  have hb6 := hb5.trans (hx6.mono hb5.size)
  have hU6 := hU5.trans (hx6.mono hU5.size)
  have hR6 := hR5.trans (hx6.mono hR5.size)
  clear hx6
  go_wp2_with fail
  refine (rnum14 r _).mono ?_
  rintro e w7 ⟨rfl, hx7⟩
  have hb7 := hb6.trans (hx7.mono hb6.size)
  have hU7 := hU6.trans (hx7.mono hU6.size)
  have hR7 := hR6.trans (hx7.mono hR6.size)
  clear hx7
  go_wp2_with fail
  refine (hdo _).mono ?_
  rintro e w8 ⟨rfl, hx8⟩
  have hb8 := hb7.trans (hx8.mono hb7.size)
  have hU8 := hU7.trans (hx8.mono hU7.size)
  have hR8 := hR7.trans (hx8.mono hR7.size)
  clear hx8
  go_wp2_with fail
  refine (hnm _).mono ?_
  rintro e w9 ⟨rfl, hx⟩
  have hb9 : Below W.heap.size W w9 := (hb8.alloc hb8.size _).trans (hx.mono (Nat.le_trans hb8.size (by simp)))
  clear hx
  have z0 := b0 _ hb9
  have z1 := b1 _ hb9
  have z2 := b2 _ hb9
  have z3 := b3 _ hb9
  have z4 := b4 _ hb9
  have z5 := b5 _ hb9
  have z6 := b6 _ hb9
  go_wp2_with fail
  refine bodyPost_ret (v := .tuple #[.agg #[.int .u8 1, .int .u64 z, .int .u64 0, .int .u64 z, .int .u64 z, .int .i64 0, .int .i64 0], .int .i64 0]) (by simp [results, Tryz.results100, go_sem, *]) rfl ⟨rfl, ?_⟩
  (repeat (refine Below.setCell ?_ (by first | exact Nat.le_refl _ | exact Nat.le_succ _ | (simp; done) | (simp; omega)) _))
  exact hW0.trans (hb9.mono hW0.size)

set_option maxRecDepth 100000 in
set_option maxHeartbeats 4000000 in
theorem rarith14_wide (l : List Insn) (Ad : Option Addr) (c j : Nat) (x0 : Int) (d : Nat) (hd : d < 11) (im : Int) (hi0 : -2147483648 ≤ im) (hi1 : im ≤ 2147483647) (op : Int) (wd : Bool) (rs : List RV) (hrs : StOk rs) (ho : OpOk op) (h0 : ¬ op = 0) (h1 : ¬ op = 16) (h2 : ¬ op = 176) (hw : wd = true) (a : Int) (hau : U64 a) (ha : rs.getD d .no = .num a) (w : World) : Calls Tryz.prog 100 #[.agg (KL l Ad c j x0 d im op wd rs).toArray] w fun e w' => e = .returned (.tuple #[.agg #[.int .u8 1, .int .u64 (doM op true a (immU im)), .int .u64 0, .int .u64 (doM op true a (immU im)), .int .u64 (doM op true a (immU im)), .int .i64 0, .int .i64 0], .int .i64 0]) ∧ Below w.heap.size w w' := by
  subst hw
  have e0 : (op == 0) = false := by simpa using h0
  have e1 : (op == 16) = false := by simpa using h1
  have e2 : (op == 176) = false := by simpa using h2
  have e3 : (op == 128) = false := by rcases ho with rfl | rfl | rfl | rfl | rfl | rfl | rfl | rfl | rfl | rfl | rfl | rfl <;> decide
  clear h0 h1 h2
  have hr0 : U64 (immU im) := immU_u64 im
  have hdo := fun w => rfdo_any op ho true a (immU im) hau hr0 w
  have hu : U64 (doM op true a (immU im)) := u64_do ho hau hr0
  have hnm := fun w => rnum12_k (doM op true a (immU im)) hu w
  generalize doM op true a (immU im) = z at *
  have hKn := KL_len (l := l) (Ad := Ad) (c := c) (j := j) (x0 := x0) (d := d) (im := im) (op := op) (wd := true) hrs.len
  have hdst := fun w => rdst14V l Ad c j x0 d hd im hi0 hi1 op true rs hrs w
  have hsec := fun w => rsecond14V l Ad c j x0 d hd im hi0 hi1 op true rs hrs w
  generalize immU im = r at *
  have hfl := field41_0
  rw [ha] at hdst
  simp only [RV.cells, NumL] at hdst
  clear ha
  generalize hK : KL l Ad c j x0 d im op true rs = K at *
  have q0 : ((w.alloc (.cells K.toArray 158)).alloc (.cells #[.int .u8 0, .int .u64 0, .int .u64 0, .int .u64 0, .int .u64 0, .int .i64 0, .int .i64 0] 66)).heap[w.heap.size]? = some (.cells K.toArray 158) := heap2_0 _ _ _
  have k7 := boxc (k := 7) (u := .int .i16 0) q0 (by rw [← hK]; rfl)
  have k8 := boxc (k := 8) (u := .int .i32 im) q0 (by rw [← hK]; rfl)
  have k9 := boxc (k := 9) (u := .int .u8 1) q0 (by rw [← hK]; rfl)
  have k10 := boxc (k := 10) (u := .int .u8 op) q0 (by rw [← hK]; rfl)
  have k11 := boxc (k := 11) (u := .bool true) q0 (by rw [← hK]; rfl)
  have hRK : ∀ w', Below ((w.alloc (.cells K.toArray 158)).alloc (.cells #[.int .u8 0, .int .u64 0, .int .u64 0, .int .u64 0, .int .u64 0, .int .i64 0, .int .i64 0] 66)).heap.size ((w.alloc (.cells K.toArray 158)).alloc (.cells #[.int .u8 0, .int .u64 0, .int .u64 0, .int .u64 0, .int .u64 0, .int .i64 0, .int .i64 0] 66)) w' → w'.rangeAt w.heap.size 0 K := fun w' h k u hu => by rw [Nat.zero_add]; exact boxc q0 (by simpa using hu) w' h
  clear q0
  have q1 : ((w.alloc (.cells K.toArray 158)).alloc (.cells #[.int .u8 0, .int .u64 0, .int .u64 0, .int .u64 0, .int .u64 0, .int .i64 0, .int .i64 0] 66)).heap[(w.heap.size + 1)]? = some (.cells #[.int .u8 0, .int .u64 0, .int .u64 0, .int .u64 0, .int .u64 0, .int .i64 0, .int .i64 0] 66) := heap2_1 _ _ _
  have b0 := boxc (k := 0) (u := .int .u8 0) q1 rfl
  have b1 := boxc (k := 1) (u := .int .u64 0) q1 rfl
  have b2 := boxc (k := 2) (u := .int .u64 0) q1 rfl
  have b3 := boxc (k := 3) (u := .int .u64 0) q1 rfl
  have b4 := boxc (k := 4) (u := .int .u64 0) q1 rfl
  have b5 := boxc (k := 5) (u := .int .i64 0) q1 rfl
  have b6 := boxc (k := 6) (u := .int .i64 0) q1 rfl
  have t1 := boxt q1
  clear q1
  have hW0 : Below w.heap.size w ((w.alloc (.cells K.toArray 158)).alloc (.cells #[.int .u8 0, .int .u64 0, .int .u64 0, .int .u64 0, .int .u64 0, .int .i64 0, .int .i64 0] 66)) := below_boxes2 _ _ _
  have hrf := Below.refl ((w.alloc (.cells K.toArray 158)).alloc (.cells #[.int .u8 0, .int .u64 0, .int .u64 0, .int .u64 0, .int .u64 0, .int .i64 0, .int .i64 0] 66)).heap.size ((w.alloc (.cells K.toArray 158)).alloc (.cells #[.int .u8 0, .int .u64 0, .int .u64 0, .int .u64 0, .int .u64 0, .int .i64 0, .int .i64 0] 66))
  clear hK
  go_enter Tryz.func100, Tryz.ntmps100
  go_upto_region 1 with fail
  generalize (w.alloc (.cells K.toArray 158)).alloc (.cells #[.int .u8 0, .int .u64 0, .int .u64 0, .int .u64 0, .int .u64 0, .int .i64 0, .int .i64 0] 66) = W at *
  have hlK : ∀ w', Below W.heap.size W w' → (ldRow ⟨w.heap.size, 0, none⟩ 604).run Tryz.prog w' = .ok K.toArray w' := fun w' h => run_ldRow (hRK w' h) hKn
  clear hRK
  have HL := hlK _ hrf
  go_wp2_with fail
  refine (hdst _).mono ?_
  rintro e w1 ⟨rfl, hc1⟩
  have hb1 : Below W.heap.size W w1 := hc1
  clear hc1
  go_upto_region 2 with fail
  have q_p : (w1.alloc (.cells #[.int .u8 1, .int .u64 a, .int .u64 0, .int .u64 a, .int .u64 a, .int .i64 0, .int .i64 0] 66)).heap[w1.heap.size]? = some (.cells #[.int .u8 1, .int .u64 a, .int .u64 0, .int .u64 a, .int .u64 a, .int .i64 0, .int .i64 0] 66) := heap1_0 _ _
  have p0 := boxc (k := 0) (u := .int .u8 1) q_p rfl
  have p1 := boxc (k := 1) (u := .int .u64 a) q_p rfl
  have p2 := boxc (k := 2) (u := .int .u64 0) q_p rfl
  have p3 := boxc (k := 3) (u := .int .u64 a) q_p rfl
  have p4 := boxc (k := 4) (u := .int .u64 a) q_p rfl
  have p5 := boxc (k := 5) (u := .int .i64 0) q_p rfl
  have p6 := boxc (k := 6) (u := .int .i64 0) q_p rfl
  have pt := boxt q_p
  clear q_p
  have hb2 : Below W.heap.size W (w1.alloc (.cells #[.int .u8 1, .int .u64 a, .int .u64 0, .int .u64 a, .int .u64 a, .int .i64 0, .int .i64 0] 66)) := hb1.alloc hb1.size _
  have hp_ : Below w1.heap.size w1 (w1.alloc (.cells #[.int .u8 1, .int .u64 a, .int .u64 0, .int .u64 a, .int .u64 a, .int .i64 0, .int .i64 0] 66)) := (Below.refl _ _).alloc (Nat.le_refl _) _
  have hlp : w1.heap.size < (w1.alloc (.cells #[.int .u8 1, .int .u64 a, .int .u64 0, .int .u64 a, .int .u64 a, .int .i64 0, .int .i64 0] 66)).heap.size := by simp
  have hrp := Below.refl (w1.alloc (.cells #[.int .u8 1, .int .u64 a, .int .u64 0, .int .u64 a, .int .u64 a, .int .i64 0, .int .i64 0] 66)).heap.size (w1.alloc (.cells #[.int .u8 1, .int .u64 a, .int .u64 0, .int .u64 a, .int .u64 a, .int .i64 0, .int .i64 0] 66))
  generalize w1.alloc (.cells #[.int .u8 1, .int .u64 a, .int .u64 0, .int .u64 a, .int .u64 a, .int .i64 0, .int .i64 0] 66) = U at *
  have HL2 := hlK _ hb2
  clear HL
  go_wp2_with fail
  refine (hsec _).mono ?_
  rintro e w3 ⟨rfl, hc3⟩
  have hb3 := hb2.trans (hc3.mono hb2.size)
  have hU3 : Below U.heap.size U w3 := hc3
  clear hc3
  go_upto_region 3 with fail
  have q_y : (w3.alloc (.cells #[.int .u8 1, .int .u64 r, .int .u64 0, .int .u64 r, .int .u64 r, .int .i64 0, .int .i64 0] 66)).heap[w3.heap.size]? = some (.cells #[.int .u8 1, .int .u64 r, .int .u64 0, .int .u64 r, .int .u64 r, .int .i64 0, .int .i64 0] 66) := heap1_0 _ _
  have y0 := boxc (k := 0) (u := .int .u8 1) q_y rfl
  have y1 := boxc (k := 1) (u := .int .u64 r) q_y rfl
  have y2 := boxc (k := 2) (u := .int .u64 0) q_y rfl
  have y3 := boxc (k := 3) (u := .int .u64 r) q_y rfl
  have y4 := boxc (k := 4) (u := .int .u64 r) q_y rfl
  have y5 := boxc (k := 5) (u := .int .i64 0) q_y rfl
  have y6 := boxc (k := 6) (u := .int .i64 0) q_y rfl
  have yt := boxt q_y
  clear q_y
  have hb4 : Below W.heap.size W (w3.alloc (.cells #[.int .u8 1, .int .u64 r, .int .u64 0, .int .u64 r, .int .u64 r, .int .i64 0, .int .i64 0] 66)) := hb3.alloc hb3.size _
  have hy_ : Below w3.heap.size w3 (w3.alloc (.cells #[.int .u8 1, .int .u64 r, .int .u64 0, .int .u64 r, .int .u64 r, .int .i64 0, .int .i64 0] 66)) := (Below.refl _ _).alloc (Nat.le_refl _) _
  have hly : w3.heap.size < (w3.alloc (.cells #[.int .u8 1, .int .u64 r, .int .u64 0, .int .u64 r, .int .u64 r, .int .i64 0, .int .i64 0] 66)).heap.size := by simp
  have hry := Below.refl (w3.alloc (.cells #[.int .u8 1, .int .u64 r, .int .u64 0, .int .u64 r, .int .u64 r, .int .i64 0, .int .i64 0] 66)).heap.size (w3.alloc (.cells #[.int .u8 1, .int .u64 r, .int .u64 0, .int .u64 r, .int .u64 r, .int .i64 0, .int .i64 0] 66))
  generalize w3.alloc (.cells #[.int .u8 1, .int .u64 r, .int .u64 0, .int .u64 r, .int .u64 r, .int .i64 0, .int .i64 0] 66) = R at *
  have hU4 : Below U.heap.size U R := hU3.trans (hy_.mono hU3.size)
  clear HL2
  have hb4_ := hb4
  have hR4 := hry
  go_wp2_with fail
  refine (rnum14 a _).mono ?_
  rintro e w5 ⟨rfl, hx5⟩
  have hb5 := hb4.trans (hx5.mono hb4.size)
  have hU5 := hU4.trans (hx5.mono hU4.size)
  have hR5 := hR4.trans (hx5.mono hR4.size)
  clear hx5
  go_wp2_with fail
  refine (rnum14 r _).mono ?_
  rintro e w6 ⟨rfl, hx6⟩
  have hb6 := hb5.trans (hx6.mono hb5.size)
  have hU6 := hU5.trans (hx6.mono hU5.size)
  have hR6 := hR5.trans (hx6.mono hR5.size)
  clear hx6
  go_wp2_with fail
  refine (hdo _).mono ?_
  rintro e w7 ⟨rfl, hx7⟩
  have hb7 := hb6.trans (hx7.mono hb6.size)
  have hU7 := hU6.trans (hx7.mono hU6.size)
  have hR7 := hR6.trans (hx7.mono hR6.size)
  clear hx7
  go_wp2_with fail
  refine (hnm _).mono ?_
  rintro e w8 ⟨rfl, hx⟩
  have hb8 : Below W.heap.size W w8 := (hb7.alloc hb7.size _).trans (hx.mono (Nat.le_trans hb7.size (by simp)))
  clear hx
  have z0 := b0 _ hb8
  have z1 := b1 _ hb8
  have z2 := b2 _ hb8
  have z3 := b3 _ hb8
  have z4 := b4 _ hb8
  have z5 := b5 _ hb8
  have z6 := b6 _ hb8
  go_wp2_with fail
  refine bodyPost_ret (v := .tuple #[.agg #[.int .u8 1, .int .u64 z, .int .u64 0, .int .u64 z, .int .u64 z, .int .i64 0, .int .i64 0], .int .i64 0]) (by simp [results, Tryz.results100, go_sem, *]) rfl ⟨rfl, ?_⟩
  (repeat (refine Below.setCell ?_ (by first | exact Nat.le_refl _ | exact Nat.le_succ _ | (simp; done) | (simp; omega)) _))
  exact hW0.trans (hb8.mono hW0.size)

set_option maxRecDepth 100000 in
set_option maxHeartbeats 4000000 in
theorem rarith14_narrow (l : List Insn) (Ad : Option Addr) (c j : Nat) (x0 : Int) (d : Nat) (hd : d < 11) (im : Int) (hi0 : -2147483648 ≤ im) (hi1 : im ≤ 2147483647) (op : Int) (wd : Bool) (rs : List RV) (hrs : StOk rs) (ho : OpOk op) (h2 : ¬ op = 176) (hw : wd = false) (a : Int) (hau : U64 a) (ha : rs.getD d .no = .num a) (w : World) : Calls Tryz.prog 100 #[.agg (KL l Ad c j x0 d im op wd rs).toArray] w fun e w' => e = .returned (.tuple #[.agg #[.int .u8 1, .int .u64 (doM op false a (immU im)), .int .u64 0, .int .u64 (doM op false a (immU im)), .int .u64 (doM op false a (immU im)), .int .i64 0, .int .i64 0], .int .i64 0]) ∧ Below w.heap.size w w' := by
  subst hw
  have e2 : (op == 176) = false := by simpa using h2
  have e3 : (op == 128) = false := by rcases ho with rfl | rfl | rfl | rfl | rfl | rfl | rfl | rfl | rfl | rfl | rfl | rfl <;> decide
  clear h2
  have hr0 : U64 (immU im) := immU_u64 im
  have hdo := fun w => rfdo_any op ho false a (immU im) hau hr0 w
  have hu : U64 (doM op false a (immU im)) := u64_do ho hau hr0
  have hnm := fun w => rnum12_k (doM op false a (immU im)) hu w
  generalize doM op false a (immU im) = z at *
  have hKn := KL_len (l := l) (Ad := Ad) (c := c) (j := j) (x0 := x0) (d := d) (im := im) (op := op) (wd := false) hrs.len
  have hdst := fun w => rdst14V l Ad c j x0 d hd im hi0 hi1 op false rs hrs w
  have hsec := fun w => rsecond14V l Ad c j x0 d hd im hi0 hi1 op false rs hrs w
  generalize immU im = r at *
  have hfl := field41_0
  rw [ha] at hdst
  simp only [RV.cells, NumL] at hdst
  clear ha
  generalize hK : KL l Ad c j x0 d im op false rs = K at *
  have q0 : ((w.alloc (.cells K.toArray 158)).alloc (.cells #[.int .u8 0, .int .u64 0, .int .u64 0, .int .u64 0, .int .u64 0, .int .i64 0, .int .i64 0] 66)).heap[w.heap.size]? = some (.cells K.toArray 158) := heap2_0 _ _ _
  have k7 := boxc (k := 7) (u := .int .i16 0) q0 (by rw [← hK]; rfl)
  have k8 := boxc (k := 8) (u := .int .i32 im) q0 (by rw [← hK]; rfl)
  have k9 := boxc (k := 9) (u := .int .u8 1) q0 (by rw [← hK]; rfl)
  have k10 := boxc (k := 10) (u := .int .u8 op) q0 (by rw [← hK]; rfl)
  have k11 := boxc (k := 11) (u := .bool false) q0 (by rw [← hK]; rfl)
  have hRK : ∀ w', Below ((w.alloc (.cells K.toArray 158)).alloc (.cells #[.int .u8 0, .int .u64 0, .int .u64 0, .int .u64 0, .int .u64 0, .int .i64 0, .int .i64 0] 66)).heap.size ((w.alloc (.cells K.toArray 158)).alloc (.cells #[.int .u8 0, .int .u64 0, .int .u64 0, .int .u64 0, .int .u64 0, .int .i64 0, .int .i64 0] 66)) w' → w'.rangeAt w.heap.size 0 K := fun w' h k u hu => by rw [Nat.zero_add]; exact boxc q0 (by simpa using hu) w' h
  clear q0
  have q1 : ((w.alloc (.cells K.toArray 158)).alloc (.cells #[.int .u8 0, .int .u64 0, .int .u64 0, .int .u64 0, .int .u64 0, .int .i64 0, .int .i64 0] 66)).heap[(w.heap.size + 1)]? = some (.cells #[.int .u8 0, .int .u64 0, .int .u64 0, .int .u64 0, .int .u64 0, .int .i64 0, .int .i64 0] 66) := heap2_1 _ _ _
  have b0 := boxc (k := 0) (u := .int .u8 0) q1 rfl
  have b1 := boxc (k := 1) (u := .int .u64 0) q1 rfl
  have b2 := boxc (k := 2) (u := .int .u64 0) q1 rfl
  have b3 := boxc (k := 3) (u := .int .u64 0) q1 rfl
  have b4 := boxc (k := 4) (u := .int .u64 0) q1 rfl
  have b5 := boxc (k := 5) (u := .int .i64 0) q1 rfl
  have b6 := boxc (k := 6) (u := .int .i64 0) q1 rfl
  have t1 := boxt q1
  clear q1
  have hW0 : Below w.heap.size w ((w.alloc (.cells K.toArray 158)).alloc (.cells #[.int .u8 0, .int .u64 0, .int .u64 0, .int .u64 0, .int .u64 0, .int .i64 0, .int .i64 0] 66)) := below_boxes2 _ _ _
  have hrf := Below.refl ((w.alloc (.cells K.toArray 158)).alloc (.cells #[.int .u8 0, .int .u64 0, .int .u64 0, .int .u64 0, .int .u64 0, .int .i64 0, .int .i64 0] 66)).heap.size ((w.alloc (.cells K.toArray 158)).alloc (.cells #[.int .u8 0, .int .u64 0, .int .u64 0, .int .u64 0, .int .u64 0, .int .i64 0, .int .i64 0] 66))
  clear hK
  go_enter Tryz.func100, Tryz.ntmps100
  go_upto_region 1 with fail
  generalize (w.alloc (.cells K.toArray 158)).alloc (.cells #[.int .u8 0, .int .u64 0, .int .u64 0, .int .u64 0, .int .u64 0, .int .i64 0, .int .i64 0] 66) = W at *
  have hlK : ∀ w', Below W.heap.size W w' → (ldRow ⟨w.heap.size, 0, none⟩ 604).run Tryz.prog w' = .ok K.toArray w' := fun w' h => run_ldRow (hRK w' h) hKn
  clear hRK
  have HL := hlK _ hrf
  go_wp2_with fail
  refine (hdst _).mono ?_
  rintro e w1 ⟨rfl, hc1⟩
  have hb1 : Below W.heap.size W w1 := hc1
  clear hc1
  go_upto_region 2 with fail
  have q_p : (w1.alloc (.cells #[.int .u8 1, .int .u64 a, .int .u64 0, .int .u64 a, .int .u64 a, .int .i64 0, .int .i64 0] 66)).heap[w1.heap.size]? = some (.cells #[.int .u8 1, .int .u64 a, .int .u64 0, .int .u64 a, .int .u64 a, .int .i64 0, .int .i64 0] 66) := heap1_0 _ _
  have p0 := boxc (k := 0) (u := .int .u8 1) q_p rfl
  have p1 := boxc (k := 1) (u := .int .u64 a) q_p rfl
  have p2 := boxc (k := 2) (u := .int .u64 0) q_p rfl
  have p3 := boxc (k := 3) (u := .int .u64 a) q_p rfl
  have p4 := boxc (k := 4) (u := .int .u64 a) q_p rfl
  have p5 := boxc (k := 5) (u := .int .i64 0) q_p rfl
  have p6 := boxc (k := 6) (u := .int .i64 0) q_p rfl
  have pt := boxt q_p
  clear q_p
  have hb2 : Below W.heap.size W (w1.alloc (.cells #[.int .u8 1, .int .u64 a, .int .u64 0, .int .u64 a, .int .u64 a, .int .i64 0, .int .i64 0] 66)) := hb1.alloc hb1.size _
  have hp_ : Below w1.heap.size w1 (w1.alloc (.cells #[.int .u8 1, .int .u64 a, .int .u64 0, .int .u64 a, .int .u64 a, .int .i64 0, .int .i64 0] 66)) := (Below.refl _ _).alloc (Nat.le_refl _) _
  have hlp : w1.heap.size < (w1.alloc (.cells #[.int .u8 1, .int .u64 a, .int .u64 0, .int .u64 a, .int .u64 a, .int .i64 0, .int .i64 0] 66)).heap.size := by simp
  have hrp := Below.refl (w1.alloc (.cells #[.int .u8 1, .int .u64 a, .int .u64 0, .int .u64 a, .int .u64 a, .int .i64 0, .int .i64 0] 66)).heap.size (w1.alloc (.cells #[.int .u8 1, .int .u64 a, .int .u64 0, .int .u64 a, .int .u64 a, .int .i64 0, .int .i64 0] 66))
  generalize w1.alloc (.cells #[.int .u8 1, .int .u64 a, .int .u64 0, .int .u64 a, .int .u64 a, .int .i64 0, .int .i64 0] 66) = U at *
  have HL2 := hlK _ hb2
  clear HL
  go_wp2_with fail
  refine (hsec _).mono ?_
  rintro e w3 ⟨rfl, hc3⟩
  have hb3 := hb2.trans (hc3.mono hb2.size)
  have hU3 : Below U.heap.size U w3 := hc3
  clear hc3
  go_upto_region 3 with fail
  have q_y : (w3.alloc (.cells #[.int .u8 1, .int .u64 r, .int .u64 0, .int .u64 r, .int .u64 r, .int .i64 0, .int .i64 0] 66)).heap[w3.heap.size]? = some (.cells #[.int .u8 1, .int .u64 r, .int .u64 0, .int .u64 r, .int .u64 r, .int .i64 0, .int .i64 0] 66) := heap1_0 _ _
  have y0 := boxc (k := 0) (u := .int .u8 1) q_y rfl
  have y1 := boxc (k := 1) (u := .int .u64 r) q_y rfl
  have y2 := boxc (k := 2) (u := .int .u64 0) q_y rfl
  have y3 := boxc (k := 3) (u := .int .u64 r) q_y rfl
  have y4 := boxc (k := 4) (u := .int .u64 r) q_y rfl
  have y5 := boxc (k := 5) (u := .int .i64 0) q_y rfl
  have y6 := boxc (k := 6) (u := .int .i64 0) q_y rfl
  have yt := boxt q_y
  clear q_y
  have hb4 : Below W.heap.size W (w3.alloc (.cells #[.int .u8 1, .int .u64 r, .int .u64 0, .int .u64 r, .int .u64 r, .int .i64 0, .int .i64 0] 66)) := hb3.alloc hb3.size _
  have hy_ : Below w3.heap.size w3 (w3.alloc (.cells #[.int .u8 1, .int .u64 r, .int .u64 0, .int .u64 r, .int .u64 r, .int .i64 0, .int .i64 0] 66)) := (Below.refl _ _).alloc (Nat.le_refl _) _
  have hly : w3.heap.size < (w3.alloc (.cells #[.int .u8 1, .int .u64 r, .int .u64 0, .int .u64 r, .int .u64 r, .int .i64 0, .int .i64 0] 66)).heap.size := by simp
  have hry := Below.refl (w3.alloc (.cells #[.int .u8 1, .int .u64 r, .int .u64 0, .int .u64 r, .int .u64 r, .int .i64 0, .int .i64 0] 66)).heap.size (w3.alloc (.cells #[.int .u8 1, .int .u64 r, .int .u64 0, .int .u64 r, .int .u64 r, .int .i64 0, .int .i64 0] 66))
  generalize w3.alloc (.cells #[.int .u8 1, .int .u64 r, .int .u64 0, .int .u64 r, .int .u64 r, .int .i64 0, .int .i64 0] 66) = R at *
  have hU4 : Below U.heap.size U R := hU3.trans (hy_.mono hU3.size)
  clear HL2
  have hb4_ := hb4
  have hR4 := hry
  go_wp2_with fail
  refine (rnum14 a _).mono ?_
  rintro e w5 ⟨rfl, hx5⟩
  have hb5 := hb4.trans (hx5.mono hb4.size)
  have hU5 := hU4.trans (hx5.mono hU4.size)
  have hR5 := hR4.trans (hx5.mono hR4.size)
  clear hx5
  go_wp2_with fail
  refine (rnum14 r _).mono ?_
  rintro e w6 ⟨rfl, hx6⟩
  have hb6 := hb5.trans (hx6.mono hb5.size)
  have hU6 := hU5.trans (hx6.mono hU5.size)
  have hR6 := hR5.trans (hx6.mono hR5.size)
  clear hx6
  go_wp2_with fail
  refine (hdo _).mono ?_
  rintro e w7 ⟨rfl, hx7⟩
  have hb7 := hb6.trans (hx7.mono hb6.size)
  have hU7 := hU6.trans (hx7.mono hU6.size)
  have hR7 := hR6.trans (hx7.mono hR6.size)
  clear hx7
  go_wp2_with fail
  refine (hnm _).mono ?_
  rintro e w8 ⟨rfl, hx⟩
  have hb8 : Below W.heap.size W w8 := (hb7.alloc hb7.size _).trans (hx.mono (Nat.le_trans hb7.size (by simp)))
  clear hx
  have z0 := b0 _ hb8
  have z1 := b1 _ hb8
  have z2 := b2 _ hb8
  have z3 := b3 _ hb8
  have z4 := b4 _ hb8
  have z5 := b5 _ hb8
  have z6 := b6 _ hb8
  go_wp2_with fail
  refine bodyPost_ret (v := .tuple #[.agg #[.int .u8 1, .int .u64 z, .int .u64 0, .int .u64 z, .int .u64 z, .int .i64 0, .int .i64 0], .int .i64 0]) (by simp [results, Tryz.results100, go_sem, *]) rfl ⟨rfl, ?_⟩
  (repeat (refine Below.setCell ?_ (by first | exact Nat.le_refl _ | exact Nat.le_succ _ | (simp; done) | (simp; omega)) _))
  exact hW0.trans (hb8.mono hW0.size)

set_option maxRecDepth 100000 in
set_option maxHeartbeats 4000000 in
theorem rarith14_movn (l : List Insn) (Ad : Option Addr) (c j : Nat) (x0 : Int) (d : Nat) (hd : d < 11) (im : Int) (hi0 : -2147483648 ≤ im) (hi1 : im ≤ 2147483647) (op : Int) (wd : Bool) (rs : List RV) (hrs : StOk rs) (h : op = 176) (hw : wd = false) (a : Int) (ha : rs.getD d .no = .num a) (w : World) : Calls Tryz.prog 100 #[.agg (KL l Ad c j x0 d im op wd rs).toArray] w fun e w' => e = .returned (.tuple #[.agg #[.int .u8 1, .int .u64 (doM 176 false a (immU im)), .int .u64 0, .int .u64 (doM 176 false a (immU im)), .int .u64 (doM 176 false a (immU im)), .int .i64 0, .int .i64 0], .int .i64 0]) ∧ Below w.heap.size w w' := by
  subst h hw
  have hr0 : U64 (immU im) := immU_u64 im
  have ho : OpOk 176 := by unfold OpOk; simp
  have he : doM 176 false a (immU im) = doM 176 false 0 (immU im) := by rw [doN_mov, doN_mov]
  rw [he]
  clear he
  have hdo := fun w => rfdo_any 176 ho false 0 (immU im) u64_z hr0 w
  have hu : U64 (doM 176 false 0 (immU im)) := u64_do ho u64_z hr0
  have hnm := fun w => rnum12_k (doM 176 false 0 (immU im)) hu w
  generalize doM 176 false 0 (immU im) = z at *
  have hKn := KL_len (l := l) (Ad := Ad) (c := c) (j := j) (x0 := x0) (d := d) (im := im) (op := 176) (wd := false) hrs.len
  have hdst := fun w => rdst14V l Ad c j x0 d hd im hi0 hi1 176 false rs hrs w
  have hsec := fun w => rsecond14V l Ad c j x0 d hd im hi0 hi1 176 false rs hrs w
  generalize immU im = r at *
  have hfl := field41_0
  rw [ha] at hdst
  simp only [RV.cells, NumL] at hdst
  clear ha
  generalize hK : KL l Ad c j x0 d im 176 false rs = K at *
  have q0 : ((w.alloc (.cells K.toArray 158)).alloc (.cells #[.int .u8 0, .int .u64 0, .int .u64 0, .int .u64 0, .int .u64 0, .int .i64 0, .int .i64 0] 66)).heap[w.heap.size]? = some (.cells K.toArray 158) := heap2_0 _ _ _
  have k7 := boxc (k := 7) (u := .int .i16 0) q0 (by rw [← hK]; rfl)
  have k8 := boxc (k := 8) (u := .int .i32 im) q0 (by rw [← hK]; rfl)
  have k9 := boxc (k := 9) (u := .int .u8 1) q0 (by rw [← hK]; rfl)
  have k10 := boxc (k := 10) (u := .int .u8 176) q0 (by rw [← hK]; rfl)
  have k11 := boxc (k := 11) (u := .bool false) q0 (by rw [← hK]; rfl)
  have hRK : ∀ w', Below ((w.alloc (.cells K.toArray 158)).alloc (.cells #[.int .u8 0, .int .u64 0, .int .u64 0, .int .u64 0, .int .u64 0, .int .i64 0, .int .i64 0] 66)).heap.size ((w.alloc (.cells K.toArray 158)).alloc (.cells #[.int .u8 0, .int .u64 0, .int .u64 0, .int .u64 0, .int .u64 0, .int .i64 0, .int .i64 0] 66)) w' → w'.rangeAt w.heap.size 0 K := fun w' h k u hu => by rw [Nat.zero_add]; exact boxc q0 (by simpa using hu) w' h
  clear q0
  have q1 : ((w.alloc (.cells K.toArray 158)).alloc (.cells #[.int .u8 0, .int .u64 0, .int .u64 0, .int .u64 0, .int .u64 0, .int .i64 0, .int .i64 0] 66)).heap[(w.heap.size + 1)]? = some (.cells #[.int .u8 0, .int .u64 0, .int .u64 0, .int .u64 0, .int .u64 0, .int .i64 0, .int .i64 0] 66) := heap2_1 _ _ _
  have b0 := boxc (k := 0) (u := .int .u8 0) q1 rfl
  have b1 := boxc (k := 1) (u := .int .u64 0) q1 rfl
  have b2 := boxc (k := 2) (u := .int .u64 0) q1 rfl
  have b3 := boxc (k := 3) (u := .int .u64 0) q1 rfl
  have b4 := boxc (k := 4) (u := .int .u64 0) q1 rfl
  have b5 := boxc (k := 5) (u := .int .i64 0) q1 rfl
  have b6 := boxc (k := 6) (u := .int .i64 0) q1 rfl
  have t1 := boxt q1
  clear q1
  have hW0 : Below w.heap.size w ((w.alloc (.cells K.toArray 158)).alloc (.cells #[.int .u8 0, .int .u64 0, .int .u64 0, .int .u64 0, .int .u64 0, .int .i64 0, .int .i64 0] 66)) := below_boxes2 _ _ _
  have hrf := Below.refl ((w.alloc (.cells K.toArray 158)).alloc (.cells #[.int .u8 0, .int .u64 0, .int .u64 0, .int .u64 0, .int .u64 0, .int .i64 0, .int .i64 0] 66)).heap.size ((w.alloc (.cells K.toArray 158)).alloc (.cells #[.int .u8 0, .int .u64 0, .int .u64 0, .int .u64 0, .int .u64 0, .int .i64 0, .int .i64 0] 66))
  clear hK
  go_enter Tryz.func100, Tryz.ntmps100
  go_upto_region 1 with fail
  generalize (w.alloc (.cells K.toArray 158)).alloc (.cells #[.int .u8 0, .int .u64 0, .int .u64 0, .int .u64 0, .int .u64 0, .int .i64 0, .int .i64 0] 66) = W at *
  have hlK : ∀ w', Below W.heap.size W w' → (ldRow ⟨w.heap.size, 0, none⟩ 604).run Tryz.prog w' = .ok K.toArray w' := fun w' h => run_ldRow (hRK w' h) hKn
  clear hRK
  have HL := hlK _ hrf
  go_wp2_with fail
  refine (hdst _).mono ?_
  rintro e w1 ⟨rfl, hc1⟩
  have hb1 : Below W.heap.size W w1 := hc1
  clear hc1
  go_upto_region 2 with fail
  have q_p : (w1.alloc (.cells #[.int .u8 1, .int .u64 a, .int .u64 0, .int .u64 a, .int .u64 a, .int .i64 0, .int .i64 0] 66)).heap[w1.heap.size]? = some (.cells #[.int .u8 1, .int .u64 a, .int .u64 0, .int .u64 a, .int .u64 a, .int .i64 0, .int .i64 0] 66) := heap1_0 _ _
  have p0 := boxc (k := 0) (u := .int .u8 1) q_p rfl
  have p1 := boxc (k := 1) (u := .int .u64 a) q_p rfl
  have p2 := boxc (k := 2) (u := .int .u64 0) q_p rfl
  have p3 := boxc (k := 3) (u := .int .u64 a) q_p rfl
  have p4 := boxc (k := 4) (u := .int .u64 a) q_p rfl
  have p5 := boxc (k := 5) (u := .int .i64 0) q_p rfl
  have p6 := boxc (k := 6) (u := .int .i64 0) q_p rfl
  have pt := boxt q_p
  clear q_p
  have hb2 : Below W.heap.size W (w1.alloc (.cells #[.int .u8 1, .int .u64 a, .int .u64 0, .int .u64 a, .int .u64 a, .int .i64 0, .int .i64 0] 66)) := hb1.alloc hb1.size _
  have hp_ : Below w1.heap.size w1 (w1.alloc (.cells #[.int .u8 1, .int .u64 a, .int .u64 0, .int .u64 a, .int .u64 a, .int .i64 0, .int .i64 0] 66)) := (Below.refl _ _).alloc (Nat.le_refl _) _
  have hlp : w1.heap.size < (w1.alloc (.cells #[.int .u8 1, .int .u64 a, .int .u64 0, .int .u64 a, .int .u64 a, .int .i64 0, .int .i64 0] 66)).heap.size := by simp
  have hrp := Below.refl (w1.alloc (.cells #[.int .u8 1, .int .u64 a, .int .u64 0, .int .u64 a, .int .u64 a, .int .i64 0, .int .i64 0] 66)).heap.size (w1.alloc (.cells #[.int .u8 1, .int .u64 a, .int .u64 0, .int .u64 a, .int .u64 a, .int .i64 0, .int .i64 0] 66))
  generalize w1.alloc (.cells #[.int .u8 1, .int .u64 a, .int .u64 0, .int .u64 a, .int .u64 a, .int .i64 0, .int .i64 0] 66) = U at *
  have HL2 := hlK _ hb2
  clear HL
  go_wp2_with fail
  refine (hsec _).mono ?_
  rintro e w3 ⟨rfl, hc3⟩
  have hb3 := hb2.trans (hc3.mono hb2.size)
  have hU3 : Below U.heap.size U w3 := hc3
  clear hc3
  go_upto_region 3 with fail
  have q_y : (w3.alloc (.cells #[.int .u8 1, .int .u64 r, .int .u64 0, .int .u64 r, .int .u64 r, .int .i64 0, .int .i64 0] 66)).heap[w3.heap.size]? = some (.cells #[.int .u8 1, .int .u64 r, .int .u64 0, .int .u64 r, .int .u64 r, .int .i64 0, .int .i64 0] 66) := heap1_0 _ _
  have y0 := boxc (k := 0) (u := .int .u8 1) q_y rfl
  have y1 := boxc (k := 1) (u := .int .u64 r) q_y rfl
  have y2 := boxc (k := 2) (u := .int .u64 0) q_y rfl
  have y3 := boxc (k := 3) (u := .int .u64 r) q_y rfl
  have y4 := boxc (k := 4) (u := .int .u64 r) q_y rfl
  have y5 := boxc (k := 5) (u := .int .i64 0) q_y rfl
  have y6 := boxc (k := 6) (u := .int .i64 0) q_y rfl
  have yt := boxt q_y
  clear q_y
  have hb4 : Below W.heap.size W (w3.alloc (.cells #[.int .u8 1, .int .u64 r, .int .u64 0, .int .u64 r, .int .u64 r, .int .i64 0, .int .i64 0] 66)) := hb3.alloc hb3.size _
  have hy_ : Below w3.heap.size w3 (w3.alloc (.cells #[.int .u8 1, .int .u64 r, .int .u64 0, .int .u64 r, .int .u64 r, .int .i64 0, .int .i64 0] 66)) := (Below.refl _ _).alloc (Nat.le_refl _) _
  have hly : w3.heap.size < (w3.alloc (.cells #[.int .u8 1, .int .u64 r, .int .u64 0, .int .u64 r, .int .u64 r, .int .i64 0, .int .i64 0] 66)).heap.size := by simp
  have hry := Below.refl (w3.alloc (.cells #[.int .u8 1, .int .u64 r, .int .u64 0, .int .u64 r, .int .u64 r, .int .i64 0, .int .i64 0] 66)).heap.size (w3.alloc (.cells #[.int .u8 1, .int .u64 r, .int .u64 0, .int .u64 r, .int .u64 r, .int .i64 0, .int .i64 0] 66))
  generalize w3.alloc (.cells #[.int .u8 1, .int .u64 r, .int .u64 0, .int .u64 r, .int .u64 r, .int .i64 0, .int .i64 0] 66) = R at *
  have hU4 : Below U.heap.size U R := hU3.trans (hy_.mono hU3.size)
  clear HL2
  go_wp2_with fail
  refine (rknown14 0 u64_z _).mono ?_
  rintro e w5 ⟨rfl, hx5⟩
  have hb5 := hb4.trans (hx5.mono hb4.size)
  have hU5 := hU4.trans (hx5.mono hU4.size)
  have hR5 := hry.trans (hx5.mono hry.size)
  clear hx5
  have P0 := p0 _ hU5
  have P1 := p1 _ hU5
  have P2 := p2 _ hU5
  have P3 := p3 _ hU5
  have P4 := p4 _ hU5
  have P5 := p5 _ hU5
  have P6 := p6 _ hU5
  have PT := fun k => pt k _ hU5
  have hXr : World.rangeAt (((((((w5.setCell ⟨w1.heap.size, 0, none⟩ (.int .u8 1)).setCell ⟨w1.heap.size, 1, none⟩ (.int .u64 0)).setCell ⟨w1.heap.size, 2, none⟩ (.int .u64 0)).setCell ⟨w1.heap.size, 3, none⟩ (.int .u64 0)).setCell ⟨w1.heap.size, 4, none⟩ (.int .u64 0)).setCell ⟨w1.heap.size, 5, none⟩ (.int .i64 0)).setCell ⟨w1.heap.size, 6, none⟩ (.int .i64 0)) w1.heap.size 0 [.int .u8 1, .int .u64 0, .int .u64 0, .int .u64 0, .int .u64 0, .int .i64 0, .int .i64 0] := World.rangeAt_setCells_same w5 w1.heap.size 0 [.int .u8 1, .int .u64 0, .int .u64 0, .int .u64 0, .int .u64 0, .int .i64 0, .int .i64 0] (fun k hk => ⟨by rcases seven (show k < 7 by simpa using hk) with rfl | rfl | rfl | rfl | rfl | rfl | rfl <;> simp [P0, P1, P2, P3, P4, P5, P6], PT _⟩)
  have hYr : World.rangeAt (((((((w5.setCell ⟨w1.heap.size, 0, none⟩ (.int .u8 1)).setCell ⟨w1.heap.size, 1, none⟩ (.int .u64 0)).setCell ⟨w1.heap.size, 2, none⟩ (.int .u64 0)).setCell ⟨w1.heap.size, 3, none⟩ (.int .u64 0)).setCell ⟨w1.heap.size, 4, none⟩ (.int .u64 0)).setCell ⟨w1.heap.size, 5, none⟩ (.int .i64 0)).setCell ⟨w1.heap.size, 6, none⟩ (.int .i64 0)) w3.heap.size 0 [.int .u8 1, .int .u64 r, .int .u64 0, .int .u64 r, .int .u64 r, .int .i64 0, .int .i64 0] := World.rangeAt_setCells_apart (w := w5) (fun k u hu => by rw [Nat.zero_add]; rcases seven (show k < 7 by have := (List.getElem?_eq_some_iff.1 hu).1; simpa using this) with rfl | rfl | rfl | rfl | rfl | rfl | rfl <;> (simp only [List.getElem?_cons_zero, List.getElem?_cons_succ, Option.some.injEq] at hu; subst hu; first | exact y0 _ hR5 | exact y1 _ hR5 | exact y2 _ hR5 | exact y3 _ hR5 | exact y4 _ hR5 | exact y5 _ hR5 | exact y6 _ hR5)) w1.heap.size 0 [.int .u8 1, .int .u64 0, .int .u64 0, .int .u64 0, .int .u64 0, .int .i64 0, .int .i64 0] (.inl (by have := hU3.size; have := hlp; omega))
  have hbX : Below W.heap.size W (((((((w5.setCell ⟨w1.heap.size, 0, none⟩ (.int .u8 1)).setCell ⟨w1.heap.size, 1, none⟩ (.int .u64 0)).setCell ⟨w1.heap.size, 2, none⟩ (.int .u64 0)).setCell ⟨w1.heap.size, 3, none⟩ (.int .u64 0)).setCell ⟨w1.heap.size, 4, none⟩ (.int .u64 0)).setCell ⟨w1.heap.size, 5, none⟩ (.int .i64 0)).setCell ⟨w1.heap.size, 6, none⟩ (.int .i64 0)) := below_setCells w1.heap.size hb1.size [.int .u8 1, .int .u64 0, .int .u64 0, .int .u64 0, .int .u64 0, .int .i64 0, .int .i64 0] 0 hb5
  have hXs : (World.heap (((((((w5.setCell ⟨w1.heap.size, 0, none⟩ (.int .u8 1)).setCell ⟨w1.heap.size, 1, none⟩ (.int .u64 0)).setCell ⟨w1.heap.size, 2, none⟩ (.int .u64 0)).setCell ⟨w1.heap.size, 3, none⟩ (.int .u64 0)).setCell ⟨w1.heap.size, 4, none⟩ (.int .u64 0)).setCell ⟨w1.heap.size, 5, none⟩ (.int .i64 0)).setCell ⟨w1.heap.size, 6, none⟩ (.int .i64 0))).size = w5.heap.size := size_put w5 w1.heap.size 0 [.int .u8 1, .int .u64 0, .int .u64 0, .int .u64 0, .int .u64 0, .int .i64 0, .int .i64 0]
  go_upto_region 17 with fail
  generalize ((((((w5.setCell ⟨w1.heap.size, 0, none⟩ (.int .u8 1)).setCell ⟨w1.heap.size, 1, none⟩ (.int .u64 0)).setCell ⟨w1.heap.size, 2, none⟩ (.int .u64 0)).setCell ⟨w1.heap.size, 3, none⟩ (.int .u64 0)).setCell ⟨w1.heap.size, 4, none⟩ (.int .u64 0)).setCell ⟨w1.heap.size, 5, none⟩ (.int .i64 0)).setCell ⟨w1.heap.size, 6, none⟩ (.int .i64 0) = X at *
  have hx1 : w1.heap.size < X.heap.size := by have := hU5.size; have := hlp; omega
  have hx3 : w3.heap.size < X.heap.size := by have := hR5.size; have := hly; omega
  have G0 : ∀ w', Below X.heap.size X w' → w'.cell? ⟨w1.heap.size, 0, none⟩ = some (.int .u8 1) := fun w' h => by have := (range_below hXr h hx1) 0 _ rfl; rwa [Nat.zero_add] at this
  have G1 : ∀ w', Below X.heap.size X w' → w'.cell? ⟨w1.heap.size, 1, none⟩ = some (.int .u64 0) := fun w' h => by have := (range_below hXr h hx1) 1 _ rfl; rwa [Nat.zero_add] at this
  have G2 : ∀ w', Below X.heap.size X w' → w'.cell? ⟨w1.heap.size, 2, none⟩ = some (.int .u64 0) := fun w' h => by have := (range_below hXr h hx1) 2 _ rfl; rwa [Nat.zero_add] at this
  have G3 : ∀ w', Below X.heap.size X w' → w'.cell? ⟨w1.heap.size, 3, none⟩ = some (.int .u64 0) := fun w' h => by have := (range_below hXr h hx1) 3 _ rfl; rwa [Nat.zero_add] at this
  have G4 : ∀ w', Below X.heap.size X w' → w'.cell? ⟨w1.heap.size, 4, none⟩ = some (.int .u64 0) := fun w' h => by have := (range_below hXr h hx1) 4 _ rfl; rwa [Nat.zero_add] at this
  have G5 : ∀ w', Below X.heap.size X w' → w'.cell? ⟨w1.heap.size, 5, none⟩ = some (.int .i64 0) := fun w' h => by have := (range_below hXr h hx1) 5 _ rfl; rwa [Nat.zero_add] at this
  have G6 : ∀ w', Below X.heap.size X w' → w'.cell? ⟨w1.heap.size, 6, none⟩ = some (.int .i64 0) := fun w' h => by have := (range_below hXr h hx1) 6 _ rfl; rwa [Nat.zero_add] at this
  have H0 : ∀ w', Below X.heap.size X w' → w'.cell? ⟨w3.heap.size, 0, none⟩ = some (.int .u8 1) := fun w' h => by have := (range_below hYr h hx3) 0 _ rfl; rwa [Nat.zero_add] at this
  have H1 : ∀ w', Below X.heap.size X w' → w'.cell? ⟨w3.heap.size, 1, none⟩ = some (.int .u64 r) := fun w' h => by have := (range_below hYr h hx3) 1 _ rfl; rwa [Nat.zero_add] at this
  have H2 : ∀ w', Below X.heap.size X w' → w'.cell? ⟨w3.heap.size, 2, none⟩ = some (.int .u64 0) := fun w' h => by have := (range_below hYr h hx3) 2 _ rfl; rwa [Nat.zero_add] at this
  have H3 : ∀ w', Below X.heap.size X w' → w'.cell? ⟨w3.heap.size, 3, none⟩ = some (.int .u64 r) := fun w' h => by have := (range_below hYr h hx3) 3 _ rfl; rwa [Nat.zero_add] at this
  have H4 : ∀ w', Below X.heap.size X w' → w'.cell? ⟨w3.heap.size, 4, none⟩ = some (.int .u64 r) := fun w' h => by have := (range_below hYr h hx3) 4 _ rfl; rwa [Nat.zero_add] at this
  have H5 : ∀ w', Below X.heap.size X w' → w'.cell? ⟨w3.heap.size, 5, none⟩ = some (.int .i64 0) := fun w' h => by have := (range_below hYr h hx3) 5 _ rfl; rwa [Nat.zero_add] at this
  have H6 : ∀ w', Below X.heap.size X w' → w'.cell? ⟨w3.heap.size, 6, none⟩ = some (.int .i64 0) := fun w' h => by have := (range_below hYr h hx3) 6 _ rfl; rwa [Nat.zero_add] at this
  clear hXs hXr hYr P0 p0 y0 P1 p1 y1 P2 p2 y2 P3 p3 y3 P4 p4 y4 P5 p5 y5 P6 p6 y6 PT pt yt hry hU5 hR5 hU4
  have hU5 := Below.refl X.heap.size X
  have hb5 := hbX
  go_wp2_with fail
  refine (rnum14 0 _).mono ?_
  rintro e w6 ⟨rfl, hx6⟩
  have hb6 := hb5.trans (hx6.mono hb5.size)
  have hU6 := hU5.trans (hx6.mono hU5.size)
  clear hx6
  go_wp2_with fail
  refine (rnum14 r _).mono ?_
  rintro e w7 ⟨rfl, hx7⟩
  have hb7 := hb6.trans (hx7.mono hb6.size)
  have hU7 := hU6.trans (hx7.mono hU6.size)
  clear hx7
  go_wp2_with fail
  refine (hdo _).mono ?_
  rintro e w8 ⟨rfl, hx8⟩
  have hb8 := hb7.trans (hx8.mono hb7.size)
  have hU8 := hU7.trans (hx8.mono hU7.size)
  clear hx8
  go_wp2_with fail
  refine (hnm _).mono ?_
  rintro e w9 ⟨rfl, hx⟩
  have hb9 : Below W.heap.size W w9 := (hb8.alloc hb8.size _).trans (hx.mono (Nat.le_trans hb8.size (by simp)))
  clear hx
  have z0 := b0 _ hb9
  have z1 := b1 _ hb9
  have z2 := b2 _ hb9
  have z3 := b3 _ hb9
  have z4 := b4 _ hb9
  have z5 := b5 _ hb9
  have z6 := b6 _ hb9
  go_wp2_with fail
  refine bodyPost_ret (v := .tuple #[.agg #[.int .u8 1, .int .u64 z, .int .u64 0, .int .u64 z, .int .u64 z, .int .i64 0, .int .i64 0], .int .i64 0]) (by simp [results, Tryz.results100, go_sem, *]) rfl ⟨rfl, ?_⟩
  (repeat (refine Below.setCell ?_ (by first | exact Nat.le_refl _ | exact Nat.le_succ _ | (simp; done) | (simp; omega)) _))
  exact hW0.trans (hb9.mono hW0.size)

end
section
attribute [local go_sem ↓] ldFrom_589 ldFrom_604 mkS89_eq mkW94_eq mkW108_eq
theorem RV.seven (v : RV) : ∃ u0 u1 u2 u3 u4 u5 u6, v.cells = [u0, u1, u2, u3, u4, u5, u6] := by
  cases v <;> exact ⟨_, _, _, _, _, _, _, rfl⟩
theorem KL_split {l : List Insn} {Ad : Option Addr} {c j : Nat} {x0 : Int} {d : Nat} {im op : Int} {wd : Bool} {rs : List RV} (v : RV) (hd : d < rs.length) : ∃ A C, KL l Ad c j x0 d im op wd rs = A ++ ((rs.getD d .no).cells ++ C) ∧ A.length = 15 + d * 7 ∧ KL l Ad c j x0 d im op wd (rs.set d v) = A ++ (v.cells ++ C) := by
  obtain ⟨A, C, h1, h2, h3⟩ := stV_split (rs := rs) (d := d) v hd
  refine ⟨[.slice Ad l.length c, .slice none 0 0, .int .i64 0, .int .i64 j, .int .u8 x0, .int .u8 d, .int .u8 0, .int .i16 0, .int .i32 im, .int .u8 1, .int .u8 op, .bool wd, .bool false, .bool false, .int .i64 0] ++ A, C, ?_, ?_, ?_⟩
  · rw [KL, h1, List.append_assoc]
  · simp [h2]; omega
  · rw [KL, h3, List.append_assoc]

set_option maxRecDepth 100000 in
set_option maxHeartbeats 4000000 in
theorem rbecomes14V (l : List Insn) (Ad : Option Addr) (c j : Nat) (x0 : Int) (d : Nat) (hd : d < 11) (im : Int) (hi0 : -2147483648 ≤ im) (hi1 : im ≤ 2147483647) (op : Int) (wd : Bool) (rs : List RV) (hrs : StOk rs) (n : Int) (hn : l.length ≤ 100000) (hj : j < l.length) (w : World) (hat : SAt w w.heap.size 5 Ad l.length (insnsV l)) :
    Calls Tryz.prog 99 #[.agg (KL l Ad c j x0 d im op wd rs).toArray, .agg #[.int .u8 1, .int .u64 n, .int .u64 0, .int .u64 n, .int .u64 n, .int .i64 0, .int .i64 0], .int .i64 0] w fun e w' => ∃ b, e = .returned (.tuple #[.slice (some ⟨b, 0, none⟩) 1 1, .int .i64 0]) ∧ w.heap.size ≤ b ∧ w'.rangeAt b 0 (.int .i64 (stepN l j : Nat) :: stV (rs.set d (.num n))) ∧ Below w.heap.size w w' := by
  have hl11 : d < rs.length := by rw [hrs.len]; exact hd
  have hKn := KL_len (l := l) (Ad := Ad) (c := c) (j := j) (x0 := x0) (d := d) (im := im) (op := op) (wd := wd) hrs.len
  have hst : StOk (rs.set d (.num n)) → True := fun _ => trivial
  clear hst
  have hlen2 : (rs.set d (.num n)).length = 11 := by rw [List.length_set]; exact hrs.len
  have hon := fun (w' : World) (hb : Below w.heap.size w w') => ron14 l Ad c j hn hj (KL l Ad c j x0 d im op wd (rs.set d (.num n))) (stV (rs.set d (.num n))) rfl rfl (stV_len hlen2) w' ((hat.below hb).more hb.size)
  obtain ⟨A, C, hA1, hA2, hA3⟩ := KL_split (l := l) (Ad := Ad) (c := c) (j := j) (x0 := x0) (d := d) (im := im) (op := op) (wd := wd) (rs := rs) (.num n) hl11
  have hK2n := KL_len (l := l) (Ad := Ad) (c := c) (j := j) (x0 := x0) (d := d) (im := im) (op := op) (wd := wd) (rs := rs.set d (.num n)) hlen2
  have hSn := stV_len hlen2
  have hdrop : KL l Ad c j x0 d im op wd (rs.set d (.num n)) = [.slice Ad l.length c, .slice none 0 0, .int .i64 0, .int .i64 j, .int .u8 x0, .int .u8 d, .int .u8 0, .int .i16 0, .int .i32 im, .int .u8 1, .int .u8 op, .bool wd, .bool false, .bool false, .int .i64 0] ++ stV (rs.set d (.num n)) := rfl
  obtain ⟨u0, u1, u2, u3, u4, u5, u6, hu⟩ := RV.seven (rs.getD d .no)
  rw [hu] at hA1
  clear hu
  generalize hK : KL l Ad c j x0 d im op wd rs = K at *
  have q0 : ((w.alloc (.cells K.toArray 158)).alloc (.cells #[.int .u8 1, .int .u64 n, .int .u64 0, .int .u64 n, .int .u64 n, .int .i64 0, .int .i64 0] 66)).heap[w.heap.size]? = some (.cells K.toArray 158) := heap2_0 _ _ _
  have k5 := boxc (k := 5) (u := .int .u8 d) q0 (by rw [← hK]; rfl)
  have z0 := boxc (k := 15 + d * 7) (u := u0) q0 (by rw [hA1]; simp only [List.getElem?_toArray]; rw [List.getElem?_append_right (by omega), hA2, show 15 + d * 7 - (15 + d * 7) = 0 by omega]; rfl)
  have z1 := boxc (k := 15 + d * 7 + 1) (u := u1) q0 (by rw [hA1]; simp only [List.getElem?_toArray]; rw [List.getElem?_append_right (by omega), hA2, show 15 + d * 7 + 1 - (15 + d * 7) = 1 by omega]; rfl)
  have z2 := boxc (k := 15 + d * 7 + 2) (u := u2) q0 (by rw [hA1]; simp only [List.getElem?_toArray]; rw [List.getElem?_append_right (by omega), hA2, show 15 + d * 7 + 2 - (15 + d * 7) = 2 by omega]; rfl)
  have z3 := boxc (k := 15 + d * 7 + 3) (u := u3) q0 (by rw [hA1]; simp only [List.getElem?_toArray]; rw [List.getElem?_append_right (by omega), hA2, show 15 + d * 7 + 3 - (15 + d * 7) = 3 by omega]; rfl)
  have z4 := boxc (k := 15 + d * 7 + 4) (u := u4) q0 (by rw [hA1]; simp only [List.getElem?_toArray]; rw [List.getElem?_append_right (by omega), hA2, show 15 + d * 7 + 4 - (15 + d * 7) = 4 by omega]; rfl)
  have z5 := boxc (k := 15 + d * 7 + 5) (u := u5) q0 (by rw [hA1]; simp only [List.getElem?_toArray]; rw [List.getElem?_append_right (by omega), hA2, show 15 + d * 7 + 5 - (15 + d * 7) = 5 by omega]; rfl)
  have z6 := boxc (k := 15 + d * 7 + 6) (u := u6) q0 (by rw [hA1]; simp only [List.getElem?_toArray]; rw [List.getElem?_append_right (by omega), hA2, show 15 + d * 7 + 6 - (15 + d * 7) = 6 by omega]; rfl)
  have hRK : ∀ w', Below ((w.alloc (.cells K.toArray 158)).alloc (.cells #[.int .u8 1, .int .u64 n, .int .u64 0, .int .u64 n, .int .u64 n, .int .i64 0, .int .i64 0] 66)).heap.size ((w.alloc (.cells K.toArray 158)).alloc (.cells #[.int .u8 1, .int .u64 n, .int .u64 0, .int .u64 n, .int .u64 n, .int .i64 0, .int .i64 0] 66)) w' → w'.rangeAt w.heap.size 0 K := fun w' h k u hu => by rw [Nat.zero_add]; exact boxc q0 (by simpa using hu) w' h
  have tK := boxt q0
  clear q0
  have q1 : ((w.alloc (.cells K.toArray 158)).alloc (.cells #[.int .u8 1, .int .u64 n, .int .u64 0, .int .u64 n, .int .u64 n, .int .i64 0, .int .i64 0] 66)).heap[(w.heap.size + 1)]? = some (.cells #[.int .u8 1, .int .u64 n, .int .u64 0, .int .u64 n, .int .u64 n, .int .i64 0, .int .i64 0] 66) := heap2_1 _ _ _
  have b0 := boxc (k := 0) (u := .int .u8 1) q1 rfl
  have b1 := boxc (k := 1) (u := .int .u64 n) q1 rfl
  have b2 := boxc (k := 2) (u := .int .u64 0) q1 rfl
  have b3 := boxc (k := 3) (u := .int .u64 n) q1 rfl
  have b4 := boxc (k := 4) (u := .int .u64 n) q1 rfl
  have b5 := boxc (k := 5) (u := .int .i64 0) q1 rfl
  have b6 := boxc (k := 6) (u := .int .i64 0) q1 rfl
  clear q1
  have hW0 : Below w.heap.size w ((w.alloc (.cells K.toArray 158)).alloc (.cells #[.int .u8 1, .int .u64 n, .int .u64 0, .int .u64 n, .int .u64 n, .int .i64 0, .int .i64 0] 66)) := below_boxes2 _ _ _
  have hrf := Below.refl ((w.alloc (.cells K.toArray 158)).alloc (.cells #[.int .u8 1, .int .u64 n, .int .u64 0, .int .u64 n, .int .u64 n, .int .i64 0, .int .i64 0] 66)).heap.size ((w.alloc (.cells K.toArray 158)).alloc (.cells #[.int .u8 1, .int .u64 n, .int .u64 0, .int .u64 n, .int .u64 n, .int .i64 0, .int .i64 0] 66))
  have hdi : (d : Int) < 11 := by omega
  have HA1 := Lib.hid hA1
  have HA2 := Lib.hid hA2
  have HA3 := Lib.hid hA3
  have HD := Lib.hid hdrop
  have HK2 := Lib.hid hK2n
  have HSN := Lib.hid hSn
  clear hK hA1 hA2 hA3 hdrop hK2n hSn hlen2 hl11
  generalize KL l Ad c j x0 d im op wd (rs.set d (.num n)) = K2 at *
  generalize stV (rs.set d (.num n)) = S2 at *
  go_enter Tryz.func99, Tryz.ntmps99
  go_upto_region 1 with fail
  generalize (w.alloc (.cells K.toArray 158)).alloc (.cells #[.int .u8 1, .int .u64 n, .int .u64 0, .int .u64 n, .int .u64 n, .int .i64 0, .int .i64 0] 66) = W at *
  have Z0 := z0 _ hrf
  have Z1 := z1 _ hrf
  have Z2 := z2 _ hrf
  have Z3 := z3 _ hrf
  have Z4 := z4 _ hrf
  have Z5 := z5 _ hrf
  have Z6 := z6 _ hrf
  have TK := fun k => tK k _ hrf
  go_upto_region 4 with fail
  have hV : Below w.heap.size w ((((((((W).setCell ⟨w.heap.size, 15 + d * 7, none⟩ (.int .u8 1)).setCell ⟨w.heap.size, 15 + d * 7 + 1, none⟩ (.int .u64 n)).setCell ⟨w.heap.size, 15 + d * 7 + 2, none⟩ (.int .u64 0)).setCell ⟨w.heap.size, 15 + d * 7 + 3, none⟩ (.int .u64 n)).setCell ⟨w.heap.size, 15 + d * 7 + 4, none⟩ (.int .u64 n)).setCell ⟨w.heap.size, 15 + d * 7 + 5, none⟩ (.int .i64 0)).setCell ⟨w.heap.size, 15 + d * 7 + 6, none⟩ (.int .i64 0)) := below_setCells w.heap.size (Nat.le_refl _) [.int .u8 1, .int .u64 n, .int .u64 0, .int .u64 n, .int .u64 n, .int .i64 0, .int .i64 0] (15 + d * 7) hW0
  have hR : World.rangeAt ((((((((W).setCell ⟨w.heap.size, 15 + d * 7, none⟩ (.int .u8 1)).setCell ⟨w.heap.size, 15 + d * 7 + 1, none⟩ (.int .u64 n)).setCell ⟨w.heap.size, 15 + d * 7 + 2, none⟩ (.int .u64 0)).setCell ⟨w.heap.size, 15 + d * 7 + 3, none⟩ (.int .u64 n)).setCell ⟨w.heap.size, 15 + d * 7 + 4, none⟩ (.int .u64 n)).setCell ⟨w.heap.size, 15 + d * 7 + 5, none⟩ (.int .i64 0)).setCell ⟨w.heap.size, 15 + d * 7 + 6, none⟩ (.int .i64 0)) w.heap.size 0 K2 := by
    rw [HA3.out]
    have h0 : W.rangeAt w.heap.size 0 (A ++ ([u0, u1, u2, u3, u4, u5, u6] ++ C)) := HA1.out ▸ hRK _ hrf
    have h := range_put (A := A) (B := [u0, u1, u2, u3, u4, u5, u6]) (C := C) (vs := [.int .u8 1, .int .u64 n, .int .u64 0, .int .u64 n, .int .u64 n, .int .i64 0, .int .i64 0]) h0 rfl
    rw [HA2.out] at h
    exact h
  have hS : World.rangeAt ((((((((W).setCell ⟨w.heap.size, 15 + d * 7, none⟩ (.int .u8 1)).setCell ⟨w.heap.size, 15 + d * 7 + 1, none⟩ (.int .u64 n)).setCell ⟨w.heap.size, 15 + d * 7 + 2, none⟩ (.int .u64 0)).setCell ⟨w.heap.size, 15 + d * 7 + 3, none⟩ (.int .u64 n)).setCell ⟨w.heap.size, 15 + d * 7 + 4, none⟩ (.int .u64 n)).setCell ⟨w.heap.size, 15 + d * 7 + 5, none⟩ (.int .i64 0)).setCell ⟨w.heap.size, 15 + d * 7 + 6, none⟩ (.int .i64 0)) w.heap.size 15 S2 := by
    rw [HD.out] at hR
    exact range_drop (A := [.slice Ad l.length c, .slice none 0 0, .int .i64 0, .int .i64 j, .int .u8 x0, .int .u8 d, .int .u8 0, .int .i16 0, .int .i32 im, .int .u8 1, .int .u8 op, .bool wd, .bool false, .bool false, .int .i64 0]) hR
  generalize (((((((W).setCell ⟨w.heap.size, 15 + d * 7, none⟩ (.int .u8 1)).setCell ⟨w.heap.size, 15 + d * 7 + 1, none⟩ (.int .u64 n)).setCell ⟨w.heap.size, 15 + d * 7 + 2, none⟩ (.int .u64 0)).setCell ⟨w.heap.size, 15 + d * 7 + 3, none⟩ (.int .u64 n)).setCell ⟨w.heap.size, 15 + d * 7 + 4, none⟩ (.int .u64 n)).setCell ⟨w.heap.size, 15 + d * 7 + 5, none⟩ (.int .i64 0)).setCell ⟨w.heap.size, 15 + d * 7 + 6, none⟩ (.int .i64 0) = V at *
  have hl1 := run_ldRow (P := Tryz.prog) (n := 604) hR HK2.out
  have hl2 := run_ldRow (P := Tryz.prog) (n := 589) hS HSN.out
  have hon1 := hon _ hV
  clear hR hS hon hRK
  go_wp2_with fail
  refine hon1.mono ?_
  rintro e w1 ⟨b, rfl, hb0, hb1, hb2⟩
  go_wp2_with fail
  go_ret2
  exact ⟨b, rfl, Nat.le_trans hV.size hb0, hb1, hV.trans (hb2.mono hV.size)⟩

end
section
attribute [local go_sem ↓] ldFrom_589 ldFrom_604 mkS89_eq mkW94_eq mkW108_eq
theorem runset14V (l : List Insn) (Ad : Option Addr) (c j : Nat) (x0 : Int) (d : Nat) (hd : d < 11) (im : Int) (hi0 : -2147483648 ≤ im) (hi1 : im ≤ 2147483647) (op : Int) (wd : Bool) (rs : List RV) (hrs : StOk rs) (ho : OpOk op) (hrd : (∃ a, U64 a ∧ rs.getD d .no = .num a) ∨ (op = 176 ∧ wd = true ∧ (rs.getD d .no = .no ∨ rs.getD d .no = .ctx))) (w : World) : Calls Tryz.prog 98 #[.agg (KL l Ad c j x0 d im op wd rs).toArray] w fun e w' => e = .returned (.bool false) ∧ Below w.heap.size w w' := by
  by_cases h : op = 176
  · exact runset14_mov l Ad c j x0 d hd im hi0 hi1 op wd rs hrs h w
  · rcases hrd with ⟨a, hau, ha⟩ | ⟨h1, _⟩
    · exact runset14_num l Ad c j x0 d hd im hi0 hi1 op wd rs hrs h a ha w
    · exact absurd h1 h
theorem rarith14V (l : List Insn) (Ad : Option Addr) (c j : Nat) (x0 : Int) (d : Nat) (hd : d < 11) (im : Int) (hi0 : -2147483648 ≤ im) (hi1 : im ≤ 2147483647) (op : Int) (wd : Bool) (rs : List RV) (hrs : StOk rs) (ho : OpOk op) (hrd : (∃ a, U64 a ∧ rs.getD d .no = .num a) ∨ (op = 176 ∧ wd = true ∧ (rs.getD d .no = .no ∨ rs.getD d .no = .ctx))) (w : World) : Calls Tryz.prog 100 #[.agg (KL l Ad c j x0 d im op wd rs).toArray] w fun e w' => e = .returned (.tuple #[.agg #[.int .u8 1, .int .u64 (doM op wd (rs.getD d .no).of (immU im)), .int .u64 0, .int .u64 (doM op wd (rs.getD d .no).of (immU im)), .int .u64 (doM op wd (rs.getD d .no).of (immU im)), .int .i64 0, .int .i64 0], .int .i64 0]) ∧ Below w.heap.size w w' := by
  rcases hrd with ⟨a, hau, ha⟩ | ⟨h1, h2, h3⟩
  · have ho' : (rs.getD d .no).of = a := by rw [ha]; rfl
    rw [ho']
    cases hw : wd
    · by_cases h : op = 176
      · have := rarith14_movn l Ad c j x0 d hd im hi0 hi1 op wd rs hrs h hw a ha w
        rw [hw] at this
        rw [h] at this ⊢
        exact this
      · have := rarith14_narrow l Ad c j x0 d hd im hi0 hi1 op wd rs hrs ho h hw a hau ha w
        rw [hw] at this
        exact this
    · by_cases h : op = 176
      · have := rarith14_movnum l Ad c j x0 d hd im hi0 hi1 op wd rs hrs h hw a ha w
        rw [hw] at this
        rw [h] at this ⊢
        rw [doW_mov]
        exact this
      · by_cases e0 : op = 0
        · have := rarith14_add l Ad c j x0 d hd im hi0 hi1 op wd rs hrs e0 hw a hau ha w
          rw [hw] at this
          rw [e0] at this ⊢
          exact this
        · by_cases e1 : op = 16
          · have := rarith14_sub l Ad c j x0 d hd im hi0 hi1 op wd rs hrs e1 hw a hau ha w
            rw [hw] at this
            rw [e1] at this ⊢
            exact this
          · have := rarith14_wide l Ad c j x0 d hd im hi0 hi1 op wd rs hrs ho e0 e1 h hw a hau ha w
            rw [hw] at this
            exact this
  · have hr : doM op wd (rs.getD d .no).of (immU im) = immU im := by rw [h1, h2, doW_mov]
    rw [hr]
    rcases h3 with ha | ha
    · exact rarith14_movno l Ad c j x0 d hd im hi0 hi1 op wd rs hrs h1 h2 ha w
    · exact rarith14_movctx l Ad c j x0 d hd im hi0 hi1 op wd rs hrs h1 h2 ha w

set_option maxRecDepth 100000 in
set_option maxHeartbeats 4000000 in
theorem rstep14V (l : List Insn) (Ad : Option Addr) (c j : Nat) (x0 : Int) (d : Nat) (hd : d < 11) (im : Int) (hi0 : -2147483648 ≤ im) (hi1 : im ≤ 2147483647) (op : Int) (wd : Bool) (rs : List RV) (hrs : StOk rs) (ho : OpOk op) (hrd : (∃ a, U64 a ∧ rs.getD d .no = .num a) ∨ (op = 176 ∧ wd = true ∧ (rs.getD d .no = .no ∨ rs.getD d .no = .ctx))) (hn : l.length ≤ 100000) (hj : j < l.length) (w : World) (hat : SAt w w.heap.size 5 Ad l.length (insnsV l)) :
    Calls Tryz.prog 68 #[.agg (KL l Ad c j x0 d im op wd rs).toArray] w fun e w' => ∃ b, e = .returned (.tuple #[.slice (some ⟨b, 0, none⟩) 1 1, .int .i64 0]) ∧ w.heap.size ≤ b ∧ w'.rangeAt b 0 (.int .i64 (stepN l j : Nat) :: stV (rs.set d (.num (doM op wd (rs.getD d .no).of (immU im))))) ∧ Below w.heap.size w w' := by
  have hun := fun w1 => runset14V l Ad c j x0 d hd im hi0 hi1 op wd rs hrs ho hrd w1
  have har := fun w1 => rarith14V l Ad c j x0 d hd im hi0 hi1 op wd rs hrs ho hrd w1
  have hbe := fun (w1 : World) (hb : Below w.heap.size w w1) => rbecomes14V l Ad c j x0 d hd im hi0 hi1 op wd rs hrs (doM op wd (rs.getD d .no).of (immU im)) hn hj w1 ((hat.below hb).more hb.size)
  generalize (doM op wd (rs.getD d .no).of (immU im)) = n at *
  have hKn := KL_len (l := l) (Ad := Ad) (c := c) (j := j) (x0 := x0) (d := d) (im := im) (op := op) (wd := wd) hrs.len
  clear hrd
  generalize hK : KL l Ad c j x0 d im op wd rs = K at *
  have q0 : (w.alloc (.cells K.toArray 158)).heap[w.heap.size]? = some (.cells K.toArray 158) := heap1_0 _ _
  have k9 := boxc (k := 9) (u := .int .u8 1) q0 (by rw [← hK]; rfl)
  have hRK : ∀ w', Below (w.alloc (.cells K.toArray 158)).heap.size (w.alloc (.cells K.toArray 158)) w' → w'.rangeAt w.heap.size 0 K := fun w' h k u hu => by rw [Nat.zero_add]; exact boxc q0 (by simpa using hu) w' h
  clear q0
  have hW0 : Below w.heap.size w (w.alloc (.cells K.toArray 158)) := below_boxes1 _ _
  have hrf := Below.refl (w.alloc (.cells K.toArray 158)).heap.size (w.alloc (.cells K.toArray 158))
  clear hK
  go_enter Tryz.func68, Tryz.ntmps68
  go_upto_region 1 with fail
  generalize w.alloc (.cells K.toArray 158) = W at *
  have hlK : ∀ w', Below W.heap.size W w' → (ldRow ⟨w.heap.size, 0, none⟩ 604).run Tryz.prog w' = .ok K.toArray w' := fun w' h => run_ldRow (hRK w' h) hKn
  clear hRK
  have HL := hlK _ hrf
  go_wp2_with fail
  refine (hun _).mono ?_
  rintro e w1 ⟨rfl, hc1⟩
  have hb1 : Below W.heap.size W w1 := hc1
  clear hc1
  go_upto_region 5 with fail
  go_region_held3 (fun w' => Below W.heap.size W w') (first | assumption | exact sbelow_drew (by assumption) | exact sbelow_alloc (by assumption) (Nat.le_refl _))
    (first | (go_at_call 100; refine (har _).mono ?_; rintro e w2 ⟨rfl, hc2⟩; have hS2 : Below W.heap.size W w2 := below_step (by assumption) (Nat.le_refl _) hc2) | (go_at_call 99; refine (hbe _ (hW0.trans (Below.mono (by assumption) hW0.size))).mono ?_; rintro e w3 ⟨b, rfl, hb0, hr3, hc3⟩; have hS3 : Below W.heap.size W w3 := below_step (by assumption) (Nat.le_refl _) hc3))
  go_wp2_with fail
  go_ret2
  exact ⟨b, rfl, Nat.le_trans hW0.size (Nat.le_trans hS2.size hb0), hr3, hW0.trans (hS3.mono hW0.size)⟩

end
section
attribute [local go_sem ↓] ldFrom_589 ldFrom_604 mkS89_eq mkW94_eq mkW108_eq
/-- A step of plain arithmetic may be looked at. -/
def Rdy (rs : List RV) (x : Insn) : Prop := (rs.getD x.dst.toNat .no).isNum ∨ (opG x = 176 ∧ opW x = true ∧ (rs.getD x.dst.toNat .no = .no ∨ rs.getD x.dst.toNat .no = .ctx))
theorem Line.flags {p q : List Insn} (hp : Line p q) (Ad : Option Addr) (c : Nat) (j : Nat) (hj : j < p.length) (w : World) (hat : SAt w w.heap.size 5 Ad p.length (insnsV p)) :
    Calls Tryz.prog 32 #[.slice Ad p.length c] w fun e w' => (∃ b o c, e = .returned (.slice (some ⟨b, o, none⟩) p.length c) ∧ ∀ w'', Below w'.heap.size w' w'' → w''.cell? ⟨b, o + j, none⟩ = some (.bool true)) ∧ Below w.heap.size w w' := by
  refine (rstarts_any p Ad c (by rw [hp.len]; have := hp.few; omega) w hat).mono ?_
  rintro e w' ⟨A, c1, rfl, h1, h2⟩
  obtain ⟨b, o, rfl, hb, hk⟩ := h1.flag (by omega)
  refine ⟨⟨b, o, c1, rfl, fun w'' h => ?_⟩, h2⟩
  have := hk j hj w'' h
  rwa [hp.starts j] at this
set_option maxRecDepth 100000 in
set_option maxHeartbeats 4000000 in
theorem rStep14V {p q : List Insn} (hp : Line p q) (Ad : Option Addr) (c : Nat) (j : Nat) (hj : j < q.length) (rs : List RV) (hrs : StOk rs) (hrd : Rdy rs (at' p j)) (w : World) (hat : SAt w w.heap.size 5 Ad p.length (insnsV p)) :
    Calls Tryz.prog 37 #[.slice Ad p.length c, .agg #[.slice none 0 0, .int .i64 0], .int .i64 j, .agg (stV rs).toArray] w fun e w' => ∃ b, e = .returned (.tuple #[.slice (some ⟨b, 0, none⟩) 1 1, .int .i64 0]) ∧ w.heap.size ≤ b ∧ w'.rangeAt b 0 (.int .i64 ((j + 1 : Nat) : Int) :: stV (stepR rs (at' p j))) ∧ Below w.heap.size w w' := by
  have hlen : p.length ≤ 100000 := by rw [hp.len]; have := hp.few; omega
  have hjp : j < p.length := by rw [hp.len]; omega
  have hx := hp.lin_at hj
  have hxe := hp.at_lt hj
  obtain ⟨b, o, rfl, hbb, D0, D1, D2, D3, D4⟩ := hat.insn (l := p) (k := j) hjp
  have hck := fun (w1 : World) (hb : Below w.heap.size w w1) => rcheck_any p hp.ok (some ⟨b, o, none⟩) c hlen w1 ((hat.below hb).more hb.size)
  rw [hp.check] at hck
  have hsa := fun (w1 : World) (hb : Below w.heap.size w w1) => hp.flags (some ⟨b, o, none⟩) c j hjp w1 ((hat.below hb).more hb.size)
  have hri := fun (w1 : World) => rright13S hrs w1
  have hse := fun (w1 : World) => rsem_any (at' p j) hx.ok w1
  rw [hx.sem_eq] at hse
  have hd9 : (at' p j).dst.toNat < 11 := by have := hx.dst9; omega
  have hdd : (at' p j).dst = (((at' p j).dst.toNat : Nat) : Int) := by have := hx.dst0; omega
  have hrd' : (∃ a, U64 a ∧ rs.getD (at' p j).dst.toNat .no = .num a) ∨ (opG (at' p j) = 176 ∧ opW (at' p j) = true ∧ (rs.getD (at' p j).dst.toNat .no = .no ∨ rs.getD (at' p j).dst.toNat .no = .ctx)) := by
    rcases hrd with h | h
    · exact .inl ⟨_, (RV.num_of h).2, (RV.num_of h).1⟩
    · exact .inr h
  have hstp := fun w1 (h : Below w.heap.size w w1) => rstep14V p (some ⟨b, o, none⟩) c j (at' p j).op (at' p j).dst.toNat hd9 (at' p j).imm hx.imm0 hx.imm1 (opG (at' p j)) (opW (at' p j)) rs hrs hx.opOk hrd' hlen hjp w1 ((hat.below h).more h.size)
  rw [hp.step j] at hstp
  have hres : rs.set (at' p j).dst.toNat (.num (doM (opG (at' p j)) (opW (at' p j)) (rs.getD (at' p j).dst.toNat .no).of (immU (at' p j).imm))) = stepR rs (at' p j) := rfl
  rw [hres] at hstp
  have hjm : (j : Int) < (p.length : Int) := by omega
  have hj0 : (0 : Int) ≤ (j : Int) := by omega
  rw [hdd] at D1
  rw [hx.src] at D2
  rw [hx.off] at D3
  have hsr := hx.src
  have hof := hx.off
  have hval : (at' p j).val = .agg #[.int .u8 (at' p j).op, .int .u8 (((at' p j).dst.toNat : Nat) : Int), .int .u8 0, .int .i16 0, .int .i32 (at' p j).imm] := by
    show Value.agg #[.int .u8 (at' p j).op, .int .u8 (at' p j).dst, .int .u8 (at' p j).src, .int .i16 (at' p j).off, .int .i32 (at' p j).imm] = _
    rw [← hdd, hsr, hof]
  rw [hval] at hse
  clear hres hrd' hdd hsr hof hval hxe hrd hx
  generalize hS2 : stepR rs (at' p j) = S2r at *
  clear hS2
  generalize (at' p j).dst.toNat = d at *
  generalize hopg : opG (at' p j) = op at *
  generalize hopw : opW (at' p j) = wd at *
  clear hopg hopw
  generalize (at' p j).op = x0 at *
  generalize (at' p j).imm = im at *
  have hpl := Lib.hid hp
  clear hp
  have hS0 := stV_len hrs.len
  have hSo := stV_one rs
  have hstk : ∀ k, k < 7 → (stV rs)[70 + k]? = StkL[k]? := fun k hk => by have := stV_reg hrs.len (i := 10) (j := k) (by omega) hk; rw [hrs.stk] at this; exact this
  generalize hSd : stV rs = S at *
  have q0 : ((w.alloc (.cells #[.slice none 0 0, .int .i64 0] 38)).alloc (.cells S.toArray 92)).heap[w.heap.size]? = some (.cells #[.slice none 0 0, .int .i64 0] 38) := heap2_0 _ _ _
  have q1 : ((w.alloc (.cells #[.slice none 0 0, .int .i64 0] 38)).alloc (.cells S.toArray 92)).heap[w.heap.size + 1]? = some (.cells S.toArray 92) := heap2_1 _ _ _
  have e0 := boxc (k := 0) (u := .slice none 0 0) q0 rfl
  have e1 := boxc (k := 1) (u := .int .i64 0) q0 rfl
  have s70 := boxc (k := 70) (u := .int .u8 3) q1 (by simpa using hstk 0 (by omega))
  have s71 := boxc (k := 71) (u := .int .u64 0) q1 (by simpa using hstk 1 (by omega))
  have s72 := boxc (k := 72) (u := .int .u64 0) q1 (by simpa using hstk 2 (by omega))
  have s73 := boxc (k := 73) (u := .int .u64 0) q1 (by simpa using hstk 3 (by omega))
  have s74 := boxc (k := 74) (u := .int .u64 0) q1 (by simpa using hstk 4 (by omega))
  have s75 := boxc (k := 75) (u := .int .i64 0) q1 (by simpa using hstk 5 (by omega))
  have s76 := boxc (k := 76) (u := .int .i64 512) q1 (by simpa using hstk 6 (by omega))
  have hRS : ∀ w', Below ((w.alloc (.cells #[.slice none 0 0, .int .i64 0] 38)).alloc (.cells S.toArray 92)).heap.size ((w.alloc (.cells #[.slice none 0 0, .int .i64 0] 38)).alloc (.cells S.toArray 92)) w' → w'.rangeAt (w.heap.size + 1) 0 S := fun w' h k u hu => by rw [Nat.zero_add]; exact boxc q1 (by simpa using hu) w' h
  clear q0 q1 hstk
  have hW0 : Below w.heap.size w ((w.alloc (.cells #[.slice none 0 0, .int .i64 0] 38)).alloc (.cells S.toArray 92)) := below_boxes2 _ _ _
  have hrf := Below.refl ((w.alloc (.cells #[.slice none 0 0, .int .i64 0] 38)).alloc (.cells S.toArray 92)).heap.size ((w.alloc (.cells #[.slice none 0 0, .int .i64 0] 38)).alloc (.cells S.toArray 92))
  have HSD := Lib.hid hSd
  clear hSd
  go_enter Tryz.func37, Tryz.ntmps37
  go_upto_region 1 with fail
  generalize (w.alloc (.cells #[.slice none 0 0, .int .i64 0] 38)).alloc (.cells S.toArray 92) = W at *
  have hlS : ∀ w', Below W.heap.size W w' → (ldRow ⟨w.heap.size + 1, 0, none⟩ 589).run Tryz.prog w' = .ok S.toArray w' := fun w' h => run_ldRow (hRS w' h) hS0
  replace D0 := fun w' (h : Below W.heap.size W w') => D0 w' (hW0.trans (h.mono hW0.size))
  replace D1 := fun w' (h : Below W.heap.size W w') => D1 w' (hW0.trans (h.mono hW0.size))
  replace D2 := fun w' (h : Below W.heap.size W w') => D2 w' (hW0.trans (h.mono hW0.size))
  replace D3 := fun w' (h : Below W.heap.size W w') => D3 w' (hW0.trans (h.mono hW0.size))
  replace D4 := fun w' (h : Below W.heap.size W w') => D4 w' (hW0.trans (h.mono hW0.size))
  replace hck := fun w1 (h : Below W.heap.size W w1) => hck w1 (hW0.trans (h.mono hW0.size))
  replace hsa := fun w1 (h : Below W.heap.size W w1) => hsa w1 (hW0.trans (h.mono hW0.size))
  go_wp2_with fail
  refine (hck _ hrf).mono ?_
  rintro e w1 ⟨rfl, hc1⟩
  have hb1 : Below W.heap.size W w1 := hc1
  clear hc1
  go_wp2_with fail
  refine (rgiven14 _).mono ?_
  rintro e w2 ⟨rfl, hc2⟩
  have hb2 := hb1.trans (hc2.mono hb1.size)
  clear hc2
  go_wp2_with fail
  refine (hsa _ hb2).mono ?_
  rintro e w3 ⟨⟨sb, so, sc, rfl, hfl⟩, hc3⟩
  have hb3 := hb2.trans (hc3.mono hb2.size)
  clear hc3
  have f0 := hfl w3 (Below.refl _ _)
  clear hfl
  have HL3 := hlS _ hb3
  go_wp2_with fail
  refine (hri _).mono ?_
  rintro e w4 ⟨rfl, hc4⟩
  have hb4 := hb3.trans (hc4.mono hb3.size)
  clear hc4
  go_upto_region 7 with fail
  have hb5 : Below W.heap.size W (w4.alloc (.cells #[.int .u8 3, .int .u64 0, .int .u64 0, .int .u64 0, .int .u64 0, .int .i64 0, .int .i64 512] 66)) := hb4.alloc hb4.size _
  generalize w4.alloc (.cells #[.int .u8 3, .int .u64 0, .int .u64 0, .int .u64 0, .int .u64 0, .int .i64 0, .int .i64 512] 66) = U at *
  clear hck hsa hri f0 HL3
  have E0 := D0 _ hb5
  have E1 := D1 _ hb5
  have E2 := D2 _ hb5
  have E3 := D3 _ hb5
  have E4 := D4 _ hb5
  go_wp2_with fail
  refine (hse _).mono ?_
  rintro e w6 ⟨rfl, hc6⟩
  have hb6 := hb5.trans (hc6.mono hb5.size)
  clear hc6
  go_upto_region 8 with fail
  have hb7 : Below W.heap.size W (w6.alloc (.cells #[.int .u8 1, .int .u8 op, .bool wd, .bool false, .bool false, .int .i64 0] 73)) := hb6.alloc hb6.size _
  clear E0 E1 E2 E3 E4
  have F0 : ∀ w', Below (w6.alloc (.cells #[.int .u8 1, .int .u8 op, .bool wd, .bool false, .bool false, .int .i64 0] 73)).heap.size (w6.alloc (.cells #[.int .u8 1, .int .u8 op, .bool wd, .bool false, .bool false, .int .i64 0] 73)) w' → w'.cell? ⟨w6.heap.size, 0, none⟩ = some (.int .u8 1) := boxc (heap1_0 w6 _) rfl
  have F1 : ∀ w', Below (w6.alloc (.cells #[.int .u8 1, .int .u8 op, .bool wd, .bool false, .bool false, .int .i64 0] 73)).heap.size (w6.alloc (.cells #[.int .u8 1, .int .u8 op, .bool wd, .bool false, .bool false, .int .i64 0] 73)) w' → w'.cell? ⟨w6.heap.size, 1, none⟩ = some (.int .u8 op) := boxc (heap1_0 w6 _) rfl
  have F2 : ∀ w', Below (w6.alloc (.cells #[.int .u8 1, .int .u8 op, .bool wd, .bool false, .bool false, .int .i64 0] 73)).heap.size (w6.alloc (.cells #[.int .u8 1, .int .u8 op, .bool wd, .bool false, .bool false, .int .i64 0] 73)) w' → w'.cell? ⟨w6.heap.size, 2, none⟩ = some (.bool wd) := boxc (heap1_0 w6 _) rfl
  have F3 : ∀ w', Below (w6.alloc (.cells #[.int .u8 1, .int .u8 op, .bool wd, .bool false, .bool false, .int .i64 0] 73)).heap.size (w6.alloc (.cells #[.int .u8 1, .int .u8 op, .bool wd, .bool false, .bool false, .int .i64 0] 73)) w' → w'.cell? ⟨w6.heap.size, 3, none⟩ = some (.bool false) := boxc (heap1_0 w6 _) rfl
  have F4 : ∀ w', Below (w6.alloc (.cells #[.int .u8 1, .int .u8 op, .bool wd, .bool false, .bool false, .int .i64 0] 73)).heap.size (w6.alloc (.cells #[.int .u8 1, .int .u8 op, .bool wd, .bool false, .bool false, .int .i64 0] 73)) w' → w'.cell? ⟨w6.heap.size, 4, none⟩ = some (.bool false) := boxc (heap1_0 w6 _) rfl
  have F5 : ∀ w', Below (w6.alloc (.cells #[.int .u8 1, .int .u8 op, .bool wd, .bool false, .bool false, .int .i64 0] 73)).heap.size (w6.alloc (.cells #[.int .u8 1, .int .u8 op, .bool wd, .bool false, .bool false, .int .i64 0] 73)) w' → w'.cell? ⟨w6.heap.size, 5, none⟩ = some (.int .i64 0) := boxc (heap1_0 w6 _) rfl
  generalize w6.alloc (.cells #[.int .u8 1, .int .u8 op, .bool wd, .bool false, .bool false, .int .i64 0] 73) = R at *
  have hR7 : ∀ w', Below R.heap.size R w' → Below W.heap.size W w' := fun w' h => hb7.trans (h.mono hb7.size)
  replace D0 := fun w' (h : Below R.heap.size R w') => D0 w' (hR7 w' h)
  replace D1 := fun w' (h : Below R.heap.size R w') => D1 w' (hR7 w' h)
  replace D2 := fun w' (h : Below R.heap.size R w') => D2 w' (hR7 w' h)
  replace D3 := fun w' (h : Below R.heap.size R w') => D3 w' (hR7 w' h)
  replace D4 := fun w' (h : Below R.heap.size R w') => D4 w' (hR7 w' h)
  replace e0 := fun w' (h : Below R.heap.size R w') => e0 w' (hR7 w' h)
  replace e1 := fun w' (h : Below R.heap.size R w') => e1 w' (hR7 w' h)
  replace hlS := fun w' (h : Below R.heap.size R w') => hlS w' (hR7 w' h)
  have hmk := fun w1 => run_mkW108 (.slice (some ⟨b, o, none⟩) p.length c) (.slice none 0 0) (.int .i64 0) j (.int .u8 x0) (.int .u8 d) (.int .u8 0) (.int .i16 0) (.int .i32 im) (.int .u8 1) (.int .u8 op) (.bool wd) (.bool false) (.bool false) (.int .i64 0) S hS0 rfl w1
  obtain ⟨K, hKd⟩ : ∃ K, K = (.slice (some ⟨b, o, none⟩) p.length c :: .slice none 0 0 :: .int .i64 0 :: .int .i64 j :: .int .u8 x0 :: .int .u8 d :: .int .u8 0 :: .int .i16 0 :: .int .i32 im :: .int .u8 1 :: .int .u8 op :: .bool wd :: .bool false :: .bool false :: .int .i64 0 :: S : List Value) := ⟨_, rfl⟩
  rw [← hKd] at hmk
  have hKn : K.length = 604 := by rw [hKd]; simp [hS0]
  have hKE : KL p (some ⟨b, o, none⟩) c j x0 d im op wd rs = K := by rw [hKd, ← HSD.out]; rfl
  rw [hKE] at hstp
  have hK1 : ∀ v ∈ K, v.oneCell' = true := by rw [hKd]; intro v hv; simp only [List.mem_cons] at hv; rcases hv with rfl | rfl | rfl | rfl | rfl | rfl | rfl | rfl | rfl | rfl | rfl | rfl | rfl | rfl | rfl | h <;> first | rfl | exact hSo v h
  clear hKE hKd hSo
  have hsto : (storeCells ⟨R.heap.size, 0, none⟩ K 0).run Tryz.prog (R.alloc (.cells Tryz.zeroCells158 158)).drew = .ok () (R.alloc (.cells K.toArray 158)).drew := store_new108 R.drew K hKn hK1
  have hrR := Below.refl R.heap.size R
  clear hrf
  go_region_held3 (fun w' => Below R.heap.size R w') (first | assumption | exact sbelow_drew (by assumption) | exact sbelow_alloc (by assumption) (Nat.le_refl _) | exact sbelow_drew (sbelow_alloc hrR (Nat.le_refl _))) (skip)
  have hVw : Below w.heap.size w ((R.alloc (.cells K.toArray 158)).drew) := (hW0.trans (hb7.mono hW0.size)).trans ((sbelow_drew (sbelow_alloc hrR (Nat.le_refl _))).mono (Nat.le_trans hW0.size hb7.size))
  have hlK : (ldRow ⟨R.heap.size, 0, none⟩ 604).run Tryz.prog ((R.alloc (.cells K.toArray 158)).drew) = .ok K.toArray ((R.alloc (.cells K.toArray 158)).drew) := run_ldRow (fun k u hu => by rw [Nat.zero_add]; exact boxc (heap1_0 R (.cells K.toArray 158)) (by simpa using hu) _ (Below.drew (Below.refl _ _))) hKn
  generalize (R.alloc (.cells K.toArray 158)).drew = V at *
  go_wp2_with fail
  refine (hstp _ hVw).mono ?_
  rintro e w9 ⟨b2, rfl, hb0, hr9, hc9⟩
  go_wp2_with fail
  go_ret2
  exact ⟨b2, rfl, Nat.le_trans hVw.size hb0, hr9, hVw.trans (hc9.mono hVw.size)⟩

end
section
attribute [local go_sem ↓] ldFrom_589 ldFrom_604 mkS89_eq mkW94_eq mkW108_eq
set_option maxRecDepth 100000 in
set_option maxHeartbeats 4000000 in
theorem rresult14V {p q : List Insn} (hp : Line p q) (Ad : Option Addr) (c : Nat) (j : Nat) (hj : j < q.length) (b : Nat) (rs : List RV) (hrl : rs.length = 11) (n : Int) (hrn : rs.getD (at' p j).dst.toNat .no = .num n) (w : World) (hat : SAt w w.heap.size 5 Ad p.length (insnsV p)) (hb : b < w.heap.size) (hr : w.rangeAt b 0 (.int .i64 ((j + 1 : Nat) : Int) :: stV rs)) :
    Calls Tryz.prog 69 #[.slice Ad p.length c, .int .i64 j, .slice (some ⟨b, 0, none⟩) 1 1] w fun e w' => e = .returned (.tuple #[.agg #[.int .u8 1, .int .u64 n, .int .u64 0, .int .u64 n, .int .u64 n, .int .i64 0, .int .i64 0], .bool true]) ∧ Below w.heap.size w w' := by
  have hlen : p.length ≤ 100000 := by rw [hp.len]; have := hp.few; omega
  have hjp : j < p.length := by rw [hp.len]; omega
  have hx := hp.lin_at hj
  obtain ⟨q_, o, rfl, hbb, D0, D1, D2, D3, D4⟩ := hat.insn (l := p) (k := j) hjp
  have hse := fun (w1 : World) => rsem_any (at' p j) hx.ok w1
  rw [hx.sem_eq] at hse
  have hd9 : (at' p j).dst.toNat < 11 := by have := hx.dst9; omega
  have hdd : (at' p j).dst = (((at' p j).dst.toNat : Nat) : Int) := by have := hx.dst0; omega
  have hjm : (j : Int) < (p.length : Int) := by omega
  have hj0 : (0 : Int) ≤ (j : Int) := by omega
  rw [hdd] at D1
  rw [hx.src] at D2
  rw [hx.off] at D3
  have hsr := hx.src
  have hof := hx.off
  have hval : (at' p j).val = .agg #[.int .u8 (at' p j).op, .int .u8 (((at' p j).dst.toNat : Nat) : Int), .int .u8 0, .int .i16 0, .int .i32 (at' p j).imm] := by
    show Value.agg #[.int .u8 (at' p j).op, .int .u8 (at' p j).dst, .int .u8 (at' p j).src, .int .i16 (at' p j).off, .int .i32 (at' p j).imm] = _
    rw [← hdd, hsr, hof]
  rw [hval] at hse
  have hrg : ∀ k, k < 7 → (.int .i64 ((j + 1 : Nat) : Int) :: stV rs : List Value)[1 + (at' p j).dst.toNat * 7 + k]? = (RV.num n).cells[k]? := fun k hk => by
    have := stV_reg hrl (i := (at' p j).dst.toNat) (j := k) hd9 hk
    rw [hrn] at this
    rw [show 1 + (at' p j).dst.toNat * 7 + k = (7 * (at' p j).dst.toNat + k) + 1 by omega, List.getElem?_cons_succ]
    exact this
  clear hdd hsr hof hval hx hrn
  generalize (at' p j).dst.toNat = d at *
  generalize hopg : opG (at' p j) = op at *
  generalize hopw : opW (at' p j) = wd at *
  clear hopg hopw
  generalize (at' p j).op = x0 at *
  generalize (at' p j).imm = im at *
  clear hp
  have hdi : (d : Int) < 11 := by omega
  have W0 : ∀ w', Below w.heap.size w w' → w'.cell? ⟨b, 1 + d * 7, none⟩ = some (.int .u8 1) := fun w' h => by rw [h.cell hb]; have := hr (1 + d * 7) _ (hrg 0 (by omega)); rwa [Nat.zero_add] at this
  have W1 : ∀ w', Below w.heap.size w w' → w'.cell? ⟨b, 1 + d * 7 + 1, none⟩ = some (.int .u64 n) := fun w' h => by rw [h.cell hb]; have := hr (1 + d * 7 + 1) _ (hrg 1 (by omega)); rwa [Nat.zero_add] at this
  have W2 : ∀ w', Below w.heap.size w w' → w'.cell? ⟨b, 1 + d * 7 + 2, none⟩ = some (.int .u64 0) := fun w' h => by rw [h.cell hb]; have := hr (1 + d * 7 + 2) _ (hrg 2 (by omega)); rwa [Nat.zero_add] at this
  have W3 : ∀ w', Below w.heap.size w w' → w'.cell? ⟨b, 1 + d * 7 + 3, none⟩ = some (.int .u64 n) := fun w' h => by rw [h.cell hb]; have := hr (1 + d * 7 + 3) _ (hrg 3 (by omega)); rwa [Nat.zero_add] at this
  have W4 : ∀ w', Below w.heap.size w w' → w'.cell? ⟨b, 1 + d * 7 + 4, none⟩ = some (.int .u64 n) := fun w' h => by rw [h.cell hb]; have := hr (1 + d * 7 + 4) _ (hrg 4 (by omega)); rwa [Nat.zero_add] at this
  have W5 : ∀ w', Below w.heap.size w w' → w'.cell? ⟨b, 1 + d * 7 + 5, none⟩ = some (.int .i64 0) := fun w' h => by rw [h.cell hb]; have := hr (1 + d * 7 + 5) _ (hrg 5 (by omega)); rwa [Nat.zero_add] at this
  have W6 : ∀ w', Below w.heap.size w w' → w'.cell? ⟨b, 1 + d * 7 + 6, none⟩ = some (.int .i64 0) := fun w' h => by rw [h.cell hb]; have := hr (1 + d * 7 + 6) _ (hrg 6 (by omega)); rwa [Nat.zero_add] at this
  clear hr hrg
  have q0 : (w.alloc (.cells #[.int .u8 0, .int .u64 0, .int .u64 0, .int .u64 0, .int .u64 0, .int .i64 0, .int .i64 0] 66)).heap[w.heap.size]? = some (.cells #[.int .u8 0, .int .u64 0, .int .u64 0, .int .u64 0, .int .u64 0, .int .i64 0, .int .i64 0] 66) := heap1_0 _ _
  have a0 := boxc (k := 0) (u := .int .u8 0) q0 rfl
  have a1 := boxc (k := 1) (u := .int .u64 0) q0 rfl
  have a2 := boxc (k := 2) (u := .int .u64 0) q0 rfl
  have a3 := boxc (k := 3) (u := .int .u64 0) q0 rfl
  have a4 := boxc (k := 4) (u := .int .u64 0) q0 rfl
  have a5 := boxc (k := 5) (u := .int .i64 0) q0 rfl
  have a6 := boxc (k := 6) (u := .int .i64 0) q0 rfl
  have tA := boxt q0
  clear q0
  have hW0 : Below w.heap.size w (w.alloc (.cells #[.int .u8 0, .int .u64 0, .int .u64 0, .int .u64 0, .int .u64 0, .int .i64 0, .int .i64 0] 66)) := below_boxes1 _ _
  have hrf := Below.refl (w.alloc (.cells #[.int .u8 0, .int .u64 0, .int .u64 0, .int .u64 0, .int .u64 0, .int .i64 0, .int .i64 0] 66)).heap.size (w.alloc (.cells #[.int .u8 0, .int .u64 0, .int .u64 0, .int .u64 0, .int .u64 0, .int .i64 0, .int .i64 0] 66))
  go_enter Tryz.func69, Tryz.ntmps69
  go_upto_region 1 with fail
  generalize w.alloc (.cells #[.int .u8 0, .int .u64 0, .int .u64 0, .int .u64 0, .int .u64 0, .int .i64 0, .int .i64 0] 66) = W at *
  replace D0 := fun w' (h : Below W.heap.size W w') => D0 w' (hW0.trans (h.mono hW0.size))
  replace D1 := fun w' (h : Below W.heap.size W w') => D1 w' (hW0.trans (h.mono hW0.size))
  replace D2 := fun w' (h : Below W.heap.size W w') => D2 w' (hW0.trans (h.mono hW0.size))
  replace D3 := fun w' (h : Below W.heap.size W w') => D3 w' (hW0.trans (h.mono hW0.size))
  replace D4 := fun w' (h : Below W.heap.size W w') => D4 w' (hW0.trans (h.mono hW0.size))
  replace W0 := fun w' (h : Below W.heap.size W w') => W0 w' (hW0.trans (h.mono hW0.size))
  replace W1 := fun w' (h : Below W.heap.size W w') => W1 w' (hW0.trans (h.mono hW0.size))
  replace W2 := fun w' (h : Below W.heap.size W w') => W2 w' (hW0.trans (h.mono hW0.size))
  replace W3 := fun w' (h : Below W.heap.size W w') => W3 w' (hW0.trans (h.mono hW0.size))
  replace W4 := fun w' (h : Below W.heap.size W w') => W4 w' (hW0.trans (h.mono hW0.size))
  replace W5 := fun w' (h : Below W.heap.size W w') => W5 w' (hW0.trans (h.mono hW0.size))
  replace W6 := fun w' (h : Below W.heap.size W w') => W6 w' (hW0.trans (h.mono hW0.size))
  have E0 := D0 _ hrf
  have E1 := D1 _ hrf
  have E2 := D2 _ hrf
  have E3 := D3 _ hrf
  have E4 := D4 _ hrf
  go_wp2_with fail
  refine (hse _).mono ?_
  rintro e w1 ⟨rfl, hc1⟩
  have hb1 : Below W.heap.size W w1 := hc1
  clear hc1
  go_upto_region 4 with fail
  clear E0 E1 E2 E3 E4
  have hb2 : Below W.heap.size W (w1.alloc (.cells #[.int .u8 1, .int .u8 op, .bool wd, .bool false, .bool false, .int .i64 0] 73)) := hb1.alloc hb1.size _
  have F0 := boxc (k := 0) (u := .int .u8 1) (heap1_0 w1 (.cells #[.int .u8 1, .int .u8 op, .bool wd, .bool false, .bool false, .int .i64 0] 73)) rfl _ (Below.refl _ _)
  generalize w1.alloc (.cells #[.int .u8 1, .int .u8 op, .bool wd, .bool false, .bool false, .int .i64 0] 73) = R at *
  have z0 := a0 _ hb2
  go_upto_region 10 with fail
  have D0_ := D0 _ hb2
  have D1_ := D1 _ hb2
  have D2_ := D2 _ hb2
  have D3_ := D3 _ hb2
  have D4_ := D4 _ hb2
  have W0_ := W0 _ hb2
  have W1_ := W1 _ hb2
  have W2_ := W2 _ hb2
  have W3_ := W3 _ hb2
  have W4_ := W4 _ hb2
  have W5_ := W5 _ hb2
  have W6_ := W6 _ hb2
  have a1_ := a1 _ hb2
  have a2_ := a2 _ hb2
  have a3_ := a3 _ hb2
  have a4_ := a4 _ hb2
  have a5_ := a5 _ hb2
  have a6_ := a6 _ hb2
  go_region
  clear D0 D0_ D1 D1_ D2 D2_ D3 D3_ D4 D4_ W0 W0_ a0 W1 W1_ a1 W2 W2_ a2 W3 W3_ a3 W4 W4_ a4 W5 W5_ a5 W6 W6_ a6 F0 hse hbb hrf
  have hRS : World.rangeAt ((((((((R).setCell ⟨w.heap.size, 0, none⟩ (.int .u8 1)).setCell ⟨w.heap.size, 1, none⟩ (.int .u64 n)).setCell ⟨w.heap.size, 2, none⟩ (.int .u64 0)).setCell ⟨w.heap.size, 3, none⟩ (.int .u64 n)).setCell ⟨w.heap.size, 4, none⟩ (.int .u64 n)).setCell ⟨w.heap.size, 5, none⟩ (.int .i64 0)).setCell ⟨w.heap.size, 6, none⟩ (.int .i64 0)) w.heap.size 0 [.int .u8 1, .int .u64 n, .int .u64 0, .int .u64 n, .int .u64 n, .int .i64 0, .int .i64 0] := World.rangeAt_setCells_same R w.heap.size 0 [.int .u8 1, .int .u64 n, .int .u64 0, .int .u64 n, .int .u64 n, .int .i64 0, .int .i64 0] (fun k hk => ⟨by have hk7 := seven hk; rcases hk7 with rfl | rfl | rfl | rfl | rfl | rfl | rfl <;> simp [z0, a1_, a2_, a3_, a4_, a5_, a6_], tA _ _ hb2⟩)
  replace hRS : World.rangeAt (World.drew ((((((((R).setCell ⟨w.heap.size, 0, none⟩ (.int .u8 1)).setCell ⟨w.heap.size, 1, none⟩ (.int .u64 n)).setCell ⟨w.heap.size, 2, none⟩ (.int .u64 0)).setCell ⟨w.heap.size, 3, none⟩ (.int .u64 n)).setCell ⟨w.heap.size, 4, none⟩ (.int .u64 n)).setCell ⟨w.heap.size, 5, none⟩ (.int .i64 0)).setCell ⟨w.heap.size, 6, none⟩ (.int .i64 0))) w.heap.size 0 [.int .u8 1, .int .u64 n, .int .u64 0, .int .u64 n, .int .u64 n, .int .i64 0, .int .i64 0] := (World.rangeAt_drew _ _ _ _).2 hRS
  have hV0 : Below w.heap.size w ((((((((R).setCell ⟨w.heap.size, 0, none⟩ (.int .u8 1)).setCell ⟨w.heap.size, 1, none⟩ (.int .u64 n)).setCell ⟨w.heap.size, 2, none⟩ (.int .u64 0)).setCell ⟨w.heap.size, 3, none⟩ (.int .u64 n)).setCell ⟨w.heap.size, 4, none⟩ (.int .u64 n)).setCell ⟨w.heap.size, 5, none⟩ (.int .i64 0)).setCell ⟨w.heap.size, 6, none⟩ (.int .i64 0)).drew := sbelow_drew (below_setCells w.heap.size (Nat.le_refl _) [.int .u8 1, .int .u64 n, .int .u64 0, .int .u64 n, .int .u64 n, .int .i64 0, .int .i64 0] 0 (hW0.trans (hb2.mono hW0.size)))
  have c0 : World.cell? ((((((((R).setCell ⟨w.heap.size, 0, none⟩ (.int .u8 1)).setCell ⟨w.heap.size, 1, none⟩ (.int .u64 n)).setCell ⟨w.heap.size, 2, none⟩ (.int .u64 0)).setCell ⟨w.heap.size, 3, none⟩ (.int .u64 n)).setCell ⟨w.heap.size, 4, none⟩ (.int .u64 n)).setCell ⟨w.heap.size, 5, none⟩ (.int .i64 0)).setCell ⟨w.heap.size, 6, none⟩ (.int .i64 0)).drew ⟨w.heap.size, 0, none⟩ = some (.int .u8 1) := by have := hRS 0 _ rfl; rwa [Nat.zero_add] at this
  have c1 : World.cell? ((((((((R).setCell ⟨w.heap.size, 0, none⟩ (.int .u8 1)).setCell ⟨w.heap.size, 1, none⟩ (.int .u64 n)).setCell ⟨w.heap.size, 2, none⟩ (.int .u64 0)).setCell ⟨w.heap.size, 3, none⟩ (.int .u64 n)).setCell ⟨w.heap.size, 4, none⟩ (.int .u64 n)).setCell ⟨w.heap.size, 5, none⟩ (.int .i64 0)).setCell ⟨w.heap.size, 6, none⟩ (.int .i64 0)).drew ⟨w.heap.size, 1, none⟩ = some (.int .u64 n) := by have := hRS 1 _ rfl; rwa [Nat.zero_add] at this
  have c2 : World.cell? ((((((((R).setCell ⟨w.heap.size, 0, none⟩ (.int .u8 1)).setCell ⟨w.heap.size, 1, none⟩ (.int .u64 n)).setCell ⟨w.heap.size, 2, none⟩ (.int .u64 0)).setCell ⟨w.heap.size, 3, none⟩ (.int .u64 n)).setCell ⟨w.heap.size, 4, none⟩ (.int .u64 n)).setCell ⟨w.heap.size, 5, none⟩ (.int .i64 0)).setCell ⟨w.heap.size, 6, none⟩ (.int .i64 0)).drew ⟨w.heap.size, 2, none⟩ = some (.int .u64 0) := by have := hRS 2 _ rfl; rwa [Nat.zero_add] at this
  have c3 : World.cell? ((((((((R).setCell ⟨w.heap.size, 0, none⟩ (.int .u8 1)).setCell ⟨w.heap.size, 1, none⟩ (.int .u64 n)).setCell ⟨w.heap.size, 2, none⟩ (.int .u64 0)).setCell ⟨w.heap.size, 3, none⟩ (.int .u64 n)).setCell ⟨w.heap.size, 4, none⟩ (.int .u64 n)).setCell ⟨w.heap.size, 5, none⟩ (.int .i64 0)).setCell ⟨w.heap.size, 6, none⟩ (.int .i64 0)).drew ⟨w.heap.size, 3, none⟩ = some (.int .u64 n) := by have := hRS 3 _ rfl; rwa [Nat.zero_add] at this
  have c4 : World.cell? ((((((((R).setCell ⟨w.heap.size, 0, none⟩ (.int .u8 1)).setCell ⟨w.heap.size, 1, none⟩ (.int .u64 n)).setCell ⟨w.heap.size, 2, none⟩ (.int .u64 0)).setCell ⟨w.heap.size, 3, none⟩ (.int .u64 n)).setCell ⟨w.heap.size, 4, none⟩ (.int .u64 n)).setCell ⟨w.heap.size, 5, none⟩ (.int .i64 0)).setCell ⟨w.heap.size, 6, none⟩ (.int .i64 0)).drew ⟨w.heap.size, 4, none⟩ = some (.int .u64 n) := by have := hRS 4 _ rfl; rwa [Nat.zero_add] at this
  have c5 : World.cell? ((((((((R).setCell ⟨w.heap.size, 0, none⟩ (.int .u8 1)).setCell ⟨w.heap.size, 1, none⟩ (.int .u64 n)).setCell ⟨w.heap.size, 2, none⟩ (.int .u64 0)).setCell ⟨w.heap.size, 3, none⟩ (.int .u64 n)).setCell ⟨w.heap.size, 4, none⟩ (.int .u64 n)).setCell ⟨w.heap.size, 5, none⟩ (.int .i64 0)).setCell ⟨w.heap.size, 6, none⟩ (.int .i64 0)).drew ⟨w.heap.size, 5, none⟩ = some (.int .i64 0) := by have := hRS 5 _ rfl; rwa [Nat.zero_add] at this
  have c6 : World.cell? ((((((((R).setCell ⟨w.heap.size, 0, none⟩ (.int .u8 1)).setCell ⟨w.heap.size, 1, none⟩ (.int .u64 n)).setCell ⟨w.heap.size, 2, none⟩ (.int .u64 0)).setCell ⟨w.heap.size, 3, none⟩ (.int .u64 n)).setCell ⟨w.heap.size, 4, none⟩ (.int .u64 n)).setCell ⟨w.heap.size, 5, none⟩ (.int .i64 0)).setCell ⟨w.heap.size, 6, none⟩ (.int .i64 0)).drew ⟨w.heap.size, 6, none⟩ = some (.int .i64 0) := by have := hRS 6 _ rfl; rwa [Nat.zero_add] at this
  clear hRS
  generalize World.drew ((((((((R).setCell ⟨w.heap.size, 0, none⟩ (.int .u8 1)).setCell ⟨w.heap.size, 1, none⟩ (.int .u64 n)).setCell ⟨w.heap.size, 2, none⟩ (.int .u64 0)).setCell ⟨w.heap.size, 3, none⟩ (.int .u64 n)).setCell ⟨w.heap.size, 4, none⟩ (.int .u64 n)).setCell ⟨w.heap.size, 5, none⟩ (.int .i64 0)).setCell ⟨w.heap.size, 6, none⟩ (.int .i64 0)) = V at *
  go_wp2_with fail
  exact bodyPost_ret (v := .tuple #[.agg #[.int .u8 1, .int .u64 n, .int .u64 0, .int .u64 n, .int .u64 n, .int .i64 0, .int .i64 0], .bool true]) (by simp [results, Tryz.results69, go_sem, *]) rfl ⟨rfl, hV0⟩

end
end Go.Proofs.YtncogaikiceidaaGreat
