/- The program's moves answer as the plain movesM does. No statement is proved here. -/
import Derived.Test.YtncogaikiceidaaInsn1
section
/- The program's moves: loads. No statement is proved here. -/
namespace Go.Proofs.Ytncogaikiceidaa
open Go.RowKit
set_option linter.unusedSimpArgs false
set_option linter.unusedVariables false
attribute [local go_sem ↓] Go.wp_at_zero Go.wp_at_succ
set_option maxRecDepth 100000 in
set_option maxHeartbeats 16000000 in
theorem moves_walk (x : Insn) (hx : x.Ok) (w : World) (hC : (x.op % 8 = 1 ∧ (x.dst != 10) = false ∧ (x.op / 32 * 32 == 128) = true) ∨ (x.op % 8 = 1 ∧ (x.dst != 10) = false ∧ (x.op / 32 * 32 == 128) = false) ∨ (x.op % 8 = 1 ∧ (x.dst != 10) = true ∧ (x.imm == 0) = false ∧ (x.op / 32 * 32 == 128) = true) ∨ (x.op % 8 = 1 ∧ (x.dst != 10) = true ∧ (x.imm == 0) = false ∧ (x.op / 32 * 32 == 128) = false) ∨ (x.op % 8 = 1 ∧ (x.dst != 10) = true ∧ (x.imm == 0) = true ∧ (x.op / 32 * 32 == 96) = true ∧ (x.op / 32 * 32 == 128) = false) ∨ (x.op % 8 = 1 ∧ (x.dst != 10) = true ∧ (x.imm == 0) = true ∧ (x.op / 32 * 32 == 96) = false ∧ (x.op / 32 * 32 == 128) = true ∧ sizeM x.op < 8) ∨ (x.op % 8 = 1 ∧ (x.dst != 10) = true ∧ (x.imm == 0) = true ∧ (x.op / 32 * 32 == 96) = false ∧ (x.op / 32 * 32 == 128) = true ∧ ¬ sizeM x.op < 8) ∨ (x.op % 8 = 1 ∧ (x.dst != 10) = true ∧ (x.imm == 0) = true ∧ (x.op / 32 * 32 == 96) = false ∧ (x.op / 32 * 32 == 128) = false) ∨ (x.op % 8 = 2 ∧ (x.op / 32 * 32 == 96) = true) ∨ (x.op % 8 = 2 ∧ (x.op / 32 * 32 == 96) = false) ∨ (x.op % 8 = 3 ∧ (x.op / 32 * 32 == 96) = true) ∨ (x.op % 8 = 3 ∧ (x.op / 32 * 32 == 96) = false ∧ (x.op / 32 * 32 == 192) = true ∧ 4 ≤ sizeM x.op) ∨ (x.op % 8 = 3 ∧ (x.op / 32 * 32 == 96) = false ∧ (x.op / 32 * 32 == 192) = false) ∨ (x.op % 8 = 3 ∧ (x.op / 32 * 32 == 96) = false ∧ (x.op / 32 * 32 == 192) = true ∧ ¬ 4 ≤ sizeM x.op) ∨ ((x.op % 8 ≠ 1 ∧ x.op % 8 ≠ 2 ∧ x.op % 8 ≠ 3))) : Calls Try.prog 62 #[x.val] w (WhatAnd w (movesM x)) := by
  have HC := Lib.hid hC
  clear hC
  have h224 := and224 x.op hx.op0 hx.op1
  have hsz8 := fun w => size_is x.op hx.op0 hx.op1 w
  have hcl := fun w => class_is x hx w
  obtain ⟨e1, e2, e3, hsz, hfin⟩ := three_heap w x.obj What.zero.obj (What.obj ⟨0, 0, false, false, false, sizeM x.op⟩)
  replace e1 := heap_four _ x.obj e1
  replace e2 := heap_four _ x.obj e2
  replace e3 := heap_four _ x.obj e3
  replace hfin := sbelow_alloc (o := x.obj) hfin (Nat.le_refl _)
  have hsz' : ((((w.alloc x.obj).alloc What.zero.obj).alloc (What.obj ⟨0, 0, false, false, false, sizeM x.op⟩)).alloc x.obj).heap.size = w.heap.size + 4 := by simp
  clear hsz
  go_enter Try.func62, Try.ntmps62
  go_wp2_with fail
  refine (hsz8 _).mono ?_
  rintro e w' ⟨rfl, rfl⟩
  go_wp2_with fail
  refine (hcl _).mono ?_
  rintro e w' ⟨rfl, rfl⟩
  simp only [What.zero] at e1 e2 e3 hsz' hfin
  generalize hW : World.alloc _ _ = wc at *
  obtain ⟨f0, f1, f2, f3, f4⟩ := box24 (W := wc) (B := wc.heap.size) x (by omega) e1
  obtain ⟨g0, g1, g2, g3, g4, g5⟩ := box44 (W := wc) (B := wc.heap.size) ⟨0, 0, false, false, false, sizeM x.op⟩ (by omega) e3
  obtain ⟨z0, z1, z2, z3, z4, z5⟩ := box44 (W := wc) (B := wc.heap.size) What.zero (by omega) e2
  have hfz := thaw44 (W := wc) (B := wc.heap.size) What.zero (by omega) e2
  have hfz' := thaw44 (W := wc) (B := wc.heap.size) ⟨0, 0, false, false, false, sizeM x.op⟩ (by omega) e3
  have hB : Below wc.heap.size wc wc := Below.refl _ _
  simp only [What.zero] at g0 g1 g2 g3 g4 g5 z0 z1 z2 z3 z4 z5
  have hw1 : w.heap.size < wc.heap.size := by omega
  have hw2 : w.heap.size + 1 < wc.heap.size := by omega
  have hw3 : w.heap.size + 1 + 1 < wc.heap.size := by omega
  have a0 := f0 wc hB
  have a1 := f1 wc hB
  have a2 := f2 wc hB
  have a3 := f3 wc hB
  have a4 := f4 wc hB
  have k0 := g0 wc hB
  have k1 := g1 wc hB
  have k2 := g2 wc hB
  have k3 := g3 wc hB
  have k4 := g4 wc hB
  have k5 := g5 wc hB
  have t0 := z0 wc hB
  have t1 := z1 wc hB
  have t2 := z2 wc hB
  have t3 := z3 wc hB
  have t4 := z4 wc hB
  have t5 := z5 wc hB
  have y0 := hfz 0 wc hB
  have y1 := hfz 1 wc hB
  have y2 := hfz 2 wc hB
  have y3 := hfz 3 wc hB
  have y4 := hfz 4 wc hB
  have y5 := hfz 5 wc hB
  have x0 := hfz' 0 wc hB
  have x1 := hfz' 1 wc hB
  have x3 := hfz' 3 wc hB
  have x4 := hfz' 4 wc hB
  clear f0 f1 f2 f3 f4 g0 g1 g2 g3 g4 g5 z0 z1 z2 z3 z4 z5 hfz hfz' hB hW hsz' e1 e2 e3 hsz8 hcl h224
  generalize hm : x.op / 32 * 32 = m at *
  generalize hz : sizeM x.op = z at *
  rcases HC.out with hG0 | hG0 | hG0 | hG0 | hG0 | hG0 | hG0 | hG0 | hG0 | hG0 | hG0 | hG0 | hG0 | hG0 | hG0 <;> clear HC
  iterate 2
    · have HG := Lib.hid hG0
      clear hG0
      obtain ⟨hc, hd, hm8⟩ := HG.out
      go_wp2_with fail
      go_region
      go_wp2_with fail
      refine bodyPost_ret (v := .tuple #[(movesM x).1.val, .bool (movesM x).2]) ?_ rfl ⟨rfl, ?_⟩
      · simp [results, Try.results62, go_sem, movesM, atomI, *]
        all_goals (subst hat; simp [atomI])
      · (with_reducible repeat (first | assumption | refine Below.setCell ?_ (Nat.le_succ _) _ | refine Below.setCell ?_ (Nat.le_trans (Nat.le_succ _) (Nat.le_succ _)) _ | refine sbelow_drew ?_ | refine sbelow_drewN ?_ | refine sbelow_alloc ?_ (Nat.le_refl _)))
  iterate 2
    · have HG := Lib.hid hG0
      clear hG0
      obtain ⟨hc, hd, hi, hm8⟩ := HG.out
      go_wp2_with fail
      go_region
      go_wp2_with fail
      refine bodyPost_ret (v := .tuple #[(movesM x).1.val, .bool (movesM x).2]) ?_ rfl ⟨rfl, ?_⟩
      · simp [results, Try.results62, go_sem, movesM, atomI, *]
        all_goals (subst hat; simp [atomI])
      · (with_reducible repeat (first | assumption | refine Below.setCell ?_ (Nat.le_succ _) _ | refine Below.setCell ?_ (Nat.le_trans (Nat.le_succ _) (Nat.le_succ _)) _ | refine sbelow_drew ?_ | refine sbelow_drewN ?_ | refine sbelow_alloc ?_ (Nat.le_refl _)))
  · have HG := Lib.hid hG0
    clear hG0
    obtain ⟨hc, hd, hi, hm6, hm8⟩ := HG.out
    go_wp2_with fail
    go_region
    go_wp2_with fail
    refine bodyPost_ret (v := .tuple #[(movesM x).1.val, .bool (movesM x).2]) ?_ rfl ⟨rfl, ?_⟩
    · simp [results, Try.results62, go_sem, movesM, atomI, *]
      all_goals (subst hat; simp [atomI])
    · (with_reducible repeat (first | assumption | refine Below.setCell ?_ (Nat.le_succ _) _ | refine Below.setCell ?_ (Nat.le_trans (Nat.le_succ _) (Nat.le_succ _)) _ | refine sbelow_drew ?_ | refine sbelow_drewN ?_ | refine sbelow_alloc ?_ (Nat.le_refl _)))
  · have HG := Lib.hid hG0
    clear hG0
    obtain ⟨hc, hd, hi, hm6, hm8, hz8⟩ := HG.out
    have hzB : (decide (z < 8)) = true := by simpa using hz8
    go_wp2_with fail
    go_region
    go_wp2_with fail
    refine bodyPost_ret (v := .tuple #[(movesM x).1.val, .bool (movesM x).2]) ?_ rfl ⟨rfl, ?_⟩
    · simp [results, Try.results62, go_sem, movesM, atomI, *]
      all_goals (subst hat; simp [atomI])
    · (with_reducible repeat (first | assumption | refine Below.setCell ?_ (Nat.le_succ _) _ | refine Below.setCell ?_ (Nat.le_trans (Nat.le_succ _) (Nat.le_succ _)) _ | refine sbelow_drew ?_ | refine sbelow_drewN ?_ | refine sbelow_alloc ?_ (Nat.le_refl _)))
  · have HG := Lib.hid hG0
    clear hG0
    obtain ⟨hc, hd, hi, hm6, hm8, hz8⟩ := HG.out
    have hzB : (decide (z < 8)) = false := by simpa using hz8
    go_wp2_with fail
    go_region
    go_wp2_with fail
    refine bodyPost_ret (v := .tuple #[(movesM x).1.val, .bool (movesM x).2]) ?_ rfl ⟨rfl, ?_⟩
    · simp [results, Try.results62, go_sem, movesM, atomI, *]
      all_goals (subst hat; simp [atomI])
    · (with_reducible repeat (first | assumption | refine Below.setCell ?_ (Nat.le_succ _) _ | refine Below.setCell ?_ (Nat.le_trans (Nat.le_succ _) (Nat.le_succ _)) _ | refine sbelow_drew ?_ | refine sbelow_drewN ?_ | refine sbelow_alloc ?_ (Nat.le_refl _)))
  · have HG := Lib.hid hG0
    clear hG0
    obtain ⟨hc, hd, hi, hm6, hm8⟩ := HG.out
    go_wp2_with fail
    go_region
    go_wp2_with fail
    refine bodyPost_ret (v := .tuple #[(movesM x).1.val, .bool (movesM x).2]) ?_ rfl ⟨rfl, ?_⟩
    · simp [results, Try.results62, go_sem, movesM, atomI, *]
      all_goals (subst hat; simp [atomI])
    · (with_reducible repeat (first | assumption | refine Below.setCell ?_ (Nat.le_succ _) _ | refine Below.setCell ?_ (Nat.le_trans (Nat.le_succ _) (Nat.le_succ _)) _ | refine sbelow_drew ?_ | refine sbelow_drewN ?_ | refine sbelow_alloc ?_ (Nat.le_refl _)))
  iterate 2
    · have HG := Lib.hid hG0
      clear hG0
      obtain ⟨hc, hm6⟩ := HG.out
      go_wp2_with fail
      go_region
      go_wp2_with fail
      refine bodyPost_ret (v := .tuple #[(movesM x).1.val, .bool (movesM x).2]) ?_ rfl ⟨rfl, ?_⟩
      · simp [results, Try.results62, go_sem, movesM, atomI, *]
        all_goals (subst hat; simp [atomI])
      · (with_reducible repeat (first | assumption | refine Below.setCell ?_ (Nat.le_succ _) _ | refine Below.setCell ?_ (Nat.le_trans (Nat.le_succ _) (Nat.le_succ _)) _ | refine sbelow_drew ?_ | refine sbelow_drewN ?_ | refine sbelow_alloc ?_ (Nat.le_refl _)))
  · have HG := Lib.hid hG0
    clear hG0
    obtain ⟨hc, hm6⟩ := HG.out
    go_wp2_with fail
    go_region
    go_wp2_with fail
    have hmP : m = 96 := by simpa using hm6
    refine bodyPost_ret (v := .tuple #[(movesM x).1.val, .bool (movesM x).2]) ?_ rfl ⟨rfl, ?_⟩
    · simp [results, Try.results62, go_sem, movesM, atomI, *]
      all_goals (subst hat; simp [atomI])
    · (with_reducible repeat (first | assumption | refine Below.setCell ?_ (Nat.le_succ _) _ | refine Below.setCell ?_ (Nat.le_trans (Nat.le_succ _) (Nat.le_succ _)) _ | refine sbelow_drew ?_ | refine sbelow_drewN ?_ | refine sbelow_alloc ?_ (Nat.le_refl _)))
  · have HG := Lib.hid hG0
    clear hG0
    obtain ⟨hc, hm6, hm9, hz4⟩ := HG.out
    have hzB : (decide (4 ≤ z)) = true := by simpa using hz4
    go_upto_region 15 with fail
    go_region
    go_wp2_with fail
    generalize hwd : World.drew _ = wd at *
    have A0 : wd.cell? ⟨w.heap.size, 0, none⟩ = some (.int .u8 x.op) := by subst hwd; simp [go_sem, a0]
    have A1 : wd.cell? ⟨w.heap.size, 1, none⟩ = some (.int .u8 x.dst) := by subst hwd; simp [go_sem, a1]
    have A2 : wd.cell? ⟨w.heap.size, 2, none⟩ = some (.int .u8 x.src) := by subst hwd; simp [go_sem, a2]
    have A3 : wd.cell? ⟨w.heap.size, 3, none⟩ = some (.int .i16 x.off) := by subst hwd; simp [go_sem, a3]
    have A4 : wd.cell? ⟨w.heap.size, 4, none⟩ = some (.int .i32 x.imm) := by subst hwd; simp [go_sem, a4]
    have K0 : wd.cell? ⟨w.heap.size + 1 + 1, 0, none⟩ = some (.int .u8 8) := by subst hwd; simp [go_sem, k0, k1, k3]
    have K1 : wd.cell? ⟨w.heap.size + 1 + 1, 1, none⟩ = some (.int .u8 (x.imm % 256)) := by subst hwd; simp [go_sem, k0, k1, k3]
    have K2 : wd.cell? ⟨w.heap.size + 1 + 1, 2, none⟩ = some (.bool false) := by subst hwd; simp [go_sem, k2]
    have K3 : wd.cell? ⟨w.heap.size + 1 + 1, 3, none⟩ = some (.bool true) := by subst hwd; simp [go_sem, k0, k1, k3]
    have K4 : wd.cell? ⟨w.heap.size + 1 + 1, 4, none⟩ = some (.bool false) := by subst hwd; simp [go_sem, k4]
    have K5 : wd.cell? ⟨w.heap.size + 1 + 1, 5, none⟩ = some (.int .i64 z) := by subst hwd; simp [go_sem, k5]
    have T0 : wd.cell? ⟨w.heap.size + 1, 0, none⟩ = some (.int .u8 0) := by subst hwd; simp [go_sem, t0]
    have T1 : wd.cell? ⟨w.heap.size + 1, 1, none⟩ = some (.int .u8 0) := by subst hwd; simp [go_sem, t1]
    have T2 : wd.cell? ⟨w.heap.size + 1, 2, none⟩ = some (.bool false) := by subst hwd; simp [go_sem, t2]
    have T3 : wd.cell? ⟨w.heap.size + 1, 3, none⟩ = some (.bool false) := by subst hwd; simp [go_sem, t3]
    have T4 : wd.cell? ⟨w.heap.size + 1, 4, none⟩ = some (.bool false) := by subst hwd; simp [go_sem, t4]
    have T5 : wd.cell? ⟨w.heap.size + 1, 5, none⟩ = some (.int .i64 0) := by subst hwd; simp [go_sem, t5]
    have Y0 : wd.frozen? ⟨w.heap.size + 1, 0, none⟩ = false := by subst hwd; simp [go_sem, y0]
    have Y1 : wd.frozen? ⟨w.heap.size + 1, 1, none⟩ = false := by subst hwd; simp [go_sem, y1]
    have Y2 : wd.frozen? ⟨w.heap.size + 1, 2, none⟩ = false := by subst hwd; simp [go_sem, y2]
    have Y3 : wd.frozen? ⟨w.heap.size + 1, 3, none⟩ = false := by subst hwd; simp [go_sem, y3]
    have Y4 : wd.frozen? ⟨w.heap.size + 1, 4, none⟩ = false := by subst hwd; simp [go_sem, y4]
    have Y5 : wd.frozen? ⟨w.heap.size + 1, 5, none⟩ = false := by subst hwd; simp [go_sem, y5]
    have w1 : w.heap.size < wd.heap.size := by subst hwd; simpa using hw1
    have w2 : w.heap.size + 1 < wd.heap.size := by subst hwd; simpa using hw2
    have w3 : w.heap.size + 1 + 1 < wd.heap.size := by subst hwd; simpa using hw3
    replace hfin : Below w.heap.size w wd := by
      subst hwd
      exact (((hfin.setCell (p := ⟨w.heap.size + 1 + 1, 3, none⟩) (Nat.le_trans (Nat.le_succ _) (Nat.le_succ _)) _).setCell (p := ⟨w.heap.size + 1 + 1, 0, none⟩) (Nat.le_trans (Nat.le_succ _) (Nat.le_succ _)) _).setCell (p := ⟨w.heap.size + 1 + 1, 1, none⟩) (Nat.le_trans (Nat.le_succ _) (Nat.le_succ _)) _).drew
    clear hwd a0 a1 a2 a3 a4 k0 k1 k2 k3 k4 k5 t0 t1 t2 t3 t4 t5 y0 y1 y2 y3 y4 y5 x0 x1 x3 x4 hw1 hw2 hw3
    have hsat := sat_new wd 21 #[.int .i32 0, .int .i32 64, .int .i32 80, .int .i32 160] 1 4 rfl
    have hcon : Calls Try.prog 76 #[.slice (some ⟨wd.heap.size, 0, none⟩) 4 4, .int .i32 x.imm] (wd.alloc (.cells #[.int .i32 0, .int .i32 64, .int .i32 80, .int .i32 160] 21)).drew fun e w' => e = .returned (.bool (atomI x.imm)) ∧ w' = (wd.alloc (.cells #[.int .i32 0, .int .i32 64, .int .i32 80, .int .i32 160] 21)).drew :=
      has_is [0, 64, 80, 160] x.imm _ 4 (by decide) _ ((hsat.below (Below.refl _ _).drew).more (by simp))
    clear hsat
    have u0 := keep2_one (b := w.heap.size + 1 + 1) A0
    have u1 := keep2_one (b := w.heap.size + 1 + 1) A1
    have u2 := keep2_one (b := w.heap.size + 1 + 1) A2
    have u3 := keep2_one (b := w.heap.size + 1 + 1) A3
    have u4 := keep2_one (b := w.heap.size + 1 + 1) A4
    have v0 := keep2_two (a := w.heap.size) K0
    have v1 := keep2_two (a := w.heap.size) K1
    have v2 := keep2_two (a := w.heap.size) K2
    have v3 := keep2_two (a := w.heap.size) K3
    have v4 := keep2_two (a := w.heap.size) K4
    have v5 := keep2_two (a := w.heap.size) K5
    have hK : Keep2 w.heap.size (w.heap.size + 1 + 1) wd wd := keep2_refl
    clear A0 A1 A2 A3 A4 K0 K1 K2 K3 K4 K5
    generalize hat : atomI x.imm = at1 at *
    first | (go_region_held3 (fun w' => Keep2 w.heap.size (w.heap.size + 1 + 1) wd w')
      (with_reducible repeat (first | assumption | refine keep2_drew ?_ | refine keep2_alloc ?_ w1 w3 | refine keep2_set ?_ (Nat.ne_of_lt (Nat.lt_succ_self _)) (Nat.ne_of_gt (Nat.lt_succ_self _))))
      (first | (go_at_call 76; refine hcon.mono ?_; rintro e w' ⟨rfl, rfl⟩))) | fail
    all_goals go_wp2_with fail
    have hmP : ¬ m = 96 := by simpa using hm6
    have hat' : atomI x.imm = at1 := hat
    unfold atomI at hat'
    refine bodyPost_ret (v := .tuple #[(movesM x).1.val, .bool (movesM x).2]) ?_ rfl ⟨rfl, ?_⟩
    · simp [results, Try.results62, go_sem, movesM, atomI, *]
      all_goals (subst hat; simp [atomI])
    · (with_reducible repeat (first | assumption | refine Below.setCell ?_ (Nat.le_succ _) _ | refine Below.setCell ?_ (Nat.le_trans (Nat.le_succ _) (Nat.le_succ _)) _ | refine sbelow_drew ?_ | refine sbelow_drewN ?_ | refine sbelow_alloc ?_ (Nat.le_refl _)))
  · have HG := Lib.hid hG0
    clear hG0
    obtain ⟨hc, hm6, hm9⟩ := HG.out
    go_wp2_with fail
    go_region
    go_wp2_with fail
    go_region
    go_wp2_with fail
    have hmP : ¬ m = 96 := by simpa using hm6
    refine bodyPost_ret (v := .tuple #[(movesM x).1.val, .bool (movesM x).2]) ?_ rfl ⟨rfl, ?_⟩
    · simp [results, Try.results62, go_sem, movesM, atomI, *]
      all_goals (subst hat; simp [atomI])
    · (with_reducible repeat (first | assumption | refine Below.setCell ?_ (Nat.le_succ _) _ | refine Below.setCell ?_ (Nat.le_trans (Nat.le_succ _) (Nat.le_succ _)) _ | refine sbelow_drew ?_ | refine sbelow_drewN ?_ | refine sbelow_alloc ?_ (Nat.le_refl _)))
  · have HG := Lib.hid hG0
    clear hG0
    obtain ⟨hc, hm6, hm9, hz4⟩ := HG.out
    have hzB : (decide (4 ≤ z)) = false := by simpa using hz4
    go_wp2_with fail
    go_region
    go_wp2_with fail
    go_region
    go_wp2_with fail
    have hmP : ¬ m = 96 := by simpa using hm6
    refine bodyPost_ret (v := .tuple #[(movesM x).1.val, .bool (movesM x).2]) ?_ rfl ⟨rfl, ?_⟩
    · simp [results, Try.results62, go_sem, movesM, atomI, *]
      all_goals (subst hat; simp [atomI])
    · (with_reducible repeat (first | assumption | refine Below.setCell ?_ (Nat.le_succ _) _ | refine Below.setCell ?_ (Nat.le_trans (Nat.le_succ _) (Nat.le_succ _)) _ | refine sbelow_drew ?_ | refine sbelow_drewN ?_ | refine sbelow_alloc ?_ (Nat.le_refl _)))
  · have HG := Lib.hid hG0
    clear hG0
    obtain ⟨hc1, hc2, hc3⟩ := HG.out
    go_wp2_with fail
    refine bodyPost_ret (v := .tuple #[(movesM x).1.val, .bool (movesM x).2]) ?_ rfl ⟨rfl, ?_⟩
    · simp [results, Try.results62, go_sem, movesM, atomI, *]
      all_goals (subst hat; simp [atomI])
    · (with_reducible repeat (first | assumption | refine Below.setCell ?_ (Nat.le_succ _) _ | refine Below.setCell ?_ (Nat.le_trans (Nat.le_succ _) (Nat.le_succ _)) _ | refine sbelow_drew ?_ | refine sbelow_drewN ?_ | refine sbelow_alloc ?_ (Nat.le_refl _)))
end Go.Proofs.Ytncogaikiceidaa
end

section
/- The program's moves: stores. No statement is proved here. -/
namespace Go.Proofs.Ytncogaikiceidaa
open Go.RowKit
set_option linter.unusedSimpArgs false
set_option linter.unusedVariables false
attribute [local go_sem ↓] Go.wp_at_zero Go.wp_at_succ
end Go.Proofs.Ytncogaikiceidaa
end

section
/- The program's moves, at every instruction. No statement is proved here. -/
namespace Go.Proofs.Ytncogaikiceidaa
open Go.RowKit
set_option linter.unusedSimpArgs false
set_option linter.unusedVariables false
theorem moves_any (x : Insn) (hx : x.Ok) (w : World) : Calls Try.prog 62 #[x.val] w (WhatAnd w (movesM x)) := by
  by_cases c1 : x.op % 8 = 1
  · cases hd : (x.dst != 10)
    · cases h8 : (x.op / 32 * 32 == 128)
      · exact moves_walk x hx w (.inr (.inl ⟨c1, hd, h8⟩))
      · exact moves_walk x hx w (.inl ⟨c1, hd, h8⟩)
    · cases hi : (x.imm == 0)
      · cases h8 : (x.op / 32 * 32 == 128)
        · exact moves_walk x hx w (.inr (.inr (.inr (.inl ⟨c1, hd, hi, h8⟩))))
        · exact moves_walk x hx w (.inr (.inr (.inl ⟨c1, hd, hi, h8⟩)))
      · cases h6 : (x.op / 32 * 32 == 96)
        · cases h8 : (x.op / 32 * 32 == 128)
          · exact moves_walk x hx w (.inr (.inr (.inr (.inr (.inr (.inr (.inr (.inl ⟨c1, hd, hi, h6, h8⟩))))))))
          · by_cases hz : sizeM x.op < 8
            · exact moves_walk x hx w (.inr (.inr (.inr (.inr (.inr (.inl ⟨c1, hd, hi, h6, h8, hz⟩))))))
            · exact moves_walk x hx w (.inr (.inr (.inr (.inr (.inr (.inr (.inl ⟨c1, hd, hi, h6, h8, hz⟩)))))))
        · cases h8 : (x.op / 32 * 32 == 128)
          · exact moves_walk x hx w (.inr (.inr (.inr (.inr (.inl ⟨c1, hd, hi, h6, h8⟩)))))
          · simp at h6 h8; omega
  by_cases c2 : x.op % 8 = 2
  · cases h6 : (x.op / 32 * 32 == 96)
    · exact moves_walk x hx w (.inr (.inr (.inr (.inr (.inr (.inr (.inr (.inr (.inr (.inl ⟨c2, h6⟩))))))))))
    · exact moves_walk x hx w (.inr (.inr (.inr (.inr (.inr (.inr (.inr (.inr (.inl ⟨c2, h6⟩)))))))))
  by_cases c3 : x.op % 8 = 3
  · cases h6 : (x.op / 32 * 32 == 96)
    · cases h9 : (x.op / 32 * 32 == 192)
      · exact moves_walk x hx w (.inr (.inr (.inr (.inr (.inr (.inr (.inr (.inr (.inr (.inr (.inr (.inr (.inl ⟨c3, h6, h9⟩)))))))))))))
      · by_cases hz : 4 ≤ sizeM x.op
        · exact moves_walk x hx w (.inr (.inr (.inr (.inr (.inr (.inr (.inr (.inr (.inr (.inr (.inr (.inl ⟨c3, h6, h9, hz⟩))))))))))))
        · exact moves_walk x hx w (.inr (.inr (.inr (.inr (.inr (.inr (.inr (.inr (.inr (.inr (.inr (.inr (.inr (.inl ⟨c3, h6, h9, hz⟩))))))))))))))
    · exact moves_walk x hx w (.inr (.inr (.inr (.inr (.inr (.inr (.inr (.inr (.inr (.inr (.inl ⟨c3, h6⟩)))))))))))
  · exact moves_walk x hx w (.inr (.inr (.inr (.inr (.inr (.inr (.inr (.inr (.inr (.inr (.inr (.inr (.inr (.inr ⟨c1, c2, c3⟩))))))))))))))
end Go.Proofs.Ytncogaikiceidaa
end
