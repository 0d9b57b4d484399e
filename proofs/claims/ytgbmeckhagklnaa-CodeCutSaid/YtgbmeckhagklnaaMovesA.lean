/- The program's moves: loads. No statement is proved here. -/
import Derived.Test.YtgbmeckhagklnaaCode5
namespace Go.Proofs.Ytgbmeckhagklnaa
open Go.RowKit
set_option linter.unusedSimpArgs false
set_option linter.unusedVariables false
attribute [local go_sem ↓] Go.wp_at_zero Go.wp_at_succ
set_option maxRecDepth 100000 in
set_option maxHeartbeats 16000000 in
theorem moves_l10 (x : Insn) (hx : x.Ok) (w : World) (hG0 : x.op % 8 = 1 ∧ (x.dst != 10) = false ∧ (x.op / 32 * 32 == 128) = true) : Calls Try.prog 101 #[x.val] w (WhatAnd w (movesM x)) := by
  have HG := Lib.hid hG0
  clear hG0
  have h224 := and224 x.op hx.op0 hx.op1
  have hsz8 := fun w => size_is x.op hx.op0 hx.op1 w
  have hcl := fun w => class_is x hx w
  obtain ⟨e1, e2, e3, hsz, hfin⟩ := three_heap w x.obj What.zero.obj (What.obj ⟨0, 0, false, false, false, sizeM x.op⟩)
  replace e1 := heap_four _ x.obj e1
  replace e2 := heap_four _ x.obj e2
  replace e3 := heap_four _ x.obj e3
  replace hfin := sbelow_alloc (o := x.obj) hfin (Nat.le_refl _)
  have hsz' : ((((w.alloc x.obj).alloc What.zero.obj).alloc (What.obj ⟨0, 0, false, false, false, sizeM x.op⟩)).alloc x.obj).heap.size = w.heap.size + 4 := by simp
  clear hsz
  go_enter Try.func101, Try.ntmps101
  go_wp2_with fail
  refine (hsz8 _).mono ?_
  rintro e w' ⟨rfl, rfl⟩
  go_wp2_with fail
  refine (hcl _).mono ?_
  rintro e w' ⟨rfl, rfl⟩
  simp only [What.zero] at e1 e2 e3 hsz' hfin
  generalize hW : World.alloc _ _ = wc at *
  obtain ⟨f0, f1, f2, f3, f4⟩ := box24 (W := wc) (B := wc.heap.size) x (by omega) e1
  obtain ⟨g0, g1, g2, g3, g4, g5⟩ := box44 (W := wc) (B := wc.heap.size) ⟨0, 0, false, false, false, sizeM x.op⟩ (by omega) e3
  obtain ⟨z0, z1, z2, z3, z4, z5⟩ := box44 (W := wc) (B := wc.heap.size) What.zero (by omega) e2
  have hfz := thaw44 (W := wc) (B := wc.heap.size) What.zero (by omega) e2
  have hfz' := thaw44 (W := wc) (B := wc.heap.size) ⟨0, 0, false, false, false, sizeM x.op⟩ (by omega) e3
  have hB : Below wc.heap.size wc wc := Below.refl _ _
  simp only [What.zero] at g0 g1 g2 g3 g4 g5 z0 z1 z2 z3 z4 z5
  have hw1 : w.heap.size < wc.heap.size := by omega
  have hw2 : w.heap.size + 1 < wc.heap.size := by omega
  have hw3 : w.heap.size + 1 + 1 < wc.heap.size := by omega
  have a0 := f0 wc hB
  have a1 := f1 wc hB
  have a2 := f2 wc hB
  have a3 := f3 wc hB
  have a4 := f4 wc hB
  have k0 := g0 wc hB
  have k1 := g1 wc hB
  have k2 := g2 wc hB
  have k3 := g3 wc hB
  have k4 := g4 wc hB
  have k5 := g5 wc hB
  have t0 := z0 wc hB
  have t1 := z1 wc hB
  have t2 := z2 wc hB
  have t3 := z3 wc hB
  have t4 := z4 wc hB
  have t5 := z5 wc hB
  have y0 := hfz 0 wc hB
  have y1 := hfz 1 wc hB
  have y2 := hfz 2 wc hB
  have y3 := hfz 3 wc hB
  have y4 := hfz 4 wc hB
  have y5 := hfz 5 wc hB
  have x0 := hfz' 0 wc hB
  have x1 := hfz' 1 wc hB
  have x3 := hfz' 3 wc hB
  have x4 := hfz' 4 wc hB
  clear f0 f1 f2 f3 f4 g0 g1 g2 g3 g4 g5 z0 z1 z2 z3 z4 z5 hfz hfz' hB hW hsz' e1 e2 e3 hsz8 hcl h224
  generalize hm : x.op / 32 * 32 = m at *
  generalize hz : sizeM x.op = z at *
  obtain ⟨hc, hd, hm8⟩ := HG.out
  go_wp2_with fail
  go_region
  go_wp2_with fail
  refine bodyPost_ret (v := .tuple #[(movesM x).1.val, .bool (movesM x).2]) ?_ rfl ⟨rfl, ?_⟩
  · simp [results, Try.results101, go_sem, movesM, atomI, *]
    all_goals (subst hat; simp [atomI])
  · (with_reducible repeat (first | assumption | refine Below.setCell ?_ (Nat.le_succ _) _ | refine Below.setCell ?_ (Nat.le_trans (Nat.le_succ _) (Nat.le_succ _)) _ | refine sbelow_drew ?_ | refine sbelow_drewN ?_ | refine sbelow_alloc ?_ (Nat.le_refl _)))

set_option maxRecDepth 100000 in
set_option maxHeartbeats 16000000 in
theorem moves_l10b (x : Insn) (hx : x.Ok) (w : World) (hG0 : x.op % 8 = 1 ∧ (x.dst != 10) = false ∧ (x.op / 32 * 32 == 128) = false) : Calls Try.prog 101 #[x.val] w (WhatAnd w (movesM x)) := by
  have HG := Lib.hid hG0
  clear hG0
  have h224 := and224 x.op hx.op0 hx.op1
  have hsz8 := fun w => size_is x.op hx.op0 hx.op1 w
  have hcl := fun w => class_is x hx w
  obtain ⟨e1, e2, e3, hsz, hfin⟩ := three_heap w x.obj What.zero.obj (What.obj ⟨0, 0, false, false, false, sizeM x.op⟩)
  replace e1 := heap_four _ x.obj e1
  replace e2 := heap_four _ x.obj e2
  replace e3 := heap_four _ x.obj e3
  replace hfin := sbelow_alloc (o := x.obj) hfin (Nat.le_refl _)
  have hsz' : ((((w.alloc x.obj).alloc What.zero.obj).alloc (What.obj ⟨0, 0, false, false, false, sizeM x.op⟩)).alloc x.obj).heap.size = w.heap.size + 4 := by simp
  clear hsz
  go_enter Try.func101, Try.ntmps101
  go_wp2_with fail
  refine (hsz8 _).mono ?_
  rintro e w' ⟨rfl, rfl⟩
  go_wp2_with fail
  refine (hcl _).mono ?_
  rintro e w' ⟨rfl, rfl⟩
  simp only [What.zero] at e1 e2 e3 hsz' hfin
  generalize hW : World.alloc _ _ = wc at *
  obtain ⟨f0, f1, f2, f3, f4⟩ := box24 (W := wc) (B := wc.heap.size) x (by omega) e1
  obtain ⟨g0, g1, g2, g3, g4, g5⟩ := box44 (W := wc) (B := wc.heap.size) ⟨0, 0, false, false, false, sizeM x.op⟩ (by omega) e3
  obtain ⟨z0, z1, z2, z3, z4, z5⟩ := box44 (W := wc) (B := wc.heap.size) What.zero (by omega) e2
  have hfz := thaw44 (W := wc) (B := wc.heap.size) What.zero (by omega) e2
  have hfz' := thaw44 (W := wc) (B := wc.heap.size) ⟨0, 0, false, false, false, sizeM x.op⟩ (by omega) e3
  have hB : Below wc.heap.size wc wc := Below.refl _ _
  simp only [What.zero] at g0 g1 g2 g3 g4 g5 z0 z1 z2 z3 z4 z5
  have hw1 : w.heap.size < wc.heap.size := by omega
  have hw2 : w.heap.size + 1 < wc.heap.size := by omega
  have hw3 : w.heap.size + 1 + 1 < wc.heap.size := by omega
  have a0 := f0 wc hB
  have a1 := f1 wc hB
  have a2 := f2 wc hB
  have a3 := f3 wc hB
  have a4 := f4 wc hB
  have k0 := g0 wc hB
  have k1 := g1 wc hB
  have k2 := g2 wc hB
  have k3 := g3 wc hB
  have k4 := g4 wc hB
  have k5 := g5 wc hB
  have t0 := z0 wc hB
  have t1 := z1 wc hB
  have t2 := z2 wc hB
  have t3 := z3 wc hB
  have t4 := z4 wc hB
  have t5 := z5 wc hB
  have y0 := hfz 0 wc hB
  have y1 := hfz 1 wc hB
  have y2 := hfz 2 wc hB
  have y3 := hfz 3 wc hB
  have y4 := hfz 4 wc hB
  have y5 := hfz 5 wc hB
  have x0 := hfz' 0 wc hB
  have x1 := hfz' 1 wc hB
  have x3 := hfz' 3 wc hB
  have x4 := hfz' 4 wc hB
  clear f0 f1 f2 f3 f4 g0 g1 g2 g3 g4 g5 z0 z1 z2 z3 z4 z5 hfz hfz' hB hW hsz' e1 e2 e3 hsz8 hcl h224
  generalize hm : x.op / 32 * 32 = m at *
  generalize hz : sizeM x.op = z at *
  obtain ⟨hc, hd, hm8⟩ := HG.out
  go_wp2_with fail
  go_region
  go_wp2_with fail
  refine bodyPost_ret (v := .tuple #[(movesM x).1.val, .bool (movesM x).2]) ?_ rfl ⟨rfl, ?_⟩
  · simp [results, Try.results101, go_sem, movesM, atomI, *]
    all_goals (subst hat; simp [atomI])
  · (with_reducible repeat (first | assumption | refine Below.setCell ?_ (Nat.le_succ _) _ | refine Below.setCell ?_ (Nat.le_trans (Nat.le_succ _) (Nat.le_succ _)) _ | refine sbelow_drew ?_ | refine sbelow_drewN ?_ | refine sbelow_alloc ?_ (Nat.le_refl _)))

set_option maxRecDepth 100000 in
set_option maxHeartbeats 16000000 in
theorem moves_li (x : Insn) (hx : x.Ok) (w : World) (hG0 : x.op % 8 = 1 ∧ (x.dst != 10) = true ∧ (x.imm == 0) = false ∧ (x.op / 32 * 32 == 128) = true) : Calls Try.prog 101 #[x.val] w (WhatAnd w (movesM x)) := by
  have HG := Lib.hid hG0
  clear hG0
  have h224 := and224 x.op hx.op0 hx.op1
  have hsz8 := fun w => size_is x.op hx.op0 hx.op1 w
  have hcl := fun w => class_is x hx w
  obtain ⟨e1, e2, e3, hsz, hfin⟩ := three_heap w x.obj What.zero.obj (What.obj ⟨0, 0, false, false, false, sizeM x.op⟩)
  replace e1 := heap_four _ x.obj e1
  replace e2 := heap_four _ x.obj e2
  replace e3 := heap_four _ x.obj e3
  replace hfin := sbelow_alloc (o := x.obj) hfin (Nat.le_refl _)
  have hsz' : ((((w.alloc x.obj).alloc What.zero.obj).alloc (What.obj ⟨0, 0, false, false, false, sizeM x.op⟩)).alloc x.obj).heap.size = w.heap.size + 4 := by simp
  clear hsz
  go_enter Try.func101, Try.ntmps101
  go_wp2_with fail
  refine (hsz8 _).mono ?_
  rintro e w' ⟨rfl, rfl⟩
  go_wp2_with fail
  refine (hcl _).mono ?_
  rintro e w' ⟨rfl, rfl⟩
  simp only [What.zero] at e1 e2 e3 hsz' hfin
  generalize hW : World.alloc _ _ = wc at *
  obtain ⟨f0, f1, f2, f3, f4⟩ := box24 (W := wc) (B := wc.heap.size) x (by omega) e1
  obtain ⟨g0, g1, g2, g3, g4, g5⟩ := box44 (W := wc) (B := wc.heap.size) ⟨0, 0, false, false, false, sizeM x.op⟩ (by omega) e3
  obtain ⟨z0, z1, z2, z3, z4, z5⟩ := box44 (W := wc) (B := wc.heap.size) What.zero (by omega) e2
  have hfz := thaw44 (W := wc) (B := wc.heap.size) What.zero (by omega) e2
  have hfz' := thaw44 (W := wc) (B := wc.heap.size) ⟨0, 0, false, false, false, sizeM x.op⟩ (by omega) e3
  have hB : Below wc.heap.size wc wc := Below.refl _ _
  simp only [What.zero] at g0 g1 g2 g3 g4 g5 z0 z1 z2 z3 z4 z5
  have hw1 : w.heap.size < wc.heap.size := by omega
  have hw2 : w.heap.size + 1 < wc.heap.size := by omega
  have hw3 : w.heap.size + 1 + 1 < wc.heap.size := by omega
  have a0 := f0 wc hB
  have a1 := f1 wc hB
  have a2 := f2 wc hB
  have a3 := f3 wc hB
  have a4 := f4 wc hB
  have k0 := g0 wc hB
  have k1 := g1 wc hB
  have k2 := g2 wc hB
  have k3 := g3 wc hB
  have k4 := g4 wc hB
  have k5 := g5 wc hB
  have t0 := z0 wc hB
  have t1 := z1 wc hB
  have t2 := z2 wc hB
  have t3 := z3 wc hB
  have t4 := z4 wc hB
  have t5 := z5 wc hB
  have y0 := hfz 0 wc hB
  have y1 := hfz 1 wc hB
  have y2 := hfz 2 wc hB
  have y3 := hfz 3 wc hB
  have y4 := hfz 4 wc hB
  have y5 := hfz 5 wc hB
  have x0 := hfz' 0 wc hB
  have x1 := hfz' 1 wc hB
  have x3 := hfz' 3 wc hB
  have x4 := hfz' 4 wc hB
  clear f0 f1 f2 f3 f4 g0 g1 g2 g3 g4 g5 z0 z1 z2 z3 z4 z5 hfz hfz' hB hW hsz' e1 e2 e3 hsz8 hcl h224
  generalize hm : x.op / 32 * 32 = m at *
  generalize hz : sizeM x.op = z at *
  obtain ⟨hc, hd, hi, hm8⟩ := HG.out
  go_wp2_with fail
  go_region
  go_wp2_with fail
  refine bodyPost_ret (v := .tuple #[(movesM x).1.val, .bool (movesM x).2]) ?_ rfl ⟨rfl, ?_⟩
  · simp [results, Try.results101, go_sem, movesM, atomI, *]
    all_goals (subst hat; simp [atomI])
  · (with_reducible repeat (first | assumption | refine Below.setCell ?_ (Nat.le_succ _) _ | refine Below.setCell ?_ (Nat.le_trans (Nat.le_succ _) (Nat.le_succ _)) _ | refine sbelow_drew ?_ | refine sbelow_drewN ?_ | refine sbelow_alloc ?_ (Nat.le_refl _)))

set_option maxRecDepth 100000 in
set_option maxHeartbeats 16000000 in
theorem moves_lib (x : Insn) (hx : x.Ok) (w : World) (hG0 : x.op % 8 = 1 ∧ (x.dst != 10) = true ∧ (x.imm == 0) = false ∧ (x.op / 32 * 32 == 128) = false) : Calls Try.prog 101 #[x.val] w (WhatAnd w (movesM x)) := by
  have HG := Lib.hid hG0
  clear hG0
  have h224 := and224 x.op hx.op0 hx.op1
  have hsz8 := fun w => size_is x.op hx.op0 hx.op1 w
  have hcl := fun w => class_is x hx w
  obtain ⟨e1, e2, e3, hsz, hfin⟩ := three_heap w x.obj What.zero.obj (What.obj ⟨0, 0, false, false, false, sizeM x.op⟩)
  replace e1 := heap_four _ x.obj e1
  replace e2 := heap_four _ x.obj e2
  replace e3 := heap_four _ x.obj e3
  replace hfin := sbelow_alloc (o := x.obj) hfin (Nat.le_refl _)
  have hsz' : ((((w.alloc x.obj).alloc What.zero.obj).alloc (What.obj ⟨0, 0, false, false, false, sizeM x.op⟩)).alloc x.obj).heap.size = w.heap.size + 4 := by simp
  clear hsz
  go_enter Try.func101, Try.ntmps101
  go_wp2_with fail
  refine (hsz8 _).mono ?_
  rintro e w' ⟨rfl, rfl⟩
  go_wp2_with fail
  refine (hcl _).mono ?_
  rintro e w' ⟨rfl, rfl⟩
  simp only [What.zero] at e1 e2 e3 hsz' hfin
  generalize hW : World.alloc _ _ = wc at *
  obtain ⟨f0, f1, f2, f3, f4⟩ := box24 (W := wc) (B := wc.heap.size) x (by omega) e1
  obtain ⟨g0, g1, g2, g3, g4, g5⟩ := box44 (W := wc) (B := wc.heap.size) ⟨0, 0, false, false, false, sizeM x.op⟩ (by omega) e3
  obtain ⟨z0, z1, z2, z3, z4, z5⟩ := box44 (W := wc) (B := wc.heap.size) What.zero (by omega) e2
  have hfz := thaw44 (W := wc) (B := wc.heap.size) What.zero (by omega) e2
  have hfz' := thaw44 (W := wc) (B := wc.heap.size) ⟨0, 0, false, false, false, sizeM x.op⟩ (by omega) e3
  have hB : Below wc.heap.size wc wc := Below.refl _ _
  simp only [What.zero] at g0 g1 g2 g3 g4 g5 z0 z1 z2 z3 z4 z5
  have hw1 : w.heap.size < wc.heap.size := by omega
  have hw2 : w.heap.size + 1 < wc.heap.size := by omega
  have hw3 : w.heap.size + 1 + 1 < wc.heap.size := by omega
  have a0 := f0 wc hB
  have a1 := f1 wc hB
  have a2 := f2 wc hB
  have a3 := f3 wc hB
  have a4 := f4 wc hB
  have k0 := g0 wc hB
  have k1 := g1 wc hB
  have k2 := g2 wc hB
  have k3 := g3 wc hB
  have k4 := g4 wc hB
  have k5 := g5 wc hB
  have t0 := z0 wc hB
  have t1 := z1 wc hB
  have t2 := z2 wc hB
  have t3 := z3 wc hB
  have t4 := z4 wc hB
  have t5 := z5 wc hB
  have y0 := hfz 0 wc hB
  have y1 := hfz 1 wc hB
  have y2 := hfz 2 wc hB
  have y3 := hfz 3 wc hB
  have y4 := hfz 4 wc hB
  have y5 := hfz 5 wc hB
  have x0 := hfz' 0 wc hB
  have x1 := hfz' 1 wc hB
  have x3 := hfz' 3 wc hB
  have x4 := hfz' 4 wc hB
  clear f0 f1 f2 f3 f4 g0 g1 g2 g3 g4 g5 z0 z1 z2 z3 z4 z5 hfz hfz' hB hW hsz' e1 e2 e3 hsz8 hcl h224
  generalize hm : x.op / 32 * 32 = m at *
  generalize hz : sizeM x.op = z at *
  obtain ⟨hc, hd, hi, hm8⟩ := HG.out
  go_wp2_with fail
  go_region
  go_wp2_with fail
  refine bodyPost_ret (v := .tuple #[(movesM x).1.val, .bool (movesM x).2]) ?_ rfl ⟨rfl, ?_⟩
  · simp [results, Try.results101, go_sem, movesM, atomI, *]
    all_goals (subst hat; simp [atomI])
  · (with_reducible repeat (first | assumption | refine Below.setCell ?_ (Nat.le_succ _) _ | refine Below.setCell ?_ (Nat.le_trans (Nat.le_succ _) (Nat.le_succ _)) _ | refine sbelow_drew ?_ | refine sbelow_drewN ?_ | refine sbelow_alloc ?_ (Nat.le_refl _)))

set_option maxRecDepth 100000 in
set_option maxHeartbeats 16000000 in
theorem moves_l96 (x : Insn) (hx : x.Ok) (w : World) (hG0 : x.op % 8 = 1 ∧ (x.dst != 10) = true ∧ (x.imm == 0) = true ∧ (x.op / 32 * 32 == 96) = true ∧ (x.op / 32 * 32 == 128) = false) : Calls Try.prog 101 #[x.val] w (WhatAnd w (movesM x)) := by
  have HG := Lib.hid hG0
  clear hG0
  have h224 := and224 x.op hx.op0 hx.op1
  have hsz8 := fun w => size_is x.op hx.op0 hx.op1 w
  have hcl := fun w => class_is x hx w
  obtain ⟨e1, e2, e3, hsz, hfin⟩ := three_heap w x.obj What.zero.obj (What.obj ⟨0, 0, false, false, false, sizeM x.op⟩)
  replace e1 := heap_four _ x.obj e1
  replace e2 := heap_four _ x.obj e2
  replace e3 := heap_four _ x.obj e3
  replace hfin := sbelow_alloc (o := x.obj) hfin (Nat.le_refl _)
  have hsz' : ((((w.alloc x.obj).alloc What.zero.obj).alloc (What.obj ⟨0, 0, false, false, false, sizeM x.op⟩)).alloc x.obj).heap.size = w.heap.size + 4 := by simp
  clear hsz
  go_enter Try.func101, Try.ntmps101
  go_wp2_with fail
  refine (hsz8 _).mono ?_
  rintro e w' ⟨rfl, rfl⟩
  go_wp2_with fail
  refine (hcl _).mono ?_
  rintro e w' ⟨rfl, rfl⟩
  simp only [What.zero] at e1 e2 e3 hsz' hfin
  generalize hW : World.alloc _ _ = wc at *
  obtain ⟨f0, f1, f2, f3, f4⟩ := box24 (W := wc) (B := wc.heap.size) x (by omega) e1
  obtain ⟨g0, g1, g2, g3, g4, g5⟩ := box44 (W := wc) (B := wc.heap.size) ⟨0, 0, false, false, false, sizeM x.op⟩ (by omega) e3
  obtain ⟨z0, z1, z2, z3, z4, z5⟩ := box44 (W := wc) (B := wc.heap.size) What.zero (by omega) e2
  have hfz := thaw44 (W := wc) (B := wc.heap.size) What.zero (by omega) e2
  have hfz' := thaw44 (W := wc) (B := wc.heap.size) ⟨0, 0, false, false, false, sizeM x.op⟩ (by omega) e3
  have hB : Below wc.heap.size wc wc := Below.refl _ _
  simp only [What.zero] at g0 g1 g2 g3 g4 g5 z0 z1 z2 z3 z4 z5
  have hw1 : w.heap.size < wc.heap.size := by omega
  have hw2 : w.heap.size + 1 < wc.heap.size := by omega
  have hw3 : w.heap.size + 1 + 1 < wc.heap.size := by omega
  have a0 := f0 wc hB
  have a1 := f1 wc hB
  have a2 := f2 wc hB
  have a3 := f3 wc hB
  have a4 := f4 wc hB
  have k0 := g0 wc hB
  have k1 := g1 wc hB
  have k2 := g2 wc hB
  have k3 := g3 wc hB
  have k4 := g4 wc hB
  have k5 := g5 wc hB
  have t0 := z0 wc hB
  have t1 := z1 wc hB
  have t2 := z2 wc hB
  have t3 := z3 wc hB
  have t4 := z4 wc hB
  have t5 := z5 wc hB
  have y0 := hfz 0 wc hB
  have y1 := hfz 1 wc hB
  have y2 := hfz 2 wc hB
  have y3 := hfz 3 wc hB
  have y4 := hfz 4 wc hB
  have y5 := hfz 5 wc hB
  have x0 := hfz' 0 wc hB
  have x1 := hfz' 1 wc hB
  have x3 := hfz' 3 wc hB
  have x4 := hfz' 4 wc hB
  clear f0 f1 f2 f3 f4 g0 g1 g2 g3 g4 g5 z0 z1 z2 z3 z4 z5 hfz hfz' hB hW hsz' e1 e2 e3 hsz8 hcl h224
  generalize hm : x.op / 32 * 32 = m at *
  generalize hz : sizeM x.op = z at *
  obtain ⟨hc, hd, hi, hm6, hm8⟩ := HG.out
  go_wp2_with fail
  go_region
  go_wp2_with fail
  refine bodyPost_ret (v := .tuple #[(movesM x).1.val, .bool (movesM x).2]) ?_ rfl ⟨rfl, ?_⟩
  · simp [results, Try.results101, go_sem, movesM, atomI, *]
    all_goals (subst hat; simp [atomI])
  · (with_reducible repeat (first | assumption | refine Below.setCell ?_ (Nat.le_succ _) _ | refine Below.setCell ?_ (Nat.le_trans (Nat.le_succ _) (Nat.le_succ _)) _ | refine sbelow_drew ?_ | refine sbelow_drewN ?_ | refine sbelow_alloc ?_ (Nat.le_refl _)))

set_option maxRecDepth 100000 in
set_option maxHeartbeats 16000000 in
theorem moves_l128y (x : Insn) (hx : x.Ok) (w : World) (hG0 : x.op % 8 = 1 ∧ (x.dst != 10) = true ∧ (x.imm == 0) = true ∧ (x.op / 32 * 32 == 96) = false ∧ (x.op / 32 * 32 == 128) = true ∧ sizeM x.op < 8) : Calls Try.prog 101 #[x.val] w (WhatAnd w (movesM x)) := by
  have HG := Lib.hid hG0
  clear hG0
  have h224 := and224 x.op hx.op0 hx.op1
  have hsz8 := fun w => size_is x.op hx.op0 hx.op1 w
  have hcl := fun w => class_is x hx w
  obtain ⟨e1, e2, e3, hsz, hfin⟩ := three_heap w x.obj What.zero.obj (What.obj ⟨0, 0, false, false, false, sizeM x.op⟩)
  replace e1 := heap_four _ x.obj e1
  replace e2 := heap_four _ x.obj e2
  replace e3 := heap_four _ x.obj e3
  replace hfin := sbelow_alloc (o := x.obj) hfin (Nat.le_refl _)
  have hsz' : ((((w.alloc x.obj).alloc What.zero.obj).alloc (What.obj ⟨0, 0, false, false, false, sizeM x.op⟩)).alloc x.obj).heap.size = w.heap.size + 4 := by simp
  clear hsz
  go_enter Try.func101, Try.ntmps101
  go_wp2_with fail
  refine (hsz8 _).mono ?_
  rintro e w' ⟨rfl, rfl⟩
  go_wp2_with fail
  refine (hcl _).mono ?_
  rintro e w' ⟨rfl, rfl⟩
  simp only [What.zero] at e1 e2 e3 hsz' hfin
  generalize hW : World.alloc _ _ = wc at *
  obtain ⟨f0, f1, f2, f3, f4⟩ := box24 (W := wc) (B := wc.heap.size) x (by omega) e1
  obtain ⟨g0, g1, g2, g3, g4, g5⟩ := box44 (W := wc) (B := wc.heap.size) ⟨0, 0, false, false, false, sizeM x.op⟩ (by omega) e3
  obtain ⟨z0, z1, z2, z3, z4, z5⟩ := box44 (W := wc) (B := wc.heap.size) What.zero (by omega) e2
  have hfz := thaw44 (W := wc) (B := wc.heap.size) What.zero (by omega) e2
  have hfz' := thaw44 (W := wc) (B := wc.heap.size) ⟨0, 0, false, false, false, sizeM x.op⟩ (by omega) e3
  have hB : Below wc.heap.size wc wc := Below.refl _ _
  simp only [What.zero] at g0 g1 g2 g3 g4 g5 z0 z1 z2 z3 z4 z5
  have hw1 : w.heap.size < wc.heap.size := by omega
  have hw2 : w.heap.size + 1 < wc.heap.size := by omega
  have hw3 : w.heap.size + 1 + 1 < wc.heap.size := by omega
  have a0 := f0 wc hB
  have a1 := f1 wc hB
  have a2 := f2 wc hB
  have a3 := f3 wc hB
  have a4 := f4 wc hB
  have k0 := g0 wc hB
  have k1 := g1 wc hB
  have k2 := g2 wc hB
  have k3 := g3 wc hB
  have k4 := g4 wc hB
  have k5 := g5 wc hB
  have t0 := z0 wc hB
  have t1 := z1 wc hB
  have t2 := z2 wc hB
  have t3 := z3 wc hB
  have t4 := z4 wc hB
  have t5 := z5 wc hB
  have y0 := hfz 0 wc hB
  have y1 := hfz 1 wc hB
  have y2 := hfz 2 wc hB
  have y3 := hfz 3 wc hB
  have y4 := hfz 4 wc hB
  have y5 := hfz 5 wc hB
  have x0 := hfz' 0 wc hB
  have x1 := hfz' 1 wc hB
  have x3 := hfz' 3 wc hB
  have x4 := hfz' 4 wc hB
  clear f0 f1 f2 f3 f4 g0 g1 g2 g3 g4 g5 z0 z1 z2 z3 z4 z5 hfz hfz' hB hW hsz' e1 e2 e3 hsz8 hcl h224
  generalize hm : x.op / 32 * 32 = m at *
  generalize hz : sizeM x.op = z at *
  obtain ⟨hc, hd, hi, hm6, hm8, hz8⟩ := HG.out
  have hzB : (decide (z < 8)) = true := by simpa using hz8
  go_wp2_with fail
  go_region
  go_wp2_with fail
  refine bodyPost_ret (v := .tuple #[(movesM x).1.val, .bool (movesM x).2]) ?_ rfl ⟨rfl, ?_⟩
  · simp [results, Try.results101, go_sem, movesM, atomI, *]
    all_goals (subst hat; simp [atomI])
  · (with_reducible repeat (first | assumption | refine Below.setCell ?_ (Nat.le_succ _) _ | refine Below.setCell ?_ (Nat.le_trans (Nat.le_succ _) (Nat.le_succ _)) _ | refine sbelow_drew ?_ | refine sbelow_drewN ?_ | refine sbelow_alloc ?_ (Nat.le_refl _)))

set_option maxRecDepth 100000 in
set_option maxHeartbeats 16000000 in
theorem moves_l128n (x : Insn) (hx : x.Ok) (w : World) (hG0 : x.op % 8 = 1 ∧ (x.dst != 10) = true ∧ (x.imm == 0) = true ∧ (x.op / 32 * 32 == 96) = false ∧ (x.op / 32 * 32 == 128) = true ∧ ¬ sizeM x.op < 8) : Calls Try.prog 101 #[x.val] w (WhatAnd w (movesM x)) := by
  have HG := Lib.hid hG0
  clear hG0
  have h224 := and224 x.op hx.op0 hx.op1
  have hsz8 := fun w => size_is x.op hx.op0 hx.op1 w
  have hcl := fun w => class_is x hx w
  obtain ⟨e1, e2, e3, hsz, hfin⟩ := three_heap w x.obj What.zero.obj (What.obj ⟨0, 0, false, false, false, sizeM x.op⟩)
  replace e1 := heap_four _ x.obj e1
  replace e2 := heap_four _ x.obj e2
  replace e3 := heap_four _ x.obj e3
  replace hfin := sbelow_alloc (o := x.obj) hfin (Nat.le_refl _)
  have hsz' : ((((w.alloc x.obj).alloc What.zero.obj).alloc (What.obj ⟨0, 0, false, false, false, sizeM x.op⟩)).alloc x.obj).heap.size = w.heap.size + 4 := by simp
  clear hsz
  go_enter Try.func101, Try.ntmps101
  go_wp2_with fail
  refine (hsz8 _).mono ?_
  rintro e w' ⟨rfl, rfl⟩
  go_wp2_with fail
  refine (hcl _).mono ?_
  rintro e w' ⟨rfl, rfl⟩
  simp only [What.zero] at e1 e2 e3 hsz' hfin
  generalize hW : World.alloc _ _ = wc at *
  obtain ⟨f0, f1, f2, f3, f4⟩ := box24 (W := wc) (B := wc.heap.size) x (by omega) e1
  obtain ⟨g0, g1, g2, g3, g4, g5⟩ := box44 (W := wc) (B := wc.heap.size) ⟨0, 0, false, false, false, sizeM x.op⟩ (by omega) e3
  obtain ⟨z0, z1, z2, z3, z4, z5⟩ := box44 (W := wc) (B := wc.heap.size) What.zero (by omega) e2
  have hfz := thaw44 (W := wc) (B := wc.heap.size) What.zero (by omega) e2
  have hfz' := thaw44 (W := wc) (B := wc.heap.size) ⟨0, 0, false, false, false, sizeM x.op⟩ (by omega) e3
  have hB : Below wc.heap.size wc wc := Below.refl _ _
  simp only [What.zero] at g0 g1 g2 g3 g4 g5 z0 z1 z2 z3 z4 z5
  have hw1 : w.heap.size < wc.heap.size := by omega
  have hw2 : w.heap.size + 1 < wc.heap.size := by omega
  have hw3 : w.heap.size + 1 + 1 < wc.heap.size := by omega
  have a0 := f0 wc hB
  have a1 := f1 wc hB
  have a2 := f2 wc hB
  have a3 := f3 wc hB
  have a4 := f4 wc hB
  have k0 := g0 wc hB
  have k1 := g1 wc hB
  have k2 := g2 wc hB
  have k3 := g3 wc hB
  have k4 := g4 wc hB
  have k5 := g5 wc hB
  have t0 := z0 wc hB
  have t1 := z1 wc hB
  have t2 := z2 wc hB
  have t3 := z3 wc hB
  have t4 := z4 wc hB
  have t5 := z5 wc hB
  have y0 := hfz 0 wc hB
  have y1 := hfz 1 wc hB
  have y2 := hfz 2 wc hB
  have y3 := hfz 3 wc hB
  have y4 := hfz 4 wc hB
  have y5 := hfz 5 wc hB
  have x0 := hfz' 0 wc hB
  have x1 := hfz' 1 wc hB
  have x3 := hfz' 3 wc hB
  have x4 := hfz' 4 wc hB
  clear f0 f1 f2 f3 f4 g0 g1 g2 g3 g4 g5 z0 z1 z2 z3 z4 z5 hfz hfz' hB hW hsz' e1 e2 e3 hsz8 hcl h224
  generalize hm : x.op / 32 * 32 = m at *
  generalize hz : sizeM x.op = z at *
  obtain ⟨hc, hd, hi, hm6, hm8, hz8⟩ := HG.out
  have hzB : (decide (z < 8)) = false := by simpa using hz8
  go_wp2_with fail
  go_region
  go_wp2_with fail
  refine bodyPost_ret (v := .tuple #[(movesM x).1.val, .bool (movesM x).2]) ?_ rfl ⟨rfl, ?_⟩
  · simp [results, Try.results101, go_sem, movesM, atomI, *]
    all_goals (subst hat; simp [atomI])
  · (with_reducible repeat (first | assumption | refine Below.setCell ?_ (Nat.le_succ _) _ | refine Below.setCell ?_ (Nat.le_trans (Nat.le_succ _) (Nat.le_succ _)) _ | refine sbelow_drew ?_ | refine sbelow_drewN ?_ | refine sbelow_alloc ?_ (Nat.le_refl _)))

set_option maxRecDepth 100000 in
set_option maxHeartbeats 16000000 in
theorem moves_lno (x : Insn) (hx : x.Ok) (w : World) (hG0 : x.op % 8 = 1 ∧ (x.dst != 10) = true ∧ (x.imm == 0) = true ∧ (x.op / 32 * 32 == 96) = false ∧ (x.op / 32 * 32 == 128) = false) : Calls Try.prog 101 #[x.val] w (WhatAnd w (movesM x)) := by
  have HG := Lib.hid hG0
  clear hG0
  have h224 := and224 x.op hx.op0 hx.op1
  have hsz8 := fun w => size_is x.op hx.op0 hx.op1 w
  have hcl := fun w => class_is x hx w
  obtain ⟨e1, e2, e3, hsz, hfin⟩ := three_heap w x.obj What.zero.obj (What.obj ⟨0, 0, false, false, false, sizeM x.op⟩)
  replace e1 := heap_four _ x.obj e1
  replace e2 := heap_four _ x.obj e2
  replace e3 := heap_four _ x.obj e3
  replace hfin := sbelow_alloc (o := x.obj) hfin (Nat.le_refl _)
  have hsz' : ((((w.alloc x.obj).alloc What.zero.obj).alloc (What.obj ⟨0, 0, false, false, false, sizeM x.op⟩)).alloc x.obj).heap.size = w.heap.size + 4 := by simp
  clear hsz
  go_enter Try.func101, Try.ntmps101
  go_wp2_with fail
  refine (hsz8 _).mono ?_
  rintro e w' ⟨rfl, rfl⟩
  go_wp2_with fail
  refine (hcl _).mono ?_
  rintro e w' ⟨rfl, rfl⟩
  simp only [What.zero] at e1 e2 e3 hsz' hfin
  generalize hW : World.alloc _ _ = wc at *
  obtain ⟨f0, f1, f2, f3, f4⟩ := box24 (W := wc) (B := wc.heap.size) x (by omega) e1
  obtain ⟨g0, g1, g2, g3, g4, g5⟩ := box44 (W := wc) (B := wc.heap.size) ⟨0, 0, false, false, false, sizeM x.op⟩ (by omega) e3
  obtain ⟨z0, z1, z2, z3, z4, z5⟩ := box44 (W := wc) (B := wc.heap.size) What.zero (by omega) e2
  have hfz := thaw44 (W := wc) (B := wc.heap.size) What.zero (by omega) e2
  have hfz' := thaw44 (W := wc) (B := wc.heap.size) ⟨0, 0, false, false, false, sizeM x.op⟩ (by omega) e3
  have hB : Below wc.heap.size wc wc := Below.refl _ _
  simp only [What.zero] at g0 g1 g2 g3 g4 g5 z0 z1 z2 z3 z4 z5
  have hw1 : w.heap.size < wc.heap.size := by omega
  have hw2 : w.heap.size + 1 < wc.heap.size := by omega
  have hw3 : w.heap.size + 1 + 1 < wc.heap.size := by omega
  have a0 := f0 wc hB
  have a1 := f1 wc hB
  have a2 := f2 wc hB
  have a3 := f3 wc hB
  have a4 := f4 wc hB
  have k0 := g0 wc hB
  have k1 := g1 wc hB
  have k2 := g2 wc hB
  have k3 := g3 wc hB
  have k4 := g4 wc hB
  have k5 := g5 wc hB
  have t0 := z0 wc hB
  have t1 := z1 wc hB
  have t2 := z2 wc hB
  have t3 := z3 wc hB
  have t4 := z4 wc hB
  have t5 := z5 wc hB
  have y0 := hfz 0 wc hB
  have y1 := hfz 1 wc hB
  have y2 := hfz 2 wc hB
  have y3 := hfz 3 wc hB
  have y4 := hfz 4 wc hB
  have y5 := hfz 5 wc hB
  have x0 := hfz' 0 wc hB
  have x1 := hfz' 1 wc hB
  have x3 := hfz' 3 wc hB
  have x4 := hfz' 4 wc hB
  clear f0 f1 f2 f3 f4 g0 g1 g2 g3 g4 g5 z0 z1 z2 z3 z4 z5 hfz hfz' hB hW hsz' e1 e2 e3 hsz8 hcl h224
  generalize hm : x.op / 32 * 32 = m at *
  generalize hz : sizeM x.op = z at *
  obtain ⟨hc, hd, hi, hm6, hm8⟩ := HG.out
  go_wp2_with fail
  go_region
  go_wp2_with fail
  refine bodyPost_ret (v := .tuple #[(movesM x).1.val, .bool (movesM x).2]) ?_ rfl ⟨rfl, ?_⟩
  · simp [results, Try.results101, go_sem, movesM, atomI, *]
    all_goals (subst hat; simp [atomI])
  · (with_reducible repeat (first | assumption | refine Below.setCell ?_ (Nat.le_succ _) _ | refine Below.setCell ?_ (Nat.le_trans (Nat.le_succ _) (Nat.le_succ _)) _ | refine sbelow_drew ?_ | refine sbelow_drewN ?_ | refine sbelow_alloc ?_ (Nat.le_refl _)))
end Go.Proofs.Ytgbmeckhagklnaa
