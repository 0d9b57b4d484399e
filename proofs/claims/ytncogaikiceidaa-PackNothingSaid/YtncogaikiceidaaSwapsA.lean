/- The program's swaps, some ways. No statement is proved here. -/
import Derived.Test.YtncogaikiceidaaInsn1
namespace Go.Proofs.Ytncogaikiceidaa
set_option maxRecDepth 100000
open Go.RowKit
set_option linter.unusedSimpArgs false
set_option linter.unusedVariables false
attribute [local go_sem ↓] Go.wp_at_zero Go.wp_at_succ
attribute [local go_sem] Go.undef
set_option maxHeartbeats 16000000 in
theorem swaps_ten (x : Insn) (hx : x.Ok) (w : World) (hG0 : x.dst = 10) : Calls Try.prog 58 #[x.val] w (WhatAnd w (swapsM x)) := by
  have HG := Lib.hid hG0
  clear hG0
  have htd := tdiv8 x.imm hx.imm0 hx.imm1
  obtain ⟨e1, e2, e3, hsz, hfin⟩ := three_heap w x.obj What.zero.obj (What.obj ⟨2, 0, x.op != 212, false, false, x.imm.tdiv 8⟩)
  go_enter Try.func58, Try.ntmps58
  go_wp2_with fail
  simp only [What.zero] at e1 e2 e3 hsz hfin
  generalize hW : World.alloc _ _ = wc at *
  obtain ⟨f0, f1, f2, f3, f4⟩ := box24 (W := wc) (B := wc.heap.size) x (by omega) e1
  obtain ⟨g0, g1, g2, g3, g4, g5⟩ := box44 (W := wc) (B := wc.heap.size) ⟨2, 0, x.op != 212, false, false, x.imm.tdiv 8⟩ (by omega) e3
  obtain ⟨z0, z1, z2, z3, z4, z5⟩ := box44 (W := wc) (B := wc.heap.size) What.zero (by omega) e2
  have hfz := thaw44 (W := wc) (B := wc.heap.size) What.zero (by omega) e2
  have hB : Below wc.heap.size wc wc := Below.refl _ _
  simp only [What.zero] at g0 g1 g2 g3 g4 g5 z0 z1 z2 z3 z4 z5
  have hw1 : w.heap.size < wc.heap.size := by omega
  have hw2 : w.heap.size + 1 < wc.heap.size := by omega
  have hw3 : w.heap.size + 1 + 1 < wc.heap.size := by omega
  have a0 := f0 wc hB
  have a1 := f1 wc hB
  have a2 := f2 wc hB
  have a3 := f3 wc hB
  have a4 := f4 wc hB
  have k0 := g0 wc hB
  have k1 := g1 wc hB
  have k2 := g2 wc hB
  have k3 := g3 wc hB
  have k4 := g4 wc hB
  have k5 := g5 wc hB
  have t0 := z0 wc hB
  have t1 := z1 wc hB
  have t2 := z2 wc hB
  have t3 := z3 wc hB
  have t4 := z4 wc hB
  have t5 := z5 wc hB
  have y0 := hfz 0 wc hB
  have y1 := hfz 1 wc hB
  have y2 := hfz 2 wc hB
  have y3 := hfz 3 wc hB
  have y4 := hfz 4 wc hB
  have y5 := hfz 5 wc hB
  clear f0 f1 f2 f3 f4 g0 g1 g2 g3 g4 g5 z0 z1 z2 z3 z4 z5 hfz hB hW hsz e1 e2 e3
  have hd := HG.out
  go_region
  go_wp2_with fail
  refine bodyPost_ret (v := .tuple #[(swapsM x).1.val, .bool (swapsM x).2]) ?_ rfl ⟨rfl, ?_⟩
  · simp [results, Try.results58, go_sem, swapsM, *]
  · (with_reducible repeat (first | assumption | refine Below.setCell ?_ (Nat.le_succ _) _ | refine sbelow_drew ?_ | refine sbelow_drewN ?_ | refine sbelow_alloc ?_ (Nat.le_refl _)))

set_option maxHeartbeats 16000000 in
theorem swaps_i64 (x : Insn) (hx : x.Ok) (w : World) (hG0 : ¬ x.dst = 10 ∧ zerosB x true true false = true ∧ (x.imm == 16) = false ∧ (x.imm == 32) = false ∧ (x.imm == 64) = true) : Calls Try.prog 58 #[x.val] w (WhatAnd w (swapsM x)) := by
  have HG := Lib.hid hG0
  clear hG0
  have htd := tdiv8 x.imm hx.imm0 hx.imm1
  obtain ⟨e1, e2, e3, hsz, hfin⟩ := three_heap w x.obj What.zero.obj (What.obj ⟨2, 0, x.op != 212, false, false, x.imm.tdiv 8⟩)
  go_enter Try.func58, Try.ntmps58
  go_wp2_with fail
  simp only [What.zero] at e1 e2 e3 hsz hfin
  generalize hW : World.alloc _ _ = wc at *
  obtain ⟨f0, f1, f2, f3, f4⟩ := box24 (W := wc) (B := wc.heap.size) x (by omega) e1
  obtain ⟨g0, g1, g2, g3, g4, g5⟩ := box44 (W := wc) (B := wc.heap.size) ⟨2, 0, x.op != 212, false, false, x.imm.tdiv 8⟩ (by omega) e3
  obtain ⟨z0, z1, z2, z3, z4, z5⟩ := box44 (W := wc) (B := wc.heap.size) What.zero (by omega) e2
  have hfz := thaw44 (W := wc) (B := wc.heap.size) What.zero (by omega) e2
  have hB : Below wc.heap.size wc wc := Below.refl _ _
  simp only [What.zero] at g0 g1 g2 g3 g4 g5 z0 z1 z2 z3 z4 z5
  have hw1 : w.heap.size < wc.heap.size := by omega
  have hw2 : w.heap.size + 1 < wc.heap.size := by omega
  have hw3 : w.heap.size + 1 + 1 < wc.heap.size := by omega
  have a0 := f0 wc hB
  have a1 := f1 wc hB
  have a2 := f2 wc hB
  have a3 := f3 wc hB
  have a4 := f4 wc hB
  have k0 := g0 wc hB
  have k1 := g1 wc hB
  have k2 := g2 wc hB
  have k3 := g3 wc hB
  have k4 := g4 wc hB
  have k5 := g5 wc hB
  have t0 := z0 wc hB
  have t1 := z1 wc hB
  have t2 := z2 wc hB
  have t3 := z3 wc hB
  have t4 := z4 wc hB
  have t5 := z5 wc hB
  have y0 := hfz 0 wc hB
  have y1 := hfz 1 wc hB
  have y2 := hfz 2 wc hB
  have y3 := hfz 3 wc hB
  have y4 := hfz 4 wc hB
  have y5 := hfz 5 wc hB
  clear f0 f1 f2 f3 f4 g0 g1 g2 g3 g4 g5 z0 z1 z2 z3 z4 z5 hfz hB hW hsz e1 e2 e3
  have hd : (x.dst != 10) = true := by simpa using HG.out.1
  have hdn := HG.out.1
  have hzz := HG.out.2
  have hz1 := hzz.1
  have u0 := keep2_one (b := w.heap.size + 1 + 1) a0
  have u1 := keep2_one (b := w.heap.size + 1 + 1) a1
  have u2 := keep2_one (b := w.heap.size + 1 + 1) a2
  have u3 := keep2_one (b := w.heap.size + 1 + 1) a3
  have u4 := keep2_one (b := w.heap.size + 1 + 1) a4
  have v0 := keep2_two (a := w.heap.size) k0
  have v1 := keep2_two (a := w.heap.size) k1
  have v2 := keep2_two (a := w.heap.size) k2
  have v3 := keep2_two (a := w.heap.size) k3
  have v4 := keep2_two (a := w.heap.size) k4
  have v5 := keep2_two (a := w.heap.size) k5
  have hz8 : ∀ w, Calls Try.prog 74 #[x.val, .bool true, .bool true, .bool false] w fun e w' => e = .returned (.bool true) ∧ w' = w.alloc x.obj := fun w => by
    have := zeros_is x true true false w
    rwa [hz1] at this
  have hK : Keep2 w.heap.size (w.heap.size + 1 + 1) wc wc := keep2_refl
  clear a0 a1 a2 a3 a4 k0 k1 k2 k3 k4 k5
  have hi0 : (x.imm == 16) = false := hzz.2.1
  have hi1 : (x.imm == 32) = false := hzz.2.2.1
  have hi2 : (x.imm == 64) = true := hzz.2.2.2
  first | (go_region_held3 (fun w' => Keep2 w.heap.size (w.heap.size + 1 + 1) wc w')
    (with_reducible repeat (first | assumption | refine keep2_drew ?_ | refine keep2_alloc ?_ hw1 hw3 | refine keep2_set ?_ (Nat.ne_of_lt (Nat.lt_succ_self _)) (Nat.ne_of_gt (Nat.lt_succ_self _))))
    (first | (go_at_call 74; refine (hz8 _).mono ?_; rintro e w' ⟨rfl, rfl⟩))) | fail
  all_goals go_wp2_with fail
  all_goals
    refine bodyPost_ret (v := .tuple #[(swapsM x).1.val, .bool (swapsM x).2]) ?_ rfl ⟨rfl, ?_⟩
    · simp [results, Try.results58, go_sem, swapsM, *]
    · (with_reducible repeat (first | assumption | refine Below.setCell ?_ (Nat.le_succ _) _ | refine sbelow_drew ?_ | refine sbelow_drewN ?_ | refine sbelow_alloc ?_ (Nat.le_refl _)))

set_option maxHeartbeats 16000000 in
theorem swaps_other (x : Insn) (hx : x.Ok) (w : World) (hG0 : ¬ x.dst = 10 ∧ zerosB x true true false = true ∧ (x.imm == 16) = false ∧ (x.imm == 32) = false ∧ (x.imm == 64) = false) : Calls Try.prog 58 #[x.val] w (WhatAnd w (swapsM x)) := by
  have HG := Lib.hid hG0
  clear hG0
  have htd := tdiv8 x.imm hx.imm0 hx.imm1
  obtain ⟨e1, e2, e3, hsz, hfin⟩ := three_heap w x.obj What.zero.obj (What.obj ⟨2, 0, x.op != 212, false, false, x.imm.tdiv 8⟩)
  go_enter Try.func58, Try.ntmps58
  go_wp2_with fail
  simp only [What.zero] at e1 e2 e3 hsz hfin
  generalize hW : World.alloc _ _ = wc at *
  obtain ⟨f0, f1, f2, f3, f4⟩ := box24 (W := wc) (B := wc.heap.size) x (by omega) e1
  obtain ⟨g0, g1, g2, g3, g4, g5⟩ := box44 (W := wc) (B := wc.heap.size) ⟨2, 0, x.op != 212, false, false, x.imm.tdiv 8⟩ (by omega) e3
  obtain ⟨z0, z1, z2, z3, z4, z5⟩ := box44 (W := wc) (B := wc.heap.size) What.zero (by omega) e2
  have hfz := thaw44 (W := wc) (B := wc.heap.size) What.zero (by omega) e2
  have hB : Below wc.heap.size wc wc := Below.refl _ _
  simp only [What.zero] at g0 g1 g2 g3 g4 g5 z0 z1 z2 z3 z4 z5
  have hw1 : w.heap.size < wc.heap.size := by omega
  have hw2 : w.heap.size + 1 < wc.heap.size := by omega
  have hw3 : w.heap.size + 1 + 1 < wc.heap.size := by omega
  have a0 := f0 wc hB
  have a1 := f1 wc hB
  have a2 := f2 wc hB
  have a3 := f3 wc hB
  have a4 := f4 wc hB
  have k0 := g0 wc hB
  have k1 := g1 wc hB
  have k2 := g2 wc hB
  have k3 := g3 wc hB
  have k4 := g4 wc hB
  have k5 := g5 wc hB
  have t0 := z0 wc hB
  have t1 := z1 wc hB
  have t2 := z2 wc hB
  have t3 := z3 wc hB
  have t4 := z4 wc hB
  have t5 := z5 wc hB
  have y0 := hfz 0 wc hB
  have y1 := hfz 1 wc hB
  have y2 := hfz 2 wc hB
  have y3 := hfz 3 wc hB
  have y4 := hfz 4 wc hB
  have y5 := hfz 5 wc hB
  clear f0 f1 f2 f3 f4 g0 g1 g2 g3 g4 g5 z0 z1 z2 z3 z4 z5 hfz hB hW hsz e1 e2 e3
  have hd : (x.dst != 10) = true := by simpa using HG.out.1
  have hdn := HG.out.1
  have hzz := HG.out.2
  have hz1 := hzz.1
  have u0 := keep2_one (b := w.heap.size + 1 + 1) a0
  have u1 := keep2_one (b := w.heap.size + 1 + 1) a1
  have u2 := keep2_one (b := w.heap.size + 1 + 1) a2
  have u3 := keep2_one (b := w.heap.size + 1 + 1) a3
  have u4 := keep2_one (b := w.heap.size + 1 + 1) a4
  have v0 := keep2_two (a := w.heap.size) k0
  have v1 := keep2_two (a := w.heap.size) k1
  have v2 := keep2_two (a := w.heap.size) k2
  have v3 := keep2_two (a := w.heap.size) k3
  have v4 := keep2_two (a := w.heap.size) k4
  have v5 := keep2_two (a := w.heap.size) k5
  have hz8 : ∀ w, Calls Try.prog 74 #[x.val, .bool true, .bool true, .bool false] w fun e w' => e = .returned (.bool true) ∧ w' = w.alloc x.obj := fun w => by
    have := zeros_is x true true false w
    rwa [hz1] at this
  have hK : Keep2 w.heap.size (w.heap.size + 1 + 1) wc wc := keep2_refl
  clear a0 a1 a2 a3 a4 k0 k1 k2 k3 k4 k5
  have hi0 : (x.imm == 16) = false := hzz.2.1
  have hi1 : (x.imm == 32) = false := hzz.2.2.1
  have hi2 : (x.imm == 64) = false := hzz.2.2.2
  first | (go_region_held3 (fun w' => Keep2 w.heap.size (w.heap.size + 1 + 1) wc w')
    (with_reducible repeat (first | assumption | refine keep2_drew ?_ | refine keep2_alloc ?_ hw1 hw3 | refine keep2_set ?_ (Nat.ne_of_lt (Nat.lt_succ_self _)) (Nat.ne_of_gt (Nat.lt_succ_self _))))
    (first | (go_at_call 74; refine (hz8 _).mono ?_; rintro e w' ⟨rfl, rfl⟩))) | fail
  all_goals go_wp2_with fail
  all_goals
    refine bodyPost_ret (v := .tuple #[(swapsM x).1.val, .bool (swapsM x).2]) ?_ rfl ⟨rfl, ?_⟩
    · simp [results, Try.results58, go_sem, swapsM, *]
    · (with_reducible repeat (first | assumption | refine Below.setCell ?_ (Nat.le_succ _) _ | refine sbelow_drew ?_ | refine sbelow_drewN ?_ | refine sbelow_alloc ?_ (Nat.le_refl _)))
set_option maxHeartbeats 16000000 in
theorem swaps_i16 (x : Insn) (hx : x.Ok) (w : World) (hG0 : ¬ x.dst = 10 ∧ zerosB x true true false = true ∧ (x.imm == 16) = true) : Calls Try.prog 58 #[x.val] w (WhatAnd w (swapsM x)) := by
  have HG := Lib.hid hG0
  clear hG0
  have htd := tdiv8 x.imm hx.imm0 hx.imm1
  obtain ⟨e1, e2, e3, hsz, hfin⟩ := three_heap w x.obj What.zero.obj (What.obj ⟨2, 0, x.op != 212, false, false, x.imm.tdiv 8⟩)
  go_enter Try.func58, Try.ntmps58
  go_wp2_with fail
  simp only [What.zero] at e1 e2 e3 hsz hfin
  generalize hW : World.alloc _ _ = wc at *
  obtain ⟨f0, f1, f2, f3, f4⟩ := box24 (W := wc) (B := wc.heap.size) x (by omega) e1
  obtain ⟨g0, g1, g2, g3, g4, g5⟩ := box44 (W := wc) (B := wc.heap.size) ⟨2, 0, x.op != 212, false, false, x.imm.tdiv 8⟩ (by omega) e3
  obtain ⟨z0, z1, z2, z3, z4, z5⟩ := box44 (W := wc) (B := wc.heap.size) What.zero (by omega) e2
  have hfz := thaw44 (W := wc) (B := wc.heap.size) What.zero (by omega) e2
  have hB : Below wc.heap.size wc wc := Below.refl _ _
  simp only [What.zero] at g0 g1 g2 g3 g4 g5 z0 z1 z2 z3 z4 z5
  have hw1 : w.heap.size < wc.heap.size := by omega
  have hw2 : w.heap.size + 1 < wc.heap.size := by omega
  have hw3 : w.heap.size + 1 + 1 < wc.heap.size := by omega
  have a0 := f0 wc hB
  have a1 := f1 wc hB
  have a2 := f2 wc hB
  have a3 := f3 wc hB
  have a4 := f4 wc hB
  have k0 := g0 wc hB
  have k1 := g1 wc hB
  have k2 := g2 wc hB
  have k3 := g3 wc hB
  have k4 := g4 wc hB
  have k5 := g5 wc hB
  have t0 := z0 wc hB
  have t1 := z1 wc hB
  have t2 := z2 wc hB
  have t3 := z3 wc hB
  have t4 := z4 wc hB
  have t5 := z5 wc hB
  have y0 := hfz 0 wc hB
  have y1 := hfz 1 wc hB
  have y2 := hfz 2 wc hB
  have y3 := hfz 3 wc hB
  have y4 := hfz 4 wc hB
  have y5 := hfz 5 wc hB
  clear f0 f1 f2 f3 f4 g0 g1 g2 g3 g4 g5 z0 z1 z2 z3 z4 z5 hfz hB hW hsz e1 e2 e3
  have hd : (x.dst != 10) = true := by simpa using HG.out.1
  have hdn := HG.out.1
  have hzz := HG.out.2
  have hz1 := hzz.1
  have u0 := keep2_one (b := w.heap.size + 1 + 1) a0
  have u1 := keep2_one (b := w.heap.size + 1 + 1) a1
  have u2 := keep2_one (b := w.heap.size + 1 + 1) a2
  have u3 := keep2_one (b := w.heap.size + 1 + 1) a3
  have u4 := keep2_one (b := w.heap.size + 1 + 1) a4
  have v0 := keep2_two (a := w.heap.size) k0
  have v1 := keep2_two (a := w.heap.size) k1
  have v2 := keep2_two (a := w.heap.size) k2
  have v3 := keep2_two (a := w.heap.size) k3
  have v4 := keep2_two (a := w.heap.size) k4
  have v5 := keep2_two (a := w.heap.size) k5
  have hz8 : ∀ w, Calls Try.prog 74 #[x.val, .bool true, .bool true, .bool false] w fun e w' => e = .returned (.bool true) ∧ w' = w.alloc x.obj := fun w => by
    have := zeros_is x true true false w
    rwa [hz1] at this
  have hK : Keep2 w.heap.size (w.heap.size + 1 + 1) wc wc := keep2_refl
  clear u0 u1 u2 u3 u4 v0 v1 v2 v3 v4 v5 hK
  have hi0 : (x.imm == 16) = true := hzz.2
  first | (go_region_with (go_at_call 74; refine (hz8 _).mono ?_; rintro e w' ⟨rfl, rfl⟩)) | fail
  all_goals go_wp2_with fail
  all_goals
    refine bodyPost_ret (v := .tuple #[(swapsM x).1.val, .bool (swapsM x).2]) ?_ rfl ⟨rfl, ?_⟩
    · simp [results, Try.results58, go_sem, swapsM, *]
    · (with_reducible repeat (first | assumption | refine Below.setCell ?_ (Nat.le_succ _) _ | refine sbelow_drew ?_ | refine sbelow_drewN ?_ | refine sbelow_alloc ?_ (Nat.le_refl _)))
end Go.Proofs.Ytncogaikiceidaa
