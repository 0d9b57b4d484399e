/- What an instruction does, by the reference: conditions. No statement is proved here. -/
import Derived.Test.YtncogaikiceidaaRefIn
import Derived.Deep.CutBlock
section
namespace Go.Proofs.Ytncogaikiceidaa
set_option maxRecDepth 100000
open Go.RowKit
set_option linter.unusedSimpArgs false
set_option linter.unusedVariables false
set_option linter.unnecessarySimpa false
attribute [local go_sem ↓] Go.wp_at_zero Go.wp_at_succ
set_option maxHeartbeats 16000000 in
theorem rwhat_y5 (x : Insn) (hx : x.Ok) (w : World) (hG0 : (¬ 10 < x.dst ∧ ¬ 10 < x.src ∧ List.contains [212, 220, 215, 24, 5, 6, 133, 149] x.op = false ∧ x.op % 8 = 5 ∧ List.contains [16, 32, 48, 64, 80, 96, 112, 160, 176, 192, 208] (x.op / 16 * 16) = true)) (hM0 : rwhatM x = (⟨10, x.op / 16 * 16, x.op % 8 == 5, regB x, false, 0⟩, zerosB x (!regB x) false (!(!regB x)))) : Calls Try.prog 19 #[x.val] w (WhatAnd w (rwhatM x)) := by
  have HG := Lib.hid hG0
  have HM := Lib.hid hM0
  clear hG0 hM0
  obtain ⟨p1, p2, -, -, -, -, -, -, -, -⟩ := id hx
  obtain ⟨f0, f1, f2, f3, f4⟩ := box_two x w What.zero.obj
  obtain ⟨z0, z1, z2, z3, z4, z5⟩ := box44 (W := (w.alloc x.obj).alloc What.zero.obj) (g := w.heap.size + 1) (B := w.heap.size + 2) What.zero (by omega) (heap_two_new _ _ _)
  have hfz := thaw44 (W := (w.alloc x.obj).alloc What.zero.obj) (g := w.heap.size + 1) (B := w.heap.size + 2) What.zero (by omega) (heap_two_new _ _ _)
  have hsz := size_two w x.obj What.zero.obj
  have hb := below_two w x.obj What.zero.obj
  simp only [What.zero] at f0 f1 f2 f3 f4 z0 z1 z2 z3 z4 z5 hfz hsz hb
  obtain ⟨h1, h2, hkb, hc, hk2⟩ := HG.out
  go_enter Try.func19, Try.ntmps19
  go_upto_region 3 with fail
  generalize hW : World.alloc _ _ = W at *
  have hB : Below (w.heap.size + 2) W W := Below.refl _ _
  have hge : w.heap.size + 2 ≤ W.heap.size := by omega
  clear hW hsz
  have hin := in_is [212, 220, 215, 24, 5, 6, 133, 149] x.op (some ⟨W.heap.size, 0, none⟩) 8 (by decide) (W.alloc (.cells #[.int .u8 212, .int .u8 220, .int .u8 215, .int .u8 24, .int .u8 5, .int .u8 6, .int .u8 133, .int .u8 149] 5)) ((sat_new W 5 #[.int .u8 212, .int .u8 220, .int .u8 215, .int .u8 24, .int .u8 5, .int .u8 6, .int .u8 133, .int .u8 149] 1 8 rfl).more (by simp))
  rw [hkb] at hin
  have hBV := hB.alloc hge (.cells #[.int .u8 212, .int .u8 220, .int .u8 215, .int .u8 24, .int .u8 5, .int .u8 6, .int .u8 133, .int .u8 149] 5)
  have hbV := hb.alloc hb.size (.cells #[.int .u8 212, .int .u8 220, .int .u8 215, .int .u8 24, .int .u8 5, .int .u8 6, .int .u8 133, .int .u8 149] 5)
  go_wp2_with fail
  refine Calls.mono hin ?_
  rintro e V ⟨rfl, hV⟩
  rw [← hV] at hBV hbV
  clear hV hin hB
  have hgeV := hBV.size
  have hr := HM.out
  unfold regB at hr
  have hcl : (x.op % 8 == 5) = true := by rw [hc]; rfl
  rw [hcl] at hr
  clear hkb
  obtain ⟨e1, e2⟩ : (V.alloc (What.obj ⟨10, x.op / 16 * 16, true, x.op / 8 % 2 == 1, false, 0⟩)).heap[V.heap.size]? = some (What.obj ⟨10, x.op / 16 * 16, true, x.op / 8 % 2 == 1, false, 0⟩) ∧ (V.alloc (What.obj ⟨10, x.op / 16 * 16, true, x.op / 8 % 2 == 1, false, 0⟩)).heap.size = V.heap.size + 1 := ⟨heap_alloc_new _ _, by simp⟩
  have hBw := hBV.alloc (Nat.le_trans hge hgeV) (What.obj ⟨10, x.op / 16 * 16, true, x.op / 8 % 2 == 1, false, 0⟩)
  have hbw := hbV.alloc hbV.size (What.obj ⟨10, x.op / 16 * 16, true, x.op / 8 % 2 == 1, false, 0⟩)
  go_upto_region 13 with fail
  generalize hwd : V.alloc _ = wd at *
  obtain ⟨g0, g1, g2, g3, g4, g5⟩ := box44 (W := wd) (B := wd.heap.size) ⟨10, x.op / 16 * 16, true, x.op / 8 % 2 == 1, false, 0⟩ (by omega) e1
  simp only at g0 g1 g2 g3 g4 g5
  have hbd : Below wd.heap.size wd wd := Below.refl _ _
  have a0 := f0 wd hBw
  have a1 := f1 wd hBw
  have a2 := f2 wd hBw
  have a3 := f3 wd hBw
  have a4 := f4 wd hBw
  have k0 := g0 wd hbd
  have k1 := g1 wd hbd
  have k2 := g2 wd hbd
  have k3 := g3 wd hbd
  have k4 := g4 wd hbd
  have k5 := g5 wd hbd
  have t0 := z0 wd hBw
  have t1 := z1 wd hBw
  have t2 := z2 wd hBw
  have t3 := z3 wd hBw
  have t4 := z4 wd hBw
  have t5 := z5 wd hBw
  have y0 := hfz 0 wd hBw
  have y1 := hfz 1 wd hBw
  have y2 := hfz 2 wd hBw
  have y3 := hfz 3 wd hBw
  have y4 := hfz 4 wd hBw
  have y5 := hfz 5 wd hBw
  have w1 : w.heap.size < wd.heap.size := by omega
  have w2 : w.heap.size + 1 < wd.heap.size := by omega
  have w3 : V.heap.size < wd.heap.size := by omega
  have w4 : w.heap.size + 1 ≠ V.heap.size := by omega
  have w5 : w.heap.size ≠ w.heap.size + 1 := by omega
  have hin2 := in_is [16, 32, 48, 64, 80, 96, 112, 160, 176, 192, 208] (x.op / 16 * 16) (some ⟨wd.heap.size, 0, none⟩) 11 (by decide) (wd.alloc (.cells #[.int .u8 16, .int .u8 32, .int .u8 48, .int .u8 64, .int .u8 80, .int .u8 96, .int .u8 112, .int .u8 160, .int .u8 176, .int .u8 192, .int .u8 208] 5)).drew (((sat_new wd 5 #[.int .u8 16, .int .u8 32, .int .u8 48, .int .u8 64, .int .u8 80, .int .u8 96, .int .u8 112, .int .u8 160, .int .u8 176, .int .u8 192, .int .u8 208] 1 11 rfl).below (Below.refl _ _).drew).more (by simp))
  rw [hk2] at hin2
  clear f0 f1 f2 f3 f4 g0 g1 g2 g3 g4 g5 z0 z1 z2 z3 z4 z5 hfz hbd hBw hBV hbV hwd e1 e2 hb hk2
  generalize (x.op / 8 % 2 == 1) = rg at *
  have hz8 : ∀ w, Calls Try.prog 43 #[x.val, .bool rg, .bool true, .bool (!rg)] w fun e w' => e = .returned (.bool (zerosB x (!rg) (!true) (!(!rg)))) ∧ w' = w.alloc x.obj := fun w => only_is x rg true (!rg) w
  simp only [Bool.not_true] at hz8
  generalize zerosB x (!rg) false (!(!rg)) = zz at *
  have u0 := keep2_one (b := V.heap.size) a0
  have u1 := keep2_one (b := V.heap.size) a1
  have u2 := keep2_one (b := V.heap.size) a2
  have u3 := keep2_one (b := V.heap.size) a3
  have u4 := keep2_one (b := V.heap.size) a4
  have v0 := keep2_two (a := w.heap.size) k0
  have v1 := keep2_two (a := w.heap.size) k1
  have v2 := keep2_two (a := w.heap.size) k2
  have v3 := keep2_two (a := w.heap.size) k3
  have v4 := keep2_two (a := w.heap.size) k4
  have v5 := keep2_two (a := w.heap.size) k5
  have hK : Keep2 w.heap.size V.heap.size wd wd := keep2_refl
  clear a0 a1 a2 a3 a4 k0 k1 k2 k3 k4 k5
  go_region_held3 (fun w' => Keep2 w.heap.size V.heap.size wd w')
    (with_reducible repeat (first | assumption | refine keep2_drew ?_ | refine keep2_alloc ?_ w1 w3 | refine keep2_set ?_ w5 w4.symm))
    (first | (go_at_call 40; refine Calls.mono hin2 ?_; rintro e w' ⟨rfl, rfl⟩) | (go_at_call 43; refine (hz8 _).mono ?_; rintro e w' ⟨rfl, rfl⟩))
  all_goals go_wp2_with fail
  all_goals rw [hr]
  all_goals
    refine bodyPost_ret (v := .tuple #[.agg #[_, _, _, _, _, _], .bool _]) ?_ rfl ⟨rfl, ?_⟩
    · simp [results, Try.results19, go_sem, *]
    · (with_reducible repeat (first | assumption | refine Below.setCell ?_ (Nat.le_succ _) _ | refine sbelow_drew ?_ | refine sbelow_drewN ?_ | refine sbelow_alloc ?_ (Nat.le_refl _)))

set_option maxHeartbeats 16000000 in
theorem rwhat_y6 (x : Insn) (hx : x.Ok) (w : World) (hG0 : (¬ 10 < x.dst ∧ ¬ 10 < x.src ∧ List.contains [212, 220, 215, 24, 5, 6, 133, 149] x.op = false ∧ x.op % 8 = 6 ∧ List.contains [16, 32, 48, 64, 80, 96, 112, 160, 176, 192, 208] (x.op / 16 * 16) = true)) (hM0 : rwhatM x = (⟨10, x.op / 16 * 16, x.op % 8 == 5, regB x, false, 0⟩, zerosB x (!regB x) false (!(!regB x)))) : Calls Try.prog 19 #[x.val] w (WhatAnd w (rwhatM x)) := by
  have HG := Lib.hid hG0
  have HM := Lib.hid hM0
  clear hG0 hM0
  obtain ⟨p1, p2, -, -, -, -, -, -, -, -⟩ := id hx
  obtain ⟨f0, f1, f2, f3, f4⟩ := box_two x w What.zero.obj
  obtain ⟨z0, z1, z2, z3, z4, z5⟩ := box44 (W := (w.alloc x.obj).alloc What.zero.obj) (g := w.heap.size + 1) (B := w.heap.size + 2) What.zero (by omega) (heap_two_new _ _ _)
  have hfz := thaw44 (W := (w.alloc x.obj).alloc What.zero.obj) (g := w.heap.size + 1) (B := w.heap.size + 2) What.zero (by omega) (heap_two_new _ _ _)
  have hsz := size_two w x.obj What.zero.obj
  have hb := below_two w x.obj What.zero.obj
  simp only [What.zero] at f0 f1 f2 f3 f4 z0 z1 z2 z3 z4 z5 hfz hsz hb
  obtain ⟨h1, h2, hkb, hc, hk2⟩ := HG.out
  go_enter Try.func19, Try.ntmps19
  go_upto_region 3 with fail
  generalize hW : World.alloc _ _ = W at *
  have hB : Below (w.heap.size + 2) W W := Below.refl _ _
  have hge : w.heap.size + 2 ≤ W.heap.size := by omega
  clear hW hsz
  have hin := in_is [212, 220, 215, 24, 5, 6, 133, 149] x.op (some ⟨W.heap.size, 0, none⟩) 8 (by decide) (W.alloc (.cells #[.int .u8 212, .int .u8 220, .int .u8 215, .int .u8 24, .int .u8 5, .int .u8 6, .int .u8 133, .int .u8 149] 5)) ((sat_new W 5 #[.int .u8 212, .int .u8 220, .int .u8 215, .int .u8 24, .int .u8 5, .int .u8 6, .int .u8 133, .int .u8 149] 1 8 rfl).more (by simp))
  rw [hkb] at hin
  have hBV := hB.alloc hge (.cells #[.int .u8 212, .int .u8 220, .int .u8 215, .int .u8 24, .int .u8 5, .int .u8 6, .int .u8 133, .int .u8 149] 5)
  have hbV := hb.alloc hb.size (.cells #[.int .u8 212, .int .u8 220, .int .u8 215, .int .u8 24, .int .u8 5, .int .u8 6, .int .u8 133, .int .u8 149] 5)
  go_wp2_with fail
  refine Calls.mono hin ?_
  rintro e V ⟨rfl, hV⟩
  rw [← hV] at hBV hbV
  clear hV hin hB
  have hgeV := hBV.size
  have hr := HM.out
  unfold regB at hr
  have hcl : (x.op % 8 == 5) = false := by rw [hc]; rfl
  rw [hcl] at hr
  clear hkb
  obtain ⟨e1, e2⟩ : (V.alloc (What.obj ⟨10, x.op / 16 * 16, false, x.op / 8 % 2 == 1, false, 0⟩)).heap[V.heap.size]? = some (What.obj ⟨10, x.op / 16 * 16, false, x.op / 8 % 2 == 1, false, 0⟩) ∧ (V.alloc (What.obj ⟨10, x.op / 16 * 16, false, x.op / 8 % 2 == 1, false, 0⟩)).heap.size = V.heap.size + 1 := ⟨heap_alloc_new _ _, by simp⟩
  have hBw := hBV.alloc (Nat.le_trans hge hgeV) (What.obj ⟨10, x.op / 16 * 16, false, x.op / 8 % 2 == 1, false, 0⟩)
  have hbw := hbV.alloc hbV.size (What.obj ⟨10, x.op / 16 * 16, false, x.op / 8 % 2 == 1, false, 0⟩)
  go_upto_region 13 with fail
  generalize hwd : V.alloc _ = wd at *
  obtain ⟨g0, g1, g2, g3, g4, g5⟩ := box44 (W := wd) (B := wd.heap.size) ⟨10, x.op / 16 * 16, false, x.op / 8 % 2 == 1, false, 0⟩ (by omega) e1
  simp only at g0 g1 g2 g3 g4 g5
  have hbd : Below wd.heap.size wd wd := Below.refl _ _
  have a0 := f0 wd hBw
  have a1 := f1 wd hBw
  have a2 := f2 wd hBw
  have a3 := f3 wd hBw
  have a4 := f4 wd hBw
  have k0 := g0 wd hbd
  have k1 := g1 wd hbd
  have k2 := g2 wd hbd
  have k3 := g3 wd hbd
  have k4 := g4 wd hbd
  have k5 := g5 wd hbd
  have t0 := z0 wd hBw
  have t1 := z1 wd hBw
  have t2 := z2 wd hBw
  have t3 := z3 wd hBw
  have t4 := z4 wd hBw
  have t5 := z5 wd hBw
  have y0 := hfz 0 wd hBw
  have y1 := hfz 1 wd hBw
  have y2 := hfz 2 wd hBw
  have y3 := hfz 3 wd hBw
  have y4 := hfz 4 wd hBw
  have y5 := hfz 5 wd hBw
  have w1 : w.heap.size < wd.heap.size := by omega
  have w2 : w.heap.size + 1 < wd.heap.size := by omega
  have w3 : V.heap.size < wd.heap.size := by omega
  have w4 : w.heap.size + 1 ≠ V.heap.size := by omega
  have w5 : w.heap.size ≠ w.heap.size + 1 := by omega
  have hin2 := in_is [16, 32, 48, 64, 80, 96, 112, 160, 176, 192, 208] (x.op / 16 * 16) (some ⟨wd.heap.size, 0, none⟩) 11 (by decide) (wd.alloc (.cells #[.int .u8 16, .int .u8 32, .int .u8 48, .int .u8 64, .int .u8 80, .int .u8 96, .int .u8 112, .int .u8 160, .int .u8 176, .int .u8 192, .int .u8 208] 5)).drew (((sat_new wd 5 #[.int .u8 16, .int .u8 32, .int .u8 48, .int .u8 64, .int .u8 80, .int .u8 96, .int .u8 112, .int .u8 160, .int .u8 176, .int .u8 192, .int .u8 208] 1 11 rfl).below (Below.refl _ _).drew).more (by simp))
  rw [hk2] at hin2
  clear f0 f1 f2 f3 f4 g0 g1 g2 g3 g4 g5 z0 z1 z2 z3 z4 z5 hfz hbd hBw hBV hbV hwd e1 e2 hb hk2
  generalize (x.op / 8 % 2 == 1) = rg at *
  have hz8 : ∀ w, Calls Try.prog 43 #[x.val, .bool rg, .bool true, .bool (!rg)] w fun e w' => e = .returned (.bool (zerosB x (!rg) (!true) (!(!rg)))) ∧ w' = w.alloc x.obj := fun w => only_is x rg true (!rg) w
  simp only [Bool.not_true] at hz8
  generalize zerosB x (!rg) false (!(!rg)) = zz at *
  have u0 := keep2_one (b := V.heap.size) a0
  have u1 := keep2_one (b := V.heap.size) a1
  have u2 := keep2_one (b := V.heap.size) a2
  have u3 := keep2_one (b := V.heap.size) a3
  have u4 := keep2_one (b := V.heap.size) a4
  have v0 := keep2_two (a := w.heap.size) k0
  have v1 := keep2_two (a := w.heap.size) k1
  have v2 := keep2_two (a := w.heap.size) k2
  have v3 := keep2_two (a := w.heap.size) k3
  have v4 := keep2_two (a := w.heap.size) k4
  have v5 := keep2_two (a := w.heap.size) k5
  have hK : Keep2 w.heap.size V.heap.size wd wd := keep2_refl
  clear a0 a1 a2 a3 a4 k0 k1 k2 k3 k4 k5
  go_region_held3 (fun w' => Keep2 w.heap.size V.heap.size wd w')
    (with_reducible repeat (first | assumption | refine keep2_drew ?_ | refine keep2_alloc ?_ w1 w3 | refine keep2_set ?_ w5 w4.symm))
    (first | (go_at_call 40; refine Calls.mono hin2 ?_; rintro e w' ⟨rfl, rfl⟩) | (go_at_call 43; refine (hz8 _).mono ?_; rintro e w' ⟨rfl, rfl⟩))
  all_goals go_wp2_with fail
  all_goals rw [hr]
  all_goals
    refine bodyPost_ret (v := .tuple #[.agg #[_, _, _, _, _, _], .bool _]) ?_ rfl ⟨rfl, ?_⟩
    · simp [results, Try.results19, go_sem, *]
    · (with_reducible repeat (first | assumption | refine Below.setCell ?_ (Nat.le_succ _) _ | refine sbelow_drew ?_ | refine sbelow_drewN ?_ | refine sbelow_alloc ?_ (Nat.le_refl _)))
end Go.Proofs.Ytncogaikiceidaa
end
section
namespace Go.Proofs.Ytncogaikiceidaa
open Go.RowKit
set_option linter.unusedSimpArgs false
set_option linter.unusedVariables false
set_option linter.unnecessarySimpa false
attribute [local go_sem ↓] Go.wp_at_zero Go.wp_at_succ
attribute [local go_sem] Go.undef
set_option maxRecDepth 100000 in
set_option maxHeartbeats 16000000 in
theorem rwhat_n5 (x : Insn) (hx : x.Ok) (w : World) (hG0 : (¬ 10 < x.dst ∧ ¬ 10 < x.src ∧ List.contains [212, 220, 215, 24, 5, 6, 133, 149] x.op = false ∧ x.op % 8 = 5 ∧ List.contains [16, 32, 48, 64, 80, 96, 112, 160, 176, 192, 208] (x.op / 16 * 16) = false)) (hM0 : rwhatM x = (⟨10, x.op / 16 * 16, x.op % 8 == 5, regB x, false, 0⟩, false)) : Calls Try.prog 19 #[x.val] w (WhatAnd w (rwhatM x)) := by
  have HG := Lib.hid hG0
  have HM := Lib.hid hM0
  clear hG0 hM0
  obtain ⟨p1, p2, -, -, -, -, -, -, -, -⟩ := id hx
  obtain ⟨f0, f1, f2, f3, f4⟩ := box_two x w What.zero.obj
  obtain ⟨z0, z1, z2, z3, z4, z5⟩ := box44 (W := (w.alloc x.obj).alloc What.zero.obj) (g := w.heap.size + 1) (B := w.heap.size + 2) What.zero (by omega) (heap_two_new _ _ _)
  have hfz := thaw44 (W := (w.alloc x.obj).alloc What.zero.obj) (g := w.heap.size + 1) (B := w.heap.size + 2) What.zero (by omega) (heap_two_new _ _ _)
  have hsz := size_two w x.obj What.zero.obj
  have hb := below_two w x.obj What.zero.obj
  simp only [What.zero] at f0 f1 f2 f3 f4 z0 z1 z2 z3 z4 z5 hfz hsz hb
  obtain ⟨h1, h2, hkb, hc, hk2⟩ := HG.out
  go_enter Try.func19, Try.ntmps19
  go_upto_region 3 with fail
  generalize hW : World.alloc _ _ = W at *
  have hB : Below (w.heap.size + 2) W W := Below.refl _ _
  have hge : w.heap.size + 2 ≤ W.heap.size := by omega
  clear hW hsz
  have hin := in_is [212, 220, 215, 24, 5, 6, 133, 149] x.op (some ⟨W.heap.size, 0, none⟩) 8 (by decide) (W.alloc (.cells #[.int .u8 212, .int .u8 220, .int .u8 215, .int .u8 24, .int .u8 5, .int .u8 6, .int .u8 133, .int .u8 149] 5)) ((sat_new W 5 #[.int .u8 212, .int .u8 220, .int .u8 215, .int .u8 24, .int .u8 5, .int .u8 6, .int .u8 133, .int .u8 149] 1 8 rfl).more (by simp))
  rw [hkb] at hin
  have hBV := hB.alloc hge (.cells #[.int .u8 212, .int .u8 220, .int .u8 215, .int .u8 24, .int .u8 5, .int .u8 6, .int .u8 133, .int .u8 149] 5)
  have hbV := hb.alloc hb.size (.cells #[.int .u8 212, .int .u8 220, .int .u8 215, .int .u8 24, .int .u8 5, .int .u8 6, .int .u8 133, .int .u8 149] 5)
  go_wp2_with fail
  refine Calls.mono hin ?_
  rintro e V ⟨rfl, hV⟩
  rw [← hV] at hBV hbV
  clear hV hin hB
  have hgeV := hBV.size
  have hr := HM.out
  unfold regB at hr
  have hcl : (x.op % 8 == 5) = true := by rw [hc]; rfl
  rw [hcl] at hr
  clear hkb
  obtain ⟨e1, e2⟩ : (V.alloc (What.obj ⟨10, x.op / 16 * 16, true, x.op / 8 % 2 == 1, false, 0⟩)).heap[V.heap.size]? = some (What.obj ⟨10, x.op / 16 * 16, true, x.op / 8 % 2 == 1, false, 0⟩) ∧ (V.alloc (What.obj ⟨10, x.op / 16 * 16, true, x.op / 8 % 2 == 1, false, 0⟩)).heap.size = V.heap.size + 1 := ⟨heap_alloc_new _ _, by simp⟩
  have hBw := hBV.alloc (Nat.le_trans hge hgeV) (What.obj ⟨10, x.op / 16 * 16, true, x.op / 8 % 2 == 1, false, 0⟩)
  have hbw := hbV.alloc hbV.size (What.obj ⟨10, x.op / 16 * 16, true, x.op / 8 % 2 == 1, false, 0⟩)
  go_upto_region 13 with fail
  generalize hwd : V.alloc _ = wd at *
  obtain ⟨g0, g1, g2, g3, g4, g5⟩ := box44 (W := wd) (B := wd.heap.size) ⟨10, x.op / 16 * 16, true, x.op / 8 % 2 == 1, false, 0⟩ (by omega) e1
  simp only at g0 g1 g2 g3 g4 g5
  have hbd : Below wd.heap.size wd wd := Below.refl _ _
  have a0 := f0 wd hBw
  have a1 := f1 wd hBw
  have a2 := f2 wd hBw
  have a3 := f3 wd hBw
  have a4 := f4 wd hBw
  have k0 := g0 wd hbd
  have k1 := g1 wd hbd
  have k2 := g2 wd hbd
  have k3 := g3 wd hbd
  have k4 := g4 wd hbd
  have k5 := g5 wd hbd
  have t0 := z0 wd hBw
  have t1 := z1 wd hBw
  have t2 := z2 wd hBw
  have t3 := z3 wd hBw
  have t4 := z4 wd hBw
  have t5 := z5 wd hBw
  have y0 := hfz 0 wd hBw
  have y1 := hfz 1 wd hBw
  have y2 := hfz 2 wd hBw
  have y3 := hfz 3 wd hBw
  have y4 := hfz 4 wd hBw
  have y5 := hfz 5 wd hBw
  have w1 : w.heap.size < wd.heap.size := by omega
  have w2 : w.heap.size + 1 < wd.heap.size := by omega
  have w3 : V.heap.size < wd.heap.size := by omega
  have w4 : w.heap.size + 1 ≠ V.heap.size := by omega
  have w5 : w.heap.size ≠ w.heap.size + 1 := by omega
  have hin2 := in_is [16, 32, 48, 64, 80, 96, 112, 160, 176, 192, 208] (x.op / 16 * 16) (some ⟨wd.heap.size, 0, none⟩) 11 (by decide) (wd.alloc (.cells #[.int .u8 16, .int .u8 32, .int .u8 48, .int .u8 64, .int .u8 80, .int .u8 96, .int .u8 112, .int .u8 160, .int .u8 176, .int .u8 192, .int .u8 208] 5)).drew (((sat_new wd 5 #[.int .u8 16, .int .u8 32, .int .u8 48, .int .u8 64, .int .u8 80, .int .u8 96, .int .u8 112, .int .u8 160, .int .u8 176, .int .u8 192, .int .u8 208] 1 11 rfl).below (Below.refl _ _).drew).more (by simp))
  rw [hk2] at hin2
  clear f0 f1 f2 f3 f4 g0 g1 g2 g3 g4 g5 z0 z1 z2 z3 z4 z5 hfz hbd hBw hBV hbV hwd e1 e2 hb hk2
  generalize (x.op / 8 % 2 == 1) = rg at *
  have u0 := keep2_one (b := V.heap.size) a0
  have u1 := keep2_one (b := V.heap.size) a1
  have u2 := keep2_one (b := V.heap.size) a2
  have u3 := keep2_one (b := V.heap.size) a3
  have u4 := keep2_one (b := V.heap.size) a4
  have v0 := keep2_two (a := w.heap.size) k0
  have v1 := keep2_two (a := w.heap.size) k1
  have v2 := keep2_two (a := w.heap.size) k2
  have v3 := keep2_two (a := w.heap.size) k3
  have v4 := keep2_two (a := w.heap.size) k4
  have v5 := keep2_two (a := w.heap.size) k5
  have hK : Keep2 w.heap.size V.heap.size wd wd := keep2_refl
  clear a0 a1 a2 a3 a4 k0 k1 k2 k3 k4 k5
  refine wp_region_held_drew (S := fun w' => Keep2 w.heap.size V.heap.size wd w') (by kernel_rfl) (by (with_reducible repeat (first | assumption | refine keep2_drew ?_ | refine keep2_alloc ?_ w1 w3 | refine keep2_set ?_ w5 w4.symm))) (fun hHeld => ?_)
  refine wpAnyH_take (i := 0) (v := .agg #[.int .u8 10, .int .u8 (x.op / 16 * 16), .bool true, .bool rg, .bool false, .int .i64 0]) rfl (by kernel_rfl) (by kernel_rfl) (by kernel_rfl) (fun _ _ _ h => h) (Or.inl ⟨by rfl, by intro w hSw; go_simp⟩) (by assumption) ?_
  try simp only [Act.put, List.getElem_toArray, List.getElem_cons_zero, List.getElem_cons_succ, List.setIfInBounds_toArray, List.set_cons_zero, List.set_cons_succ]
  refine wpAnyH_take (i := 2) (v := .pointer (some ⟨V.heap.size, 1, none⟩)) rfl (by kernel_rfl) (by kernel_rfl) (by kernel_rfl) (fun _ _ _ h => h) (Or.inl ⟨by rfl, by intro w hSw; go_simp⟩) (by assumption) ?_
  try simp only [Act.put, List.getElem_toArray, List.getElem_cons_zero, List.getElem_cons_succ, List.setIfInBounds_toArray, List.set_cons_zero, List.set_cons_succ]
  refine wpAnyH_take (i := 3) (v := .int .u8 (x.op / 16 * 16)) rfl (by kernel_rfl) (by kernel_rfl) (by kernel_rfl) (fun _ _ _ h => h) (Or.inl ⟨by rfl, by intro w hSw; go_simp⟩) (by assumption) ?_
  try simp only [Act.put, List.getElem_toArray, List.getElem_cons_zero, List.getElem_cons_succ, List.setIfInBounds_toArray, List.set_cons_zero, List.set_cons_succ]
  refine wpAnyH_ready (rs := [1]) (by kernel_rfl) (by simp) ?_
  refine AllReadyH.cons rfl (fun K hK => ?_) AllReadyH.nil
  go_simp
  refine hK.out _ _ (by (with_reducible repeat (first | assumption | refine keep2_drew ?_ | refine keep2_alloc ?_ w1 w3 | refine keep2_set ?_ w5 w4.symm))) (fun hHeld1 => ?_)
  clear hK K
  try simp only [Act.put, List.getElem_toArray, List.getElem_cons_zero, List.getElem_cons_succ, List.setIfInBounds_toArray, List.set_cons_zero, List.set_cons_succ]
  refine wpAnyH_ready (rs := [4]) (by kernel_rfl) (by simp) ?_
  refine AllReadyH.cons rfl (fun K hK => ?_) AllReadyH.nil
  go_simp
  refine Calls.mono hin2 ?_
  rintro e w' ⟨rfl, rfl⟩
  refine hK.out _ _ (by (with_reducible repeat (first | assumption | refine keep2_drew ?_ | refine keep2_alloc ?_ w1 w3 | refine keep2_set ?_ w5 w4.symm))) (fun hHeld2 => ?_)
  clear hK K
  try simp only [Act.put, List.getElem_toArray, List.getElem_cons_zero, List.getElem_cons_succ, List.setIfInBounds_toArray, List.set_cons_zero, List.set_cons_succ]
  refine wpAnyH_take (i := 5) (v := .bool false) rfl (by kernel_rfl) (by kernel_rfl) (by kernel_rfl) (fun _ _ _ h => h) (Or.inl ⟨by rfl, by intro w hSw; go_simp⟩) (by assumption) ?_
  try simp only [Act.put, List.getElem_toArray, List.getElem_cons_zero, List.getElem_cons_succ, List.setIfInBounds_toArray, List.set_cons_zero, List.set_cons_succ]
  refine wpAnyH_take (i := 6) (v := undef) rfl (by kernel_rfl) (by kernel_rfl) (by kernel_rfl) (fun _ _ _ h => h) (Or.inr ⟨by rfl, rfl⟩) (by assumption) ?_
  try simp only [Act.put, List.getElem_toArray, List.getElem_cons_zero, List.getElem_cons_succ, List.setIfInBounds_toArray, List.set_cons_zero, List.set_cons_succ]
  refine wpAnyH_take (i := 7) (v := undef) rfl (by kernel_rfl) (by kernel_rfl) (by kernel_rfl) (fun _ _ _ h => h) (Or.inr ⟨by rfl, rfl⟩) (by assumption) ?_
  try simp only [Act.put, List.getElem_toArray, List.getElem_cons_zero, List.getElem_cons_succ, List.setIfInBounds_toArray, List.set_cons_zero, List.set_cons_succ]
  refine wpAnyH_take (i := 8) (v := undef) rfl (by kernel_rfl) (by kernel_rfl) (by kernel_rfl) (fun _ _ _ h => h) (Or.inr ⟨by rfl, rfl⟩) (by assumption) ?_
  try simp only [Act.put, List.getElem_toArray, List.getElem_cons_zero, List.getElem_cons_succ, List.setIfInBounds_toArray, List.set_cons_zero, List.set_cons_succ]
  refine wpAnyH_take (i := 9) (v := undef) rfl (by kernel_rfl) (by kernel_rfl) (by kernel_rfl) (fun _ _ _ h => h) (Or.inr ⟨by rfl, rfl⟩) (by assumption) ?_
  try simp only [Act.put, List.getElem_toArray, List.getElem_cons_zero, List.getElem_cons_succ, List.setIfInBounds_toArray, List.set_cons_zero, List.set_cons_succ]
  refine wpAnyH_take (i := 10) (v := undef) rfl (by kernel_rfl) (by kernel_rfl) (by kernel_rfl) (fun _ _ _ h => h) (Or.inr ⟨by rfl, rfl⟩) (by assumption) ?_
  try simp only [Act.put, List.getElem_toArray, List.getElem_cons_zero, List.getElem_cons_succ, List.setIfInBounds_toArray, List.set_cons_zero, List.set_cons_succ]
  refine wpAnyH_take (i := 11) (v := undef) rfl (by kernel_rfl) (by kernel_rfl) (by kernel_rfl) (fun _ _ _ h => h) (Or.inr ⟨by rfl, rfl⟩) (by assumption) ?_
  try simp only [Act.put, List.getElem_toArray, List.getElem_cons_zero, List.getElem_cons_succ, List.setIfInBounds_toArray, List.set_cons_zero, List.set_cons_succ]
  refine wpAnyH_take (i := 12) (v := undef) rfl (by kernel_rfl) (by kernel_rfl) (by kernel_rfl) (fun _ _ _ h => h) (Or.inr ⟨by rfl, rfl⟩) (by assumption) ?_
  try simp only [Act.put, List.getElem_toArray, List.getElem_cons_zero, List.getElem_cons_succ, List.setIfInBounds_toArray, List.set_cons_zero, List.set_cons_succ]
  refine wpAnyH_take (i := 13) (v := .bool false) rfl (by kernel_rfl) (by kernel_rfl) (by kernel_rfl) (fun _ _ _ h => h) (Or.inl ⟨by rfl, by intro w hSw; go_simp⟩) (by assumption) ?_
  try simp only [Act.put, List.getElem_toArray, List.getElem_cons_zero, List.getElem_cons_succ, List.setIfInBounds_toArray, List.set_cons_zero, List.set_cons_succ]
  refine wpAnyH_ready (rs := [14]) (by kernel_rfl) (by simp) ?_
  refine AllReadyH.cons rfl (fun K hK => ?_) AllReadyH.nil
  go_simp
  refine hK.out _ _ (by (with_reducible repeat (first | assumption | refine keep2_drew ?_ | refine keep2_alloc ?_ w1 w3 | refine keep2_set ?_ w5 w4.symm))) (fun hHeld3 => ?_)
  clear hK K
  try simp only [Act.put, List.getElem_toArray, List.getElem_cons_zero, List.getElem_cons_succ, List.setIfInBounds_toArray, List.set_cons_zero, List.set_cons_succ]
  refine wpAnyH_take (i := 15) (v := .bool false) rfl (by kernel_rfl) (by kernel_rfl) (by kernel_rfl) (fun _ _ _ h => h) (Or.inl ⟨by rfl, by intro w hSw; go_simp⟩) (by assumption) ?_
  try simp only [Act.put, List.getElem_toArray, List.getElem_cons_zero, List.getElem_cons_succ, List.setIfInBounds_toArray, List.set_cons_zero, List.set_cons_succ]
  refine wpAnyH_done (by kernel_rfl) ?_ _
  go_wp2_with fail
  rw [hr]
  refine bodyPost_ret (v := .tuple #[.agg #[_, _, _, _, _, _], .bool _]) ?_ rfl ⟨rfl, ?_⟩
  · simp [results, Try.results19, go_sem, *]
  · (with_reducible repeat (first | assumption | refine Below.setCell ?_ (Nat.le_succ _) _ | refine sbelow_drew ?_ | refine sbelow_drewN ?_ | refine sbelow_alloc ?_ (Nat.le_refl _)))
end Go.Proofs.Ytncogaikiceidaa
end
section
namespace Go.Proofs.Ytncogaikiceidaa
open Go.RowKit
set_option linter.unusedSimpArgs false
set_option linter.unusedVariables false
set_option linter.unnecessarySimpa false
attribute [local go_sem ↓] Go.wp_at_zero Go.wp_at_succ
attribute [local go_sem] Go.undef
set_option maxRecDepth 100000 in
set_option maxHeartbeats 16000000 in
theorem rwhat_n6 (x : Insn) (hx : x.Ok) (w : World) (hG0 : (¬ 10 < x.dst ∧ ¬ 10 < x.src ∧ List.contains [212, 220, 215, 24, 5, 6, 133, 149] x.op = false ∧ x.op % 8 = 6 ∧ List.contains [16, 32, 48, 64, 80, 96, 112, 160, 176, 192, 208] (x.op / 16 * 16) = false)) (hM0 : rwhatM x = (⟨10, x.op / 16 * 16, x.op % 8 == 5, regB x, false, 0⟩, false)) : Calls Try.prog 19 #[x.val] w (WhatAnd w (rwhatM x)) := by
  have HG := Lib.hid hG0
  have HM := Lib.hid hM0
  clear hG0 hM0
  obtain ⟨p1, p2, -, -, -, -, -, -, -, -⟩ := id hx
  obtain ⟨f0, f1, f2, f3, f4⟩ := box_two x w What.zero.obj
  obtain ⟨z0, z1, z2, z3, z4, z5⟩ := box44 (W := (w.alloc x.obj).alloc What.zero.obj) (g := w.heap.size + 1) (B := w.heap.size + 2) What.zero (by omega) (heap_two_new _ _ _)
  have hfz := thaw44 (W := (w.alloc x.obj).alloc What.zero.obj) (g := w.heap.size + 1) (B := w.heap.size + 2) What.zero (by omega) (heap_two_new _ _ _)
  have hsz := size_two w x.obj What.zero.obj
  have hb := below_two w x.obj What.zero.obj
  simp only [What.zero] at f0 f1 f2 f3 f4 z0 z1 z2 z3 z4 z5 hfz hsz hb
  obtain ⟨h1, h2, hkb, hc, hk2⟩ := HG.out
  go_enter Try.func19, Try.ntmps19
  go_upto_region 3 with fail
  generalize hW : World.alloc _ _ = W at *
  have hB : Below (w.heap.size + 2) W W := Below.refl _ _
  have hge : w.heap.size + 2 ≤ W.heap.size := by omega
  clear hW hsz
  have hin := in_is [212, 220, 215, 24, 5, 6, 133, 149] x.op (some ⟨W.heap.size, 0, none⟩) 8 (by decide) (W.alloc (.cells #[.int .u8 212, .int .u8 220, .int .u8 215, .int .u8 24, .int .u8 5, .int .u8 6, .int .u8 133, .int .u8 149] 5)) ((sat_new W 5 #[.int .u8 212, .int .u8 220, .int .u8 215, .int .u8 24, .int .u8 5, .int .u8 6, .int .u8 133, .int .u8 149] 1 8 rfl).more (by simp))
  rw [hkb] at hin
  have hBV := hB.alloc hge (.cells #[.int .u8 212, .int .u8 220, .int .u8 215, .int .u8 24, .int .u8 5, .int .u8 6, .int .u8 133, .int .u8 149] 5)
  have hbV := hb.alloc hb.size (.cells #[.int .u8 212, .int .u8 220, .int .u8 215, .int .u8 24, .int .u8 5, .int .u8 6, .int .u8 133, .int .u8 149] 5)
  go_wp2_with fail
  refine Calls.mono hin ?_
  rintro e V ⟨rfl, hV⟩
  rw [← hV] at hBV hbV
  clear hV hin hB
  have hgeV := hBV.size
  have hr := HM.out
  unfold regB at hr
  have hcl : (x.op % 8 == 5) = false := by rw [hc]; rfl
  rw [hcl] at hr
  clear hkb
  obtain ⟨e1, e2⟩ : (V.alloc (What.obj ⟨10, x.op / 16 * 16, false, x.op / 8 % 2 == 1, false, 0⟩)).heap[V.heap.size]? = some (What.obj ⟨10, x.op / 16 * 16, false, x.op / 8 % 2 == 1, false, 0⟩) ∧ (V.alloc (What.obj ⟨10, x.op / 16 * 16, false, x.op / 8 % 2 == 1, false, 0⟩)).heap.size = V.heap.size + 1 := ⟨heap_alloc_new _ _, by simp⟩
  have hBw := hBV.alloc (Nat.le_trans hge hgeV) (What.obj ⟨10, x.op / 16 * 16, false, x.op / 8 % 2 == 1, false, 0⟩)
  have hbw := hbV.alloc hbV.size (What.obj ⟨10, x.op / 16 * 16, false, x.op / 8 % 2 == 1, false, 0⟩)
  go_upto_region 13 with fail
  generalize hwd : V.alloc _ = wd at *
  obtain ⟨g0, g1, g2, g3, g4, g5⟩ := box44 (W := wd) (B := wd.heap.size) ⟨10, x.op / 16 * 16, false, x.op / 8 % 2 == 1, false, 0⟩ (by omega) e1
  simp only at g0 g1 g2 g3 g4 g5
  have hbd : Below wd.heap.size wd wd := Below.refl _ _
  have a0 := f0 wd hBw
  have a1 := f1 wd hBw
  have a2 := f2 wd hBw
  have a3 := f3 wd hBw
  have a4 := f4 wd hBw
  have k0 := g0 wd hbd
  have k1 := g1 wd hbd
  have k2 := g2 wd hbd
  have k3 := g3 wd hbd
  have k4 := g4 wd hbd
  have k5 := g5 wd hbd
  have t0 := z0 wd hBw
  have t1 := z1 wd hBw
  have t2 := z2 wd hBw
  have t3 := z3 wd hBw
  have t4 := z4 wd hBw
  have t5 := z5 wd hBw
  have y0 := hfz 0 wd hBw
  have y1 := hfz 1 wd hBw
  have y2 := hfz 2 wd hBw
  have y3 := hfz 3 wd hBw
  have y4 := hfz 4 wd hBw
  have y5 := hfz 5 wd hBw
  have w1 : w.heap.size < wd.heap.size := by omega
  have w2 : w.heap.size + 1 < wd.heap.size := by omega
  have w3 : V.heap.size < wd.heap.size := by omega
  have w4 : w.heap.size + 1 ≠ V.heap.size := by omega
  have w5 : w.heap.size ≠ w.heap.size + 1 := by omega
  have hin2 := in_is [16, 32, 48, 64, 80, 96, 112, 160, 176, 192, 208] (x.op / 16 * 16) (some ⟨wd.heap.size, 0, none⟩) 11 (by decide) (wd.alloc (.cells #[.int .u8 16, .int .u8 32, .int .u8 48, .int .u8 64, .int .u8 80, .int .u8 96, .int .u8 112, .int .u8 160, .int .u8 176, .int .u8 192, .int .u8 208] 5)).drew (((sat_new wd 5 #[.int .u8 16, .int .u8 32, .int .u8 48, .int .u8 64, .int .u8 80, .int .u8 96, .int .u8 112, .int .u8 160, .int .u8 176, .int .u8 192, .int .u8 208] 1 11 rfl).below (Below.refl _ _).drew).more (by simp))
  rw [hk2] at hin2
  clear f0 f1 f2 f3 f4 g0 g1 g2 g3 g4 g5 z0 z1 z2 z3 z4 z5 hfz hbd hBw hBV hbV hwd e1 e2 hb hk2
  generalize (x.op / 8 % 2 == 1) = rg at *
  have u0 := keep2_one (b := V.heap.size) a0
  have u1 := keep2_one (b := V.heap.size) a1
  have u2 := keep2_one (b := V.heap.size) a2
  have u3 := keep2_one (b := V.heap.size) a3
  have u4 := keep2_one (b := V.heap.size) a4
  have v0 := keep2_two (a := w.heap.size) k0
  have v1 := keep2_two (a := w.heap.size) k1
  have v2 := keep2_two (a := w.heap.size) k2
  have v3 := keep2_two (a := w.heap.size) k3
  have v4 := keep2_two (a := w.heap.size) k4
  have v5 := keep2_two (a := w.heap.size) k5
  have hK : Keep2 w.heap.size V.heap.size wd wd := keep2_refl
  clear a0 a1 a2 a3 a4 k0 k1 k2 k3 k4 k5
  refine wp_region_held_drew (S := fun w' => Keep2 w.heap.size V.heap.size wd w') (by kernel_rfl) (by (with_reducible repeat (first | assumption | refine keep2_drew ?_ | refine keep2_alloc ?_ w1 w3 | refine keep2_set ?_ w5 w4.symm))) (fun hHeld => ?_)
  refine wpAnyH_take (i := 0) (v := .agg #[.int .u8 10, .int .u8 (x.op / 16 * 16), .bool false, .bool rg, .bool false, .int .i64 0]) rfl (by kernel_rfl) (by kernel_rfl) (by kernel_rfl) (fun _ _ _ h => h) (Or.inl ⟨by rfl, by intro w hSw; go_simp⟩) (by assumption) ?_
  try simp only [Act.put, List.getElem_toArray, List.getElem_cons_zero, List.getElem_cons_succ, List.setIfInBounds_toArray, List.set_cons_zero, List.set_cons_succ]
  refine wpAnyH_take (i := 2) (v := .pointer (some ⟨V.heap.size, 1, none⟩)) rfl (by kernel_rfl) (by kernel_rfl) (by kernel_rfl) (fun _ _ _ h => h) (Or.inl ⟨by rfl, by intro w hSw; go_simp⟩) (by assumption) ?_
  try simp only [Act.put, List.getElem_toArray, List.getElem_cons_zero, List.getElem_cons_succ, List.setIfInBounds_toArray, List.set_cons_zero, List.set_cons_succ]
  refine wpAnyH_take (i := 3) (v := .int .u8 (x.op / 16 * 16)) rfl (by kernel_rfl) (by kernel_rfl) (by kernel_rfl) (fun _ _ _ h => h) (Or.inl ⟨by rfl, by intro w hSw; go_simp⟩) (by assumption) ?_
  try simp only [Act.put, List.getElem_toArray, List.getElem_cons_zero, List.getElem_cons_succ, List.setIfInBounds_toArray, List.set_cons_zero, List.set_cons_succ]
  refine wpAnyH_ready (rs := [1]) (by kernel_rfl) (by simp) ?_
  refine AllReadyH.cons rfl (fun K hK => ?_) AllReadyH.nil
  go_simp
  refine hK.out _ _ (by (with_reducible repeat (first | assumption | refine keep2_drew ?_ | refine keep2_alloc ?_ w1 w3 | refine keep2_set ?_ w5 w4.symm))) (fun hHeld1 => ?_)
  clear hK K
  try simp only [Act.put, List.getElem_toArray, List.getElem_cons_zero, List.getElem_cons_succ, List.setIfInBounds_toArray, List.set_cons_zero, List.set_cons_succ]
  refine wpAnyH_ready (rs := [4]) (by kernel_rfl) (by simp) ?_
  refine AllReadyH.cons rfl (fun K hK => ?_) AllReadyH.nil
  go_simp
  refine Calls.mono hin2 ?_
  rintro e w' ⟨rfl, rfl⟩
  refine hK.out _ _ (by (with_reducible repeat (first | assumption | refine keep2_drew ?_ | refine keep2_alloc ?_ w1 w3 | refine keep2_set ?_ w5 w4.symm))) (fun hHeld2 => ?_)
  clear hK K
  try simp only [Act.put, List.getElem_toArray, List.getElem_cons_zero, List.getElem_cons_succ, List.setIfInBounds_toArray, List.set_cons_zero, List.set_cons_succ]
  refine wpAnyH_take (i := 5) (v := .bool false) rfl (by kernel_rfl) (by kernel_rfl) (by kernel_rfl) (fun _ _ _ h => h) (Or.inl ⟨by rfl, by intro w hSw; go_simp⟩) (by assumption) ?_
  try simp only [Act.put, List.getElem_toArray, List.getElem_cons_zero, List.getElem_cons_succ, List.setIfInBounds_toArray, List.set_cons_zero, List.set_cons_succ]
  refine wpAnyH_take (i := 6) (v := undef) rfl (by kernel_rfl) (by kernel_rfl) (by kernel_rfl) (fun _ _ _ h => h) (Or.inr ⟨by rfl, rfl⟩) (by assumption) ?_
  try simp only [Act.put, List.getElem_toArray, List.getElem_cons_zero, List.getElem_cons_succ, List.setIfInBounds_toArray, List.set_cons_zero, List.set_cons_succ]
  refine wpAnyH_take (i := 7) (v := undef) rfl (by kernel_rfl) (by kernel_rfl) (by kernel_rfl) (fun _ _ _ h => h) (Or.inr ⟨by rfl, rfl⟩) (by assumption) ?_
  try simp only [Act.put, List.getElem_toArray, List.getElem_cons_zero, List.getElem_cons_succ, List.setIfInBounds_toArray, List.set_cons_zero, List.set_cons_succ]
  refine wpAnyH_take (i := 8) (v := undef) rfl (by kernel_rfl) (by kernel_rfl) (by kernel_rfl) (fun _ _ _ h => h) (Or.inr ⟨by rfl, rfl⟩) (by assumption) ?_
  try simp only [Act.put, List.getElem_toArray, List.getElem_cons_zero, List.getElem_cons_succ, List.setIfInBounds_toArray, List.set_cons_zero, List.set_cons_succ]
  refine wpAnyH_take (i := 9) (v := undef) rfl (by kernel_rfl) (by kernel_rfl) (by kernel_rfl) (fun _ _ _ h => h) (Or.inr ⟨by rfl, rfl⟩) (by assumption) ?_
  try simp only [Act.put, List.getElem_toArray, List.getElem_cons_zero, List.getElem_cons_succ, List.setIfInBounds_toArray, List.set_cons_zero, List.set_cons_succ]
  refine wpAnyH_take (i := 10) (v := undef) rfl (by kernel_rfl) (by kernel_rfl) (by kernel_rfl) (fun _ _ _ h => h) (Or.inr ⟨by rfl, rfl⟩) (by assumption) ?_
  try simp only [Act.put, List.getElem_toArray, List.getElem_cons_zero, List.getElem_cons_succ, List.setIfInBounds_toArray, List.set_cons_zero, List.set_cons_succ]
  refine wpAnyH_take (i := 11) (v := undef) rfl (by kernel_rfl) (by kernel_rfl) (by kernel_rfl) (fun _ _ _ h => h) (Or.inr ⟨by rfl, rfl⟩) (by assumption) ?_
  try simp only [Act.put, List.getElem_toArray, List.getElem_cons_zero, List.getElem_cons_succ, List.setIfInBounds_toArray, List.set_cons_zero, List.set_cons_succ]
  refine wpAnyH_take (i := 12) (v := undef) rfl (by kernel_rfl) (by kernel_rfl) (by kernel_rfl) (fun _ _ _ h => h) (Or.inr ⟨by rfl, rfl⟩) (by assumption) ?_
  try simp only [Act.put, List.getElem_toArray, List.getElem_cons_zero, List.getElem_cons_succ, List.setIfInBounds_toArray, List.set_cons_zero, List.set_cons_succ]
  refine wpAnyH_take (i := 13) (v := .bool false) rfl (by kernel_rfl) (by kernel_rfl) (by kernel_rfl) (fun _ _ _ h => h) (Or.inl ⟨by rfl, by intro w hSw; go_simp⟩) (by assumption) ?_
  try simp only [Act.put, List.getElem_toArray, List.getElem_cons_zero, List.getElem_cons_succ, List.setIfInBounds_toArray, List.set_cons_zero, List.set_cons_succ]
  refine wpAnyH_ready (rs := [14]) (by kernel_rfl) (by simp) ?_
  refine AllReadyH.cons rfl (fun K hK => ?_) AllReadyH.nil
  go_simp
  refine hK.out _ _ (by (with_reducible repeat (first | assumption | refine keep2_drew ?_ | refine keep2_alloc ?_ w1 w3 | refine keep2_set ?_ w5 w4.symm))) (fun hHeld3 => ?_)
  clear hK K
  try simp only [Act.put, List.getElem_toArray, List.getElem_cons_zero, List.getElem_cons_succ, List.setIfInBounds_toArray, List.set_cons_zero, List.set_cons_succ]
  refine wpAnyH_take (i := 15) (v := .bool false) rfl (by kernel_rfl) (by kernel_rfl) (by kernel_rfl) (fun _ _ _ h => h) (Or.inl ⟨by rfl, by intro w hSw; go_simp⟩) (by assumption) ?_
  try simp only [Act.put, List.getElem_toArray, List.getElem_cons_zero, List.getElem_cons_succ, List.setIfInBounds_toArray, List.set_cons_zero, List.set_cons_succ]
  refine wpAnyH_done (by kernel_rfl) ?_ _
  go_wp2_with fail
  rw [hr]
  refine bodyPost_ret (v := .tuple #[.agg #[_, _, _, _, _, _], .bool _]) ?_ rfl ⟨rfl, ?_⟩
  · simp [results, Try.results19, go_sem, *]
  · (with_reducible repeat (first | assumption | refine Below.setCell ?_ (Nat.le_succ _) _ | refine sbelow_drew ?_ | refine sbelow_drewN ?_ | refine sbelow_alloc ?_ (Nat.le_refl _)))
end Go.Proofs.Ytncogaikiceidaa
end
