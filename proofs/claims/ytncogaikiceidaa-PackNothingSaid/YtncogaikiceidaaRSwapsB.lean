/- The reference's other: what turns bytes about, other ways. No statement is proved here. -/
import Derived.Test.YtncogaikiceidaaRefIn
import Derived.Deep.CutBlock
namespace Go.Proofs.Ytncogaikiceidaa
open Go.RowKit
set_option linter.unusedSimpArgs false
set_option linter.unusedVariables false
set_option linter.unnecessarySimpa false
attribute [local go_sem ↓] Go.wp_at_zero Go.wp_at_succ
attribute [local go_sem] Go.undef
set_option maxRecDepth 100000 in
set_option maxHeartbeats 16000000 in
theorem rswaps_i32 (x : Insn) (hx : x.Ok) (w : World) (hG0 : ¬ x.dst = 10 ∧ zerosB x true true false = true ∧ (x.imm == 16) = false ∧ (x.imm == 32) = true) (hO0 : (x.op == 212) = true ∨ ((x.op == 212) = false ∧ (x.op == 220) = true) ∨ ((x.op == 212) = false ∧ (x.op == 220) = false ∧ (x.op == 215) = true))
    (hM0 : rotherM x = (⟨2, 0, x.op != 212, false, false, x.imm.tdiv 8⟩, x.dst != 10 && zerosB x true true false && (x.imm == 16 || x.imm == 32 || x.imm == 64))) : Calls Try.prog 41 #[x.val] w (WhatAnd w (rotherM x)) := by
  have HG := Lib.hid hG0
  have HM := Lib.hid hM0
  have HO := Lib.hid hO0
  clear hG0 hM0 hO0
  have hw64 : wrap64 x.imm = x.imm := by have := hx.imm0; have := hx.imm1; unfold wrap64; omega
  have htd : wrap64 (x.imm.tdiv 8) = x.imm.tdiv 8 := tdiv8b x.imm hx.imm0 hx.imm1
  obtain ⟨e1, e2, e3, hsz, hfin⟩ := three_heap w x.obj What.zero.obj (What.obj ⟨2, 0, x.op != 212, false, false, x.imm.tdiv 8⟩)
  go_enter Try.func41, Try.ntmps41
  go_upto_region 2 with fail
  rename_i K2 a2 K1 a1 K0 a0
  have key : ∀ v8 v9 v10 : Value, K1 ⟨#[x.val, .pointer (some ⟨w.heap.size, 0, none⟩), .pointer (some ⟨w.heap.size + 1, 0, none⟩), .bool false, undef, .pointer (some ⟨w.heap.size, 0, none⟩), .int .u8 x.op, .bool true, v8, v9, v10, undef, undef, undef, undef, undef, undef, undef, undef, undef, undef, undef, undef, undef, undef, undef, undef, undef, undef, undef, undef, undef, undef, undef, undef, undef, undef, undef, undef, undef, undef, undef, undef, undef, undef, undef, undef, undef, undef, undef, undef, undef, undef, undef, undef, undef, undef, undef, undef, undef, undef, undef, undef, undef, undef, undef, undef, undef, undef, undef, undef, undef, undef, undef, undef, undef, undef, undef, undef, undef, undef, undef, undef, undef, undef, undef, undef, undef, undef, undef, undef, undef, undef, undef, undef, undef, undef, undef, undef, undef, undef, undef, undef, undef, undef, undef, undef, undef, undef, undef, undef, undef, undef, undef, undef, undef], []⟩ ((w.alloc x.obj).alloc (.cells #[.int .u8 0, .int .u8 0, .bool false, .bool false, .bool false, .int .i64 0] 42)) := by
    clear a0 K0
    intro v8 v9 v10
    refine a1 _ _ ?_
    clear a1
    go_upto_region 6 with fail
    simp only [What.zero] at e1 e2 e3 hsz hfin
    generalize hW : World.alloc _ _ = wc at *
    obtain ⟨f0, f1, f2, f3, f4⟩ := box24 (W := wc) (B := wc.heap.size) x (by omega) e1
    obtain ⟨g0, g1, g2, g3, g4, g5⟩ := box44 (W := wc) (B := wc.heap.size) ⟨2, 0, x.op != 212, false, false, x.imm.tdiv 8⟩ (by omega) e3
    obtain ⟨z0, z1, z2, z3, z4, z5⟩ := box44 (W := wc) (B := wc.heap.size) What.zero (by omega) e2
    have hfz := thaw44 (W := wc) (B := wc.heap.size) What.zero (by omega) e2
    have hB : Below wc.heap.size wc wc := Below.refl _ _
    simp only [What.zero] at g0 g1 g2 g3 g4 g5 z0 z1 z2 z3 z4 z5
    have hw1 : w.heap.size < wc.heap.size := by omega
    have hw2 : w.heap.size + 1 < wc.heap.size := by omega
    have hw3 : w.heap.size + 1 + 1 < wc.heap.size := by omega
    have a0 := f0 wc hB
    have a1 := f1 wc hB
    have a2 := f2 wc hB
    have a3 := f3 wc hB
    have a4 := f4 wc hB
    have k0 := g0 wc hB
    have k1 := g1 wc hB
    have k2 := g2 wc hB
    have k3 := g3 wc hB
    have k4 := g4 wc hB
    have k5 := g5 wc hB
    have t0 := z0 wc hB
    have t1 := z1 wc hB
    have t2 := z2 wc hB
    have t3 := z3 wc hB
    have t4 := z4 wc hB
    have t5 := z5 wc hB
    have y0 := hfz 0 wc hB
    have y1 := hfz 1 wc hB
    have y2 := hfz 2 wc hB
    have y3 := hfz 3 wc hB
    have y4 := hfz 4 wc hB
    have y5 := hfz 5 wc hB
    clear f0 f1 f2 f3 f4 g0 g1 g2 g3 g4 g5 z0 z1 z2 z3 z4 z5 hfz hB hW hsz e1 e2 e3
    have hd : (x.dst != 10) = true := by simpa using HG.out.1
    have hdn := HG.out.1
    have hzz := HG.out.2
    have hz1 := hzz.1
    have u0 := keep2_one (b := w.heap.size + 1 + 1) a0
    have u1 := keep2_one (b := w.heap.size + 1 + 1) a1
    have u2 := keep2_one (b := w.heap.size + 1 + 1) a2
    have u3 := keep2_one (b := w.heap.size + 1 + 1) a3
    have u4 := keep2_one (b := w.heap.size + 1 + 1) a4
    have v0 := keep2_two (a := w.heap.size) k0
    have v1 := keep2_two (a := w.heap.size) k1
    have v2 := keep2_two (a := w.heap.size) k2
    have v3 := keep2_two (a := w.heap.size) k3
    have v4 := keep2_two (a := w.heap.size) k4
    have v5 := keep2_two (a := w.heap.size) k5
    have hz8 : ∀ w, Calls Try.prog 43 #[x.val, .bool false, .bool false, .bool true] w fun e w' => e = .returned (.bool true) ∧ w' = w.alloc x.obj := fun w => by
      have := only_is x false false true w
      simp only [Bool.not_true, Bool.not_false] at this
      rwa [hz1] at this
    have hK : Keep2 w.heap.size (w.heap.size + 1 + 1) wc wc := keep2_refl
    clear u0 u1 u2 u3 u4 v0 v1 v2 v3 v4 v5 hK
    have hi0 : (x.imm == 16) = false := hzz.2.1
    have hi1 : (x.imm == 32) = true := hzz.2.2
    first | (go_region_with (go_at_call 43; refine (hz8 _).mono ?_; rintro e w' ⟨rfl, rfl⟩)) | fail
    all_goals go_wp2_with fail
    all_goals
      rw [HM.out]
      refine bodyPost_ret (v := .tuple #[.agg #[_, _, _, _, _, _], .bool _]) ?_ rfl ⟨rfl, ?_⟩
      · simp [results, Try.results41, go_sem, *]
      · (with_reducible repeat (first | assumption | refine Below.setCell ?_ (Nat.le_succ _) _ | refine sbelow_drew ?_ | refine sbelow_drewN ?_ | refine sbelow_alloc ?_ (Nat.le_refl _)))
  clear a1
  rcases HO.out with h | ⟨h, h'⟩ | ⟨h, h', h''⟩
  all_goals
    go_wp2_with fail
    exact key _ _ _
end Go.Proofs.Ytncogaikiceidaa
