/- The reference's arithmetic. No statement is proved here. -/
import Derived.Test.YtncogaikiceidaaRefIn
import Derived.Deep.CutBlock
section
/- The reference's arith: what is no arithmetic, and Neg. No statement is proved here. -/
namespace Go.Proofs.Ytncogaikiceidaa
set_option maxRecDepth 100000
open Go.RowKit
set_option linter.unusedSimpArgs false
set_option linter.unusedVariables false
set_option linter.unnecessarySimpa false
attribute [local go_sem ↓] Go.wp_at_zero Go.wp_at_succ
set_option maxHeartbeats 16000000 in
theorem rarith_ten (x : Insn) (hx : x.Ok) (w : World) (hG0 : (x.dst == 10) = true) (hM0 : rarithM x = (What.zero, false)) : Calls Try.prog 42 #[x.val] w (WhatAnd w (rarithM x)) := by
  have HG := Lib.hid hG0
  have HM := Lib.hid hM0
  clear hG0 hM0
  obtain ⟨p1, p2, -, -, -, -, -, -, -, -⟩ := hx
  obtain ⟨e1, e2, e3, hsz, hfin⟩ := three_heap w x.obj What.zero.obj (What.obj ⟨1, x.op / 16 * 16, x.op % 8 == 7, x.op / 8 % 2 == 1, false, 0⟩)
  go_enter Try.func42, Try.ntmps42
  go_upto_region 2 with fail
  simp only [What.zero] at e1 e2 e3 hsz hfin
  generalize hW : World.alloc _ _ = wv at *
  obtain ⟨f0, f1, f2, f3, f4⟩ := box24 (W := wv) (B := wv.heap.size) x (by omega) e1
  obtain ⟨g0, g1, g2, g3, g4, g5⟩ := box44 (W := wv) (B := wv.heap.size) ⟨1, x.op / 16 * 16, x.op % 8 == 7, x.op / 8 % 2 == 1, false, 0⟩ (by omega) e3
  obtain ⟨z0, z1, z2, z3, z4, z5⟩ := box44 (W := wv) (B := wv.heap.size) What.zero (by omega) e2
  have hfz := thaw44 (W := wv) (B := wv.heap.size) What.zero (by omega) e2
  have hB : Below wv.heap.size wv wv := Below.refl _ _
  simp only [What.zero] at g0 g1 g2 g3 g4 g5 z0 z1 z2 z3 z4 z5
  have hw1 : w.heap.size < wv.heap.size := by omega
  have hw2 : w.heap.size + 1 < wv.heap.size := by omega
  have hw3 : w.heap.size + 1 + 1 < wv.heap.size := by omega
  clear hW hsz e1 e2 e3
  generalize hrg : (x.op / 8 % 2 == 1) = rg at *
  have hd := HG.out
  have a0 := f0 wv hB
  have a1 := f1 wv hB
  have a2 := f2 wv hB
  have a3 := f3 wv hB
  have a4 := f4 wv hB
  have k0 := g0 wv hB
  have k1 := g1 wv hB
  have k2 := g2 wv hB
  have k3 := g3 wv hB
  have k4 := g4 wv hB
  have k5 := g5 wv hB
  have t0 := z0 wv hB
  have t1 := z1 wv hB
  have t2 := z2 wv hB
  have t3 := z3 wv hB
  have t4 := z4 wv hB
  have t5 := z5 wv hB
  have y0 := hfz 0 wv hB
  have y1 := hfz 1 wv hB
  have y2 := hfz 2 wv hB
  have y3 := hfz 3 wv hB
  have y4 := hfz 4 wv hB
  have y5 := hfz 5 wv hB
  clear f0 f1 f2 f3 f4 g0 g1 g2 g3 g4 g5 z0 z1 z2 z3 z4 z5 hfz
  go_wp2_with fail
  rw [HM.out]
  refine bodyPost_ret (v := .tuple #[What.zero.val, .bool false]) ?_ rfl ⟨rfl, ?_⟩
  · simp [results, Try.results42, go_sem, What.zero, *]
  · (with_reducible repeat (first | assumption | refine Below.setCell ?_ (Nat.le_succ _) _ | refine sbelow_drew ?_ | refine sbelow_drewN ?_ | refine sbelow_alloc ?_ (Nat.le_refl _)))

set_option maxHeartbeats 16000000 in
theorem rarith_neg1 (x : Insn) (hx : x.Ok) (w : World) (hG0 : (x.dst == 10) = false ∧ (x.op / 16 * 16 == 128) = true ∧ regB x = true) (hM0 : rarithM x = (⟨1, x.op / 16 * 16, x.op % 8 == 7, regB x, false, 0⟩, false)) : Calls Try.prog 42 #[x.val] w (WhatAnd w (rarithM x)) := by
  have HG := Lib.hid hG0
  have HM := Lib.hid hM0
  clear hG0 hM0
  obtain ⟨p1, p2, -, -, -, -, -, -, -, -⟩ := hx
  obtain ⟨e1, e2, e3, hsz, hfin⟩ := three_heap w x.obj What.zero.obj (What.obj ⟨1, x.op / 16 * 16, x.op % 8 == 7, x.op / 8 % 2 == 1, false, 0⟩)
  go_enter Try.func42, Try.ntmps42
  go_upto_region 2 with fail
  simp only [What.zero] at e1 e2 e3 hsz hfin
  generalize hW : World.alloc _ _ = wv at *
  obtain ⟨f0, f1, f2, f3, f4⟩ := box24 (W := wv) (B := wv.heap.size) x (by omega) e1
  obtain ⟨g0, g1, g2, g3, g4, g5⟩ := box44 (W := wv) (B := wv.heap.size) ⟨1, x.op / 16 * 16, x.op % 8 == 7, x.op / 8 % 2 == 1, false, 0⟩ (by omega) e3
  obtain ⟨z0, z1, z2, z3, z4, z5⟩ := box44 (W := wv) (B := wv.heap.size) What.zero (by omega) e2
  have hfz := thaw44 (W := wv) (B := wv.heap.size) What.zero (by omega) e2
  have hB : Below wv.heap.size wv wv := Below.refl _ _
  simp only [What.zero] at g0 g1 g2 g3 g4 g5 z0 z1 z2 z3 z4 z5
  have hw1 : w.heap.size < wv.heap.size := by omega
  have hw2 : w.heap.size + 1 < wv.heap.size := by omega
  have hw3 : w.heap.size + 1 + 1 < wv.heap.size := by omega
  clear hW hsz e1 e2 e3
  generalize hrg : (x.op / 8 % 2 == 1) = rg at *
  obtain ⟨hd, h8, hr⟩ := HG.out
  have hr' : rg = true := by rw [← hrg]; exact hr
  subst hr'
  have a0 := f0 wv hB
  have a1 := f1 wv hB
  have a2 := f2 wv hB
  have a3 := f3 wv hB
  have a4 := f4 wv hB
  have k0 := g0 wv hB
  have k1 := g1 wv hB
  have k2 := g2 wv hB
  have k3 := g3 wv hB
  have k4 := g4 wv hB
  have k5 := g5 wv hB
  have t0 := z0 wv hB
  have t1 := z1 wv hB
  have t2 := z2 wv hB
  have t3 := z3 wv hB
  have t4 := z4 wv hB
  have t5 := z5 wv hB
  have y0 := hfz 0 wv hB
  have y1 := hfz 1 wv hB
  have y2 := hfz 2 wv hB
  have y3 := hfz 3 wv hB
  have y4 := hfz 4 wv hB
  have y5 := hfz 5 wv hB
  clear f0 f1 f2 f3 f4 g0 g1 g2 g3 g4 g5 z0 z1 z2 z3 z4 z5 hfz
  go_wp2_with fail
  go_region
  go_wp2_with fail
  rw [HM.out]
  refine bodyPost_ret (v := .tuple #[.agg #[.int .u8 1, .int .u8 (x.op / 16 * 16), .bool (x.op % 8 == 7), .bool true, .bool false, .int .i64 0], .bool false]) ?_ rfl ⟨?_, ?_⟩
  · simp [results, Try.results42, go_sem, *]
  · simp [regB, *]
  · (with_reducible repeat (first | assumption | refine Below.setCell ?_ (Nat.le_succ _) _ | refine sbelow_drew ?_ | refine sbelow_drewN ?_ | refine sbelow_alloc ?_ (Nat.le_refl _)))

set_option maxHeartbeats 16000000 in
theorem rarith_neg0 (x : Insn) (hx : x.Ok) (w : World) (hG0 : (x.dst == 10) = false ∧ (x.op / 16 * 16 == 128) = true ∧ regB x = false) (hM0 : rarithM x = (⟨1, x.op / 16 * 16, x.op % 8 == 7, regB x, false, 0⟩, zerosB x true true true)) : Calls Try.prog 42 #[x.val] w (WhatAnd w (rarithM x)) := by
  have HG := Lib.hid hG0
  have HM := Lib.hid hM0
  clear hG0 hM0
  obtain ⟨p1, p2, -, -, -, -, -, -, -, -⟩ := hx
  obtain ⟨e1, e2, e3, hsz, hfin⟩ := three_heap w x.obj What.zero.obj (What.obj ⟨1, x.op / 16 * 16, x.op % 8 == 7, x.op / 8 % 2 == 1, false, 0⟩)
  go_enter Try.func42, Try.ntmps42
  go_upto_region 2 with fail
  simp only [What.zero] at e1 e2 e3 hsz hfin
  generalize hW : World.alloc _ _ = wv at *
  obtain ⟨f0, f1, f2, f3, f4⟩ := box24 (W := wv) (B := wv.heap.size) x (by omega) e1
  obtain ⟨g0, g1, g2, g3, g4, g5⟩ := box44 (W := wv) (B := wv.heap.size) ⟨1, x.op / 16 * 16, x.op % 8 == 7, x.op / 8 % 2 == 1, false, 0⟩ (by omega) e3
  obtain ⟨z0, z1, z2, z3, z4, z5⟩ := box44 (W := wv) (B := wv.heap.size) What.zero (by omega) e2
  have hfz := thaw44 (W := wv) (B := wv.heap.size) What.zero (by omega) e2
  have hB : Below wv.heap.size wv wv := Below.refl _ _
  simp only [What.zero] at g0 g1 g2 g3 g4 g5 z0 z1 z2 z3 z4 z5
  have hw1 : w.heap.size < wv.heap.size := by omega
  have hw2 : w.heap.size + 1 < wv.heap.size := by omega
  have hw3 : w.heap.size + 1 + 1 < wv.heap.size := by omega
  clear hW hsz e1 e2 e3
  generalize hrg : (x.op / 8 % 2 == 1) = rg at *
  obtain ⟨hd, h8, hr⟩ := HG.out
  have hr' : rg = false := by rw [← hrg]; exact hr
  subst hr'
  generalize hzz : zerosB x true true true = zz at *
  have hz8 : ∀ w, Calls Try.prog 43 #[x.val, .bool false, .bool false, .bool false] w fun e w' => e = .returned (.bool zz) ∧ w' = w.alloc x.obj := fun w => by
    have := only_is x false false false w
    simp only [Bool.not_true, Bool.not_false] at this
    rwa [hzz] at this
  have a0 := f0 wv hB
  have a1 := f1 wv hB
  have a2 := f2 wv hB
  have a3 := f3 wv hB
  have a4 := f4 wv hB
  have k0 := g0 wv hB
  have k1 := g1 wv hB
  have k2 := g2 wv hB
  have k3 := g3 wv hB
  have k4 := g4 wv hB
  have k5 := g5 wv hB
  have t0 := z0 wv hB
  have t1 := z1 wv hB
  have t2 := z2 wv hB
  have t3 := z3 wv hB
  have t4 := z4 wv hB
  have t5 := z5 wv hB
  have y0 := hfz 0 wv hB
  have y1 := hfz 1 wv hB
  have y2 := hfz 2 wv hB
  have y3 := hfz 3 wv hB
  have y4 := hfz 4 wv hB
  have y5 := hfz 5 wv hB
  clear f0 f1 f2 f3 f4 g0 g1 g2 g3 g4 g5 z0 z1 z2 z3 z4 z5 hfz
  go_wp2_with fail
  have u0 := keep2_one (b := w.heap.size + 1 + 1) a0
  have u1 := keep2_one (b := w.heap.size + 1 + 1) a1
  have u2 := keep2_one (b := w.heap.size + 1 + 1) a2
  have u3 := keep2_one (b := w.heap.size + 1 + 1) a3
  have u4 := keep2_one (b := w.heap.size + 1 + 1) a4
  have v0 := keep2_two (a := w.heap.size) k0
  have v1 := keep2_two (a := w.heap.size) k1
  have v2 := keep2_two (a := w.heap.size) k2
  have v3 := keep2_two (a := w.heap.size) k3
  have v4 := keep2_two (a := w.heap.size) k4
  have v5 := keep2_two (a := w.heap.size) k5
  have hK : Keep2 w.heap.size (w.heap.size + 1 + 1) wv wv := keep2_refl
  clear a0 a1 a2 a3 a4 k0 k1 k2 k3 k4 k5
  go_region_held3 (fun w' => Keep2 w.heap.size (w.heap.size + 1 + 1) wv w')
    (with_reducible repeat (first | assumption | refine keep2_drew ?_ | refine keep2_alloc ?_ hw1 hw3 | refine keep2_set ?_ (Nat.ne_of_lt (Nat.lt_succ_self _)) (Nat.ne_of_gt (Nat.lt_succ_self _))))
    (first | (go_at_call 43; refine (hz8 _).mono ?_; rintro e w' ⟨rfl, rfl⟩))
  all_goals go_wp2_with fail
  all_goals rw [HM.out]
  all_goals
    refine bodyPost_ret (v := .tuple #[.agg #[.int .u8 1, .int .u8 (x.op / 16 * 16), .bool (x.op % 8 == 7), .bool false, .bool false, .int .i64 0], .bool zz]) ?_ rfl ⟨?_, ?_⟩
    · simp [results, Try.results42, go_sem, *]
    · simp [regB, *]
    · (with_reducible repeat (first | assumption | refine Below.setCell ?_ (Nat.le_succ _) _ | refine sbelow_drew ?_ | refine sbelow_drewN ?_ | refine sbelow_alloc ?_ (Nat.le_refl _)))
end Go.Proofs.Ytncogaikiceidaa
end

section
/- The reference's arith: the others. No statement is proved here. -/
namespace Go.Proofs.Ytncogaikiceidaa
set_option maxRecDepth 100000
open Go.RowKit
set_option linter.unusedSimpArgs false
set_option linter.unusedVariables false
set_option linter.unnecessarySimpa false
attribute [local go_sem ↓] Go.wp_at_zero Go.wp_at_succ
def offB (x : Insn) : Bool := if x.op / 16 = 3 ∨ x.op / 16 = 9 then x.off == 0 || x.off == 1
  else if x.op / 16 = 11 then x.off == 0 || regB x && (x.off == 8 || x.off == 16 || (x.op % 8 == 7) && x.off == 32) else x.off == 0
set_option maxHeartbeats 16000000 in
theorem rarith_on (x : Insn) (hx : x.Ok) (w : World) (hG0 : (x.dst == 10) = false ∧ (x.op / 16 * 16 == 128) = false) (hM0 : rarithM x = (⟨1, x.op / 16 * 16, x.op % 8 == 7, regB x, false, 0⟩, (List.contains [0, 16, 32, 64, 80, 160, 96, 112, 192, 48, 144, 176] (x.op / 16 * 16) && offB x) && zerosB x (!(x.op / 8 % 2 == 1)) false (!(!(x.op / 8 % 2 == 1))))) : Calls Try.prog 42 #[x.val] w (WhatAnd w (rarithM x)) := by
  have HG := Lib.hid hG0
  have HM := Lib.hid hM0
  clear hG0 hM0
  obtain ⟨p1, p2, -, -, -, -, -, -, -, -⟩ := hx
  obtain ⟨e1, e2, e3, hsz, hfin⟩ := three_heap w x.obj What.zero.obj (What.obj ⟨1, x.op / 16 * 16, x.op % 8 == 7, x.op / 8 % 2 == 1, false, 0⟩)
  go_enter Try.func42, Try.ntmps42
  go_upto_region 2 with fail
  simp only [What.zero] at e1 e2 e3 hsz hfin
  generalize hW : World.alloc _ _ = wv at *
  obtain ⟨f0, f1, f2, f3, f4⟩ := box24 (W := wv) (B := wv.heap.size) x (by omega) e1
  obtain ⟨g0, g1, g2, g3, g4, g5⟩ := box44 (W := wv) (B := wv.heap.size) ⟨1, x.op / 16 * 16, x.op % 8 == 7, x.op / 8 % 2 == 1, false, 0⟩ (by omega) e3
  obtain ⟨z0, z1, z2, z3, z4, z5⟩ := box44 (W := wv) (B := wv.heap.size) What.zero (by omega) e2
  have hfz := thaw44 (W := wv) (B := wv.heap.size) What.zero (by omega) e2
  have hB : Below wv.heap.size wv wv := Below.refl _ _
  simp only [What.zero] at g0 g1 g2 g3 g4 g5 z0 z1 z2 z3 z4 z5
  have hw1 : w.heap.size < wv.heap.size := by omega
  have hw2 : w.heap.size + 1 < wv.heap.size := by omega
  have hw3 : w.heap.size + 1 + 1 < wv.heap.size := by omega
  clear hW hsz e1 e2 e3
  generalize hrg : (x.op / 8 % 2 == 1) = rg at *
  obtain ⟨hd, h8⟩ := HG.out
  generalize hzz : zerosB x (!rg) false (!(!rg)) = zz at *
  have hz8 : ∀ w, Calls Try.prog 43 #[x.val, .bool rg, .bool true, .bool (!rg)] w fun e w' => e = .returned (.bool zz) ∧ w' = w.alloc x.obj := fun w => by
    have := only_is x rg true (!rg) w
    simp only [Bool.not_true, Bool.not_false] at this
    rwa [hzz] at this
  go_upto_block 0 with fail
  go_cut [5] from 36 (fun t5 wx => t5 = .bool (offB x) ∧ wx = wv)
  case first =>
    cases e48 : (x.op / 16 * 16 == 48)
    · cases e144 : (x.op / 16 * 16 == 144)
      · have n3 : ¬ (x.op / 16 = 3 ∨ x.op / 16 = 9) := by simp at e48 e144; omega
        cases e176 : (x.op / 16 * 16 == 176)
        · have n11 : ¬ x.op / 16 = 11 := by simp at e176; omega
          go_wp2_with fail
          go_meet
          exact ⟨by unfold offB; rw [if_neg n3, if_neg n11], rfl⟩
        · have n11 : x.op / 16 = 11 := by simp at e176; omega
          have HO : offB x = (x.off == 0 || rg && (x.off == 8 || x.off == 16 || (x.op % 8 == 7) && x.off == 32)) := by unfold offB regB; rw [if_neg n3, if_pos n11, hrg]
          have HO' := Lib.hid HO
          generalize (x.op % 8 == 7) = wd at *
          clear n11 n3 HO
          cases h0 : (x.off == 0)
          · cases rg
            · go_wp2_with fail
              go_meet
              exact ⟨by rw [HO'.out]; simp [*], rfl⟩
            · cases h8 : (x.off == 8)
              · cases h16 : (x.off == 16)
                · cases wd
                  iterate 2
                    · go_wp2_with fail
                      go_meet
                      exact ⟨by rw [HO'.out]; simp [*], rfl⟩
                · go_wp2_with fail
                  go_meet
                  exact ⟨by rw [HO'.out]; simp [*], rfl⟩
              · go_wp2_with fail
                go_meet
                exact ⟨by rw [HO'.out]; simp [*], rfl⟩
          · go_wp2_with fail
            go_meet
            exact ⟨by rw [HO'.out]; simp [*], rfl⟩
      · have n3 : x.op / 16 = 3 ∨ x.op / 16 = 9 := by simp at e144; omega
        have HO : offB x = (x.off == 0 || x.off == 1) := by unfold offB; rw [if_pos n3]
        have HO' := Lib.hid HO
        clear HO n3
        cases h0 : (x.off == 0)
        iterate 2
          · go_wp2_with fail
            go_meet
            exact ⟨by rw [HO'.out]; simp [*], rfl⟩
    · have n3 : x.op / 16 = 3 ∨ x.op / 16 = 9 := by simp at e48; omega
      have HO : offB x = (x.off == 0 || x.off == 1) := by unfold offB; rw [if_pos n3]
      have HO' := Lib.hid HO
      clear HO n3
      cases h0 : (x.off == 0)
      iterate 2
        · go_wp2_with fail
          go_meet
          exact ⟨by rw [HO'.out]; simp [*], rfl⟩
  case rest =>
    obtain ⟨rfl, hwv⟩ := hcut
    rw [hwv]
    clear hwv wc
    have hsat := sat_new wv 5 (bytesV [0, 16, 32, 64, 80, 160, 96, 112, 192, 48, 144, 176]).toArray 1 12 rfl
    have hin := in_is [0, 16, 32, 64, 80, 160, 96, 112, 192, 48, 144, 176] (x.op / 16 * 16) (some ⟨wv.heap.size, 0, none⟩) 12 (by decide) (wv.alloc (.cells (bytesV [0, 16, 32, 64, 80, 160, 96, 112, 192, 48, 144, 176]).toArray 5)) (hsat.more (by simp))
    generalize hkb : List.contains [0, 16, 32, 64, 80, 160, 96, 112, 192, 48, 144, 176] (x.op / 16 * 16) = kb at *
    generalize offB x = ob at *
    have hbd : Below wv.heap.size wv (wv.alloc (.cells (bytesV [0, 16, 32, 64, 80, 160, 96, 112, 192, 48, 144, 176]).toArray 5)) := hB.alloc (Nat.le_refl _) _
    have hfin2 := hfin.alloc hfin.size (.cells (bytesV [0, 16, 32, 64, 80, 160, 96, 112, 192, 48, 144, 176]).toArray 5)
    go_wp2_with fail
    refine Calls.mono hin ?_
    rintro e w1 ⟨rfl, rfl⟩
    generalize hWd : wv.alloc (.cells (bytesV [0, 16, 32, 64, 80, 160, 96, 112, 192, 48, 144, 176]).toArray 5) = wd at *
    have w1 : w.heap.size < wd.heap.size := Nat.lt_of_lt_of_le hw1 hbd.size
    have w2 : w.heap.size + 1 < wd.heap.size := Nat.lt_of_lt_of_le hw2 hbd.size
    have w3 : w.heap.size + 1 + 1 < wd.heap.size := Nat.lt_of_lt_of_le hw3 hbd.size
    have a0 := f0 wd hbd
    have a1 := f1 wd hbd
    have a2 := f2 wd hbd
    have a3 := f3 wd hbd
    have a4 := f4 wd hbd
    have k0 := g0 wd hbd
    have k1 := g1 wd hbd
    have k2 := g2 wd hbd
    have k3 := g3 wd hbd
    have k4 := g4 wd hbd
    have k5 := g5 wd hbd
    have t0 := z0 wd hbd
    have t1 := z1 wd hbd
    have t2 := z2 wd hbd
    have t3 := z3 wd hbd
    have t4 := z4 wd hbd
    have t5 := z5 wd hbd
    have y0 := hfz 0 wd hbd
    have y1 := hfz 1 wd hbd
    have y2 := hfz 2 wd hbd
    have y3 := hfz 3 wd hbd
    have y4 := hfz 4 wd hbd
    have y5 := hfz 5 wd hbd
    clear f0 f1 f2 f3 f4 g0 g1 g2 g3 g4 g5 z0 z1 z2 z3 z4 z5 hfz hB hbd hsat hin hWd hfin hkb
    cases kb
    · go_wp2_with fail
      go_region
      go_wp2_with fail
      rw [HM.out]
      refine bodyPost_ret (v := .tuple #[.agg #[.int .u8 1, .int .u8 (x.op / 16 * 16), .bool (x.op % 8 == 7), .bool rg, .bool false, .int .i64 0], .bool false]) ?_ rfl ⟨?_, ?_⟩
      · simp [results, Try.results42, go_sem, *]
      · simp [regB, *]
      · (with_reducible repeat (first | assumption | refine Below.setCell ?_ (Nat.le_succ _) _ | refine sbelow_drew ?_ | refine sbelow_drewN ?_ | refine sbelow_alloc ?_ (Nat.le_refl _)))
    cases ob
    · go_wp2_with fail
      go_region
      go_wp2_with fail
      rw [HM.out]
      refine bodyPost_ret (v := .tuple #[.agg #[.int .u8 1, .int .u8 (x.op / 16 * 16), .bool (x.op % 8 == 7), .bool rg, .bool false, .int .i64 0], .bool false]) ?_ rfl ⟨?_, ?_⟩
      · simp [results, Try.results42, go_sem, *]
      · simp [regB, *]
      · (with_reducible repeat (first | assumption | refine Below.setCell ?_ (Nat.le_succ _) _ | refine sbelow_drew ?_ | refine sbelow_drewN ?_ | refine sbelow_alloc ?_ (Nat.le_refl _)))
    · go_wp2_with fail
      have u0 := keep2_one (b := w.heap.size + 1 + 1) a0
      have u1 := keep2_one (b := w.heap.size + 1 + 1) a1
      have u2 := keep2_one (b := w.heap.size + 1 + 1) a2
      have u3 := keep2_one (b := w.heap.size + 1 + 1) a3
      have u4 := keep2_one (b := w.heap.size + 1 + 1) a4
      have v0 := keep2_two (a := w.heap.size) k0
      have v1 := keep2_two (a := w.heap.size) k1
      have v2 := keep2_two (a := w.heap.size) k2
      have v3 := keep2_two (a := w.heap.size) k3
      have v4 := keep2_two (a := w.heap.size) k4
      have v5 := keep2_two (a := w.heap.size) k5
      have hK : Keep2 w.heap.size (w.heap.size + 1 + 1) wd wd := keep2_refl
      clear a0 a1 a2 a3 a4 k0 k1 k2 k3 k4 k5
      go_region_held3 (fun w' => Keep2 w.heap.size (w.heap.size + 1 + 1) wd w')
        (with_reducible repeat (first | assumption | refine keep2_drew ?_ | refine keep2_alloc ?_ w1 w3 | refine keep2_set ?_ (Nat.ne_of_lt (Nat.lt_succ_self _)) (Nat.ne_of_gt (Nat.lt_succ_self _))))
        (first | (go_at_call 43; refine (hz8 _).mono ?_; rintro e w' ⟨rfl, rfl⟩))
      all_goals go_wp2_with fail
      all_goals rw [HM.out]
      all_goals
        refine bodyPost_ret (v := .tuple #[.agg #[.int .u8 1, .int .u8 (x.op / 16 * 16), .bool (x.op % 8 == 7), .bool rg, .bool false, .int .i64 0], .bool zz]) ?_ rfl ⟨?_, ?_⟩
        · simp [results, Try.results42, go_sem, *]
        · simp [regB, *]
        · (with_reducible repeat (first | assumption | refine Below.setCell ?_ (Nat.le_succ _) _ | refine sbelow_drew ?_ | refine sbelow_drewN ?_ | refine sbelow_alloc ?_ (Nat.le_refl _)))
end Go.Proofs.Ytncogaikiceidaa
end

section
/- The reference's arith, at every instruction. No statement is proved here. -/
namespace Go.Proofs.Ytncogaikiceidaa
set_option maxRecDepth 100000
open Go.RowKit
set_option linter.unusedSimpArgs false
set_option linter.unusedVariables false
set_option linter.unnecessarySimpa false
theorem rarith_any (x : Insn) (hx : x.Ok) (w : World) : Calls Try.prog 42 #[x.val] w (WhatAnd w (rarithM x)) := by
  have h0 := hx.op0
  have h1 := hx.op1
  cases hd : (x.dst == 10)
  · have hd' : ¬ x.dst = 10 := by simpa using hd
    cases h8 : (x.op / 16 * 16 == 128)
    · have h8' : ¬ x.op / 16 = 8 := by simp at h8; omega
      refine rarith_on x hx w ⟨hd, h8⟩ ?_
      unfold rarithM offB onlyB
      rw [if_neg hd', if_neg h8']
      simp only [regB, Bool.not_true]
    · have h8' : x.op / 16 = 8 := by simp at h8; omega
      cases hr : regB x
      · refine rarith_neg0 x hx w ⟨hd, h8, hr⟩ ?_
        unfold rarithM onlyB
        rw [if_neg hd', if_pos h8', hr]
        all_goals rfl
      · refine rarith_neg1 x hx w ⟨hd, h8, hr⟩ ?_
        unfold rarithM onlyB
        rw [if_neg hd', if_pos h8', hr]
        all_goals rfl
  · exact rarith_ten x hx w hd (by unfold rarithM; rw [if_pos (by simpa using hd)])
end Go.Proofs.Ytncogaikiceidaa
end
