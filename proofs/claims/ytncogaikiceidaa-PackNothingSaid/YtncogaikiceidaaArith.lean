/- The program's arithmetic answers as the plain arithM does. No statement is proved here. -/
import Derived.Test.YtncogaikiceidaaInsn1
section
/- The program's arith: nine groups of Ops that are alike. No statement is proved here. -/
namespace Go.Proofs.Ytncogaikiceidaa
open Go.RowKit
set_option linter.unusedSimpArgs false
set_option linter.unusedVariables false
attribute [local go_sem ↓] Go.wp_at_zero Go.wp_at_succ
set_option maxRecDepth 100000 in
set_option maxHeartbeats 16000000 in
theorem arith_walk (x : Insn) (hx : x.Ok) (w : World) (hC : (x.op / 16 = 0 ∨ x.op / 16 = 1 ∨ x.op / 16 = 2 ∨ x.op / 16 = 4 ∨ x.op / 16 = 5 ∨ x.op / 16 = 6 ∨ x.op / 16 = 7 ∨ x.op / 16 = 10 ∨ x.op / 16 = 12) ∨ (x.op / 16 = 13 ∨ x.op / 16 = 14 ∨ x.op / 16 = 15) ∨ (x.op / 16 = 3 ∨ x.op / 16 = 9) ∨ (x.op / 16 = 8) ∨ (x.op / 16 = 11)) : Calls Try.prog 60 #[x.val] w (WhatAnd w (arithM x)) := by
  have HC := Lib.hid hC
  clear hC
  have h240 := and240 x.op hx.op0 hx.op1
  have h8 := and8 x.op hx.op0 hx.op1
  obtain ⟨f0, f1, f2, f3, f4⟩ := box_two x w What.zero.obj
  obtain ⟨z0, z1, z2, z3, z4, z5⟩ := box44 (W := (w.alloc x.obj).alloc What.zero.obj) (g := w.heap.size + 1) (B := w.heap.size + 2) What.zero (by omega) (heap_two_new _ _ _)
  have hfz := thaw44 (W := (w.alloc x.obj).alloc What.zero.obj) (g := w.heap.size + 1) (B := w.heap.size + 2) What.zero (by omega) (heap_two_new _ _ _)
  have hsz := size_two w x.obj What.zero.obj
  have hb := below_two w x.obj What.zero.obj
  simp only [What.zero] at *
  go_enter Try.func60, Try.ntmps60
  go_wp2_with fail
  generalize hW : World.alloc _ _ = W at *
  have hS : Below (w.heap.size + 2) W W := Below.refl _ _
  go_cut [4] from 5 (fun t4 wx => ∃ g, t4 = .pointer (some ⟨g, 0, none⟩) ∧ w.heap.size + 2 ≤ g ∧ g < wx.heap.size ∧ Below (w.heap.size + 2) W wx ∧ wx.heap[g]? = some (What.obj ⟨1, x.op / 16 * 16, x.op % 8 == 7, x.op / 8 % 2 * 8 != 0, false, 0⟩))
  case first =>
    go_region_held3 (fun w' => Below (w.heap.size + 2) W w')
      (repeat (first | assumption | refine sbelow_drew ?_ | refine sbelow_alloc ?_ (by omega)))
      (first | (go_at_call 59; refine (class_is x hx _).mono ?_; rintro e w' ⟨rfl, rfl⟩))
    all_goals (go_wp2_with fail; go_meet)
    · exact ⟨_, rfl, by omega, by simp; omega, by assumption, at_two hsz⟩
    · exact ⟨_, rfl, by omega, by simp; omega, by assumption, at_one hsz⟩
  case rest =>
    obtain ⟨g, rfl, hg1, hg2, hB, hg⟩ := hcut
    obtain ⟨g0, g1, g2, g3, g4, g5⟩ := box44 (W := wc) (B := wc.heap.size) ⟨1, x.op / 16 * 16, x.op % 8 == 7, x.op / 8 % 2 * 8 != 0, false, 0⟩ hg2 hg
    simp only at g0 g1 g2 g3 g4 g5
    have hr : (x.op / 8 % 2 * 8 != 0) = regB x := by
      have : x.op / 8 % 2 = 0 ∨ x.op / 8 % 2 = 1 := by omega
      rcases this with h | h <;> simp [regB, h]
    rw [hr] at g3
    have hBc : Below wc.heap.size wc wc := Below.refl _ _
    have hsc := hB.size
    clear hg hS h8
    have hzc : ∀ w, Calls Try.prog 74 #[x.val, .bool (!regB x), .bool false, .bool (regB x)] w fun e w' => e = .returned (.bool (zerosB x (!regB x) false (regB x))) ∧ w' = w.alloc x.obj := fun w => zeros_is x _ _ _ w
    go_upto_region 2 with fail
    go_cut [5] from 6 (fun t5 wx => t5 = .bool (x.dst != 10 && zerosB x (!regB x) false (regB x)) ∧ Below wc.heap.size wc wx ∧ Below (w.heap.size + 2) W wx)
    case first =>
      by_cases hd : x.dst = 10
      · go_wp2_with fail
        go_meet
        exact ⟨by simp [hd], hBc, hB⟩
      · go_wp2_with fail
        refine (hzc _).mono ?_
        rintro e w' ⟨rfl, rfl⟩
        go_wp2_with fail
        go_meet
        exact ⟨by simp [hd], hBc.alloc (Nat.le_refl _) _, hB.alloc (by omega) _⟩
    case rest =>
      obtain ⟨rfl, hB2, hB3⟩ := hcut
      have hfin : Below w.heap.size w wc := hb.trans (hB3.mono (by omega))
      have a0 := f0 wc hB3
      have a1 := f1 wc hB3
      have a2 := f2 wc hB3
      have a3 := f3 wc hB3
      have a4 := f4 wc hB3
      have k0 := g0 wc hB2
      have k1 := g1 wc hB2
      have k2 := g2 wc hB2
      have k3 := g3 wc hB2
      have k4 := g4 wc hB2
      have k5 := g5 wc hB2
      have t0 := z0 wc hB3
      have t1 := z1 wc hB3
      have t2 := z2 wc hB3
      have t3 := z3 wc hB3
      have t4 := z4 wc hB3
      have t5 := z5 wc hB3
      have y0 := hfz 0 wc hB3
      have y1 := hfz 1 wc hB3
      have y2 := hfz 2 wc hB3
      have y3 := hfz 3 wc hB3
      have y4 := hfz 4 wc hB3
      have y5 := hfz 5 wc hB3
      have hq1 := hB2.size
      have hw1 : w.heap.size < wc.heap.size := by omega
      have hw2 : w.heap.size + 1 < wc.heap.size := by omega
      have hw3 : g < wc.heap.size := by omega
      clear f0 f1 f2 f3 f4 g0 g1 g2 g3 g4 g5 z0 z1 z2 z3 z4 z5 hfz hzc h240 hr hB hBc hB2 hB3 hb hW hsz
      generalize hbv : (x.dst != 10 && zerosB x (!regB x) false (regB x)) = b at *
      rcases HC.out with hG0 | hG0 | hG0 | hG0 | hG0 <;> clear HC
      · have HG := Lib.hid hG0
        clear hG0
        rcases HG.out with hG | hG | hG | hG | hG | hG | hG | hG | hG
        iterate 9
          · rw [hG] at k1
            simp only [Int.reduceMul] at k1
            cases b
            · go_wp2_with fail
              go_region
              go_wp2_with fail
              refine bodyPost_ret (v := .tuple #[(arithM x).1.val, .bool (arithM x).2]) ?_ rfl ⟨rfl, ?_⟩
              · simp [results, Try.results60, go_sem, arithM, *]
                all_goals (first | simpa using hbv | exact fun _ => by simpa using hbv)
              · (with_reducible repeat (first | assumption | refine Below.setCell ?_ (Nat.le_succ _) _ | refine sbelow_drew ?_ | refine sbelow_drewN ?_ | refine sbelow_alloc ?_ (Nat.le_refl _)))
            · by_cases ho : x.off = 0
              iterate 2
                · go_wp2_with fail
                  go_region
                  go_wp2_with fail
                  refine bodyPost_ret (v := .tuple #[(arithM x).1.val, .bool (arithM x).2]) ?_ rfl ⟨rfl, ?_⟩
                  · simp [results, Try.results60, go_sem, arithM, *]
                    all_goals (first | simpa using hbv | exact fun _ => by simpa using hbv)
                  · (with_reducible repeat (first | assumption | refine Below.setCell ?_ (Nat.le_succ _) _ | refine sbelow_drew ?_ | refine sbelow_drewN ?_ | refine sbelow_alloc ?_ (Nat.le_refl _)))
      · have HG := Lib.hid hG0
        clear hG0
        rcases HG.out with hG | hG | hG
        iterate 3
          · rw [hG] at k1
            simp only [Int.reduceMul] at k1
            go_wp2_with fail
            refine bodyPost_ret (v := .tuple #[(arithM x).1.val, .bool (arithM x).2]) ?_ rfl ⟨rfl, ?_⟩
            · simp [results, Try.results60, go_sem, arithM, *]
              all_goals (first | simpa using hbv | exact fun _ => by simpa using hbv)
            · (with_reducible repeat (first | assumption | refine Below.setCell ?_ (Nat.le_succ _) _ | refine sbelow_drew ?_ | refine sbelow_drewN ?_ | refine sbelow_alloc ?_ (Nat.le_refl _)))
      · have HG := Lib.hid hG0
        clear hG0
        rcases HG.out with hG | hG
        iterate 2
          · rw [hG] at k1
            simp only [Int.reduceMul] at k1
            cases b
            · go_wp2_with fail
              go_region
              go_wp2_with fail
              refine bodyPost_ret (v := .tuple #[(arithM x).1.val, .bool (arithM x).2]) ?_ rfl ⟨rfl, ?_⟩
              · simp [results, Try.results60, go_sem, arithM, *]
                all_goals (first | simpa using hbv | exact fun _ => by simpa using hbv)
              · (with_reducible repeat (first | assumption | refine Below.setCell ?_ (Nat.le_succ _) _ | refine sbelow_drew ?_ | refine sbelow_drewN ?_ | refine sbelow_alloc ?_ (Nat.le_refl _)))
            · by_cases ho : x.off = 0
              · go_wp2_with fail
                go_region
                go_wp2_with fail
                refine bodyPost_ret (v := .tuple #[(arithM x).1.val, .bool (arithM x).2]) ?_ rfl ⟨rfl, ?_⟩
                · simp [results, Try.results60, go_sem, arithM, *]
                  all_goals (first | simpa using hbv | exact fun _ => by simpa using hbv)
                · (with_reducible repeat (first | assumption | refine Below.setCell ?_ (Nat.le_succ _) _ | refine sbelow_drew ?_ | refine sbelow_drewN ?_ | refine sbelow_alloc ?_ (Nat.le_refl _)))
              · have hoF : (x.off == 0) = false := by simp [ho]
                by_cases ho1 : x.off = 1
                iterate 2
                  · go_wp2_with fail
                    go_region
                    go_wp2_with fail
                    refine bodyPost_ret (v := .tuple #[(arithM x).1.val, .bool (arithM x).2]) ?_ rfl ⟨rfl, ?_⟩
                    · simp [results, Try.results60, go_sem, arithM, *]
                      all_goals (first | simpa using hbv | exact fun _ => by simpa using hbv)
                    · (with_reducible repeat (first | assumption | refine Below.setCell ?_ (Nat.le_succ _) _ | refine sbelow_drew ?_ | refine sbelow_drewN ?_ | refine sbelow_alloc ?_ (Nat.le_refl _)))
      · have HG := Lib.hid hG0
        clear hG0
        have hG : x.op / 16 = 8 := HG.out
        rw [hG] at k1
        simp only [Int.reduceMul] at k1
        generalize hrg : regB x = rg at *
        cases b
        · go_wp2_with fail
          go_region
          go_wp2_with fail
          refine bodyPost_ret (v := .tuple #[(arithM x).1.val, .bool (arithM x).2]) ?_ rfl ⟨rfl, ?_⟩
          · simp [results, Try.results60, go_sem, arithM, *]
            all_goals (first | simpa using hbv | exact fun _ => by simpa using hbv)
          · (with_reducible repeat (first | assumption | refine Below.setCell ?_ (Nat.le_succ _) _ | refine sbelow_drew ?_ | refine sbelow_drewN ?_ | refine sbelow_alloc ?_ (Nat.le_refl _)))
        · cases rg
          · generalize hzz : zerosB x true true true = zz
            have hz8 : ∀ w, Calls Try.prog 74 #[x.val, .bool true, .bool true, .bool true] w fun e w' => e = .returned (.bool zz) ∧ w' = w.alloc x.obj := fun w => by
              have := zeros_is x true true true w
              rwa [hzz] at this
            have u0 := keep2_one (b := g) a0
            have u1 := keep2_one (b := g) a1
            have u2 := keep2_one (b := g) a2
            have u3 := keep2_one (b := g) a3
            have u4 := keep2_one (b := g) a4
            have v0 := keep2_two (a := w.heap.size) k0
            have v1 := keep2_two (a := w.heap.size) k1
            have v2 := keep2_two (a := w.heap.size) k2
            have v3 := keep2_two (a := w.heap.size) k3
            have v4 := keep2_two (a := w.heap.size) k4
            have v5 := keep2_two (a := w.heap.size) k5
            have hK : Keep2 w.heap.size g wc wc := keep2_refl
            clear a0 a1 a2 a3 a4 k0 k2 k3 k4 k5
            go_wp2_with fail
            go_region_held3 (fun w' => Keep2 w.heap.size g wc w')
              (with_reducible repeat (first | assumption | refine keep2_drew ?_ | refine keep2_alloc ?_ hw1 hw3 | refine keep2_set ?_ (Nat.ne_of_lt (Nat.lt_succ_self _)) (Nat.ne_of_gt (Nat.lt_of_lt_of_le (Nat.lt_succ_self _) hg1))))
              (first | (go_at_call 74; refine (hz8 _).mono ?_; rintro e w' ⟨rfl, rfl⟩))
            all_goals go_wp2_with fail
            all_goals
              refine bodyPost_ret (v := .tuple #[(arithM x).1.val, .bool (arithM x).2]) ?_ rfl ⟨rfl, ?_⟩
              · simp [results, Try.results60, go_sem, arithM, *]
                all_goals (first | simpa using hbv | exact fun _ => by simpa using hbv)
              · (with_reducible repeat (first | assumption | refine Below.setCell ?_ (Nat.le_succ _) _ | refine sbelow_drew ?_ | refine sbelow_drewN ?_ | refine sbelow_alloc ?_ (Nat.le_refl _)))
          · go_wp2_with fail
            go_region
            go_wp2_with fail
            refine bodyPost_ret (v := .tuple #[(arithM x).1.val, .bool (arithM x).2]) ?_ rfl ⟨rfl, ?_⟩
            · simp [results, Try.results60, go_sem, arithM, *]
              all_goals (first | simpa using hbv | exact fun _ => by simpa using hbv)
            · (with_reducible repeat (first | assumption | refine Below.setCell ?_ (Nat.le_succ _) _ | refine sbelow_drew ?_ | refine sbelow_drewN ?_ | refine sbelow_alloc ?_ (Nat.le_refl _)))
      · have HG := Lib.hid hG0
        clear hG0
        have hG : x.op / 16 = 11 := HG.out
        rw [hG] at k1
        simp only [Int.reduceMul] at k1
        generalize hwd : (x.op % 8 == 7) = wd at *
        generalize hrg : regB x = rg at *
        by_cases ho : x.off = 0
        · cases b <;> cases rg
          all_goals
            go_wp2_with fail
            refine bodyPost_ret (v := .tuple #[(arithM x).1.val, .bool (arithM x).2]) ?_ rfl ⟨rfl, ?_⟩
            · simp [results, Try.results60, go_sem, arithM, *]
              all_goals (first | simpa using hbv | exact fun _ => by simpa using hbv)
            · (with_reducible repeat (first | assumption | refine Below.setCell ?_ (Nat.le_succ _) _ | refine sbelow_drew ?_ | refine sbelow_drewN ?_ | refine sbelow_alloc ?_ (Nat.le_refl _)))
        · by_cases ho8 : x.off = 8
          · cases b <;> cases rg
            all_goals
              go_wp2_with fail
              refine bodyPost_ret (v := .tuple #[(arithM x).1.val, .bool (arithM x).2]) ?_ rfl ⟨rfl, ?_⟩
              · simp [results, Try.results60, go_sem, arithM, *]
                all_goals (first | simpa using hbv | exact fun _ => by simpa using hbv)
              · (with_reducible repeat (first | assumption | refine Below.setCell ?_ (Nat.le_succ _) _ | refine sbelow_drew ?_ | refine sbelow_drewN ?_ | refine sbelow_alloc ?_ (Nat.le_refl _)))
          · by_cases ho16 : x.off = 16
            · cases b <;> cases rg
              all_goals
                go_wp2_with fail
                refine bodyPost_ret (v := .tuple #[(arithM x).1.val, .bool (arithM x).2]) ?_ rfl ⟨rfl, ?_⟩
                · simp [results, Try.results60, go_sem, arithM, *]
                  all_goals (first | simpa using hbv | exact fun _ => by simpa using hbv)
                · (with_reducible repeat (first | assumption | refine Below.setCell ?_ (Nat.le_succ _) _ | refine sbelow_drew ?_ | refine sbelow_drewN ?_ | refine sbelow_alloc ?_ (Nat.le_refl _)))
            · by_cases ho32 : x.off = 32
              · cases b <;> cases rg <;> cases wd
                all_goals
                  go_wp2_with fail
                  refine bodyPost_ret (v := .tuple #[(arithM x).1.val, .bool (arithM x).2]) ?_ rfl ⟨rfl, ?_⟩
                  · simp [results, Try.results60, go_sem, arithM, *]
                    all_goals (first | simpa using hbv | exact fun _ => by simpa using hbv)
                  · (with_reducible repeat (first | assumption | refine Below.setCell ?_ (Nat.le_succ _) _ | refine sbelow_drew ?_ | refine sbelow_drewN ?_ | refine sbelow_alloc ?_ (Nat.le_refl _)))
              · have q0 : (x.off == 0) = false := by simp [ho]
                have q8 : (x.off == 8) = false := by simp [ho8]
                have q16 : (x.off == 16) = false := by simp [ho16]
                have q32 : (x.off == 32) = false := by simp [ho32]
                cases b <;> cases rg
                all_goals
                  go_wp2_with fail
                  refine bodyPost_ret (v := .tuple #[(arithM x).1.val, .bool (arithM x).2]) ?_ rfl ⟨rfl, ?_⟩
                  · simp [results, Try.results60, go_sem, arithM, *]
                    all_goals (first | simpa using hbv | exact fun _ => by simpa using hbv)
                  · (with_reducible repeat (first | assumption | refine Below.setCell ?_ (Nat.le_succ _) _ | refine sbelow_drew ?_ | refine sbelow_drewN ?_ | refine sbelow_alloc ?_ (Nat.le_refl _)))
end Go.Proofs.Ytncogaikiceidaa
end

section
/- The program's arith: the groups that are none, Div, Mod, Neg. No statement is proved here. -/
namespace Go.Proofs.Ytncogaikiceidaa
open Go.RowKit
set_option linter.unusedSimpArgs false
set_option linter.unusedVariables false
attribute [local go_sem ↓] Go.wp_at_zero Go.wp_at_succ
end Go.Proofs.Ytncogaikiceidaa
end

section
/- The program's arith: Mov. No statement is proved here. -/
namespace Go.Proofs.Ytncogaikiceidaa
open Go.RowKit
set_option linter.unusedSimpArgs false
set_option linter.unusedVariables false
attribute [local go_sem ↓] Go.wp_at_zero Go.wp_at_succ
end Go.Proofs.Ytncogaikiceidaa
end

section
/- The program's arith, at every instruction. No statement is proved here. -/
namespace Go.Proofs.Ytncogaikiceidaa
open Go.RowKit
set_option linter.unusedSimpArgs false
set_option linter.unusedVariables false
theorem arith_any (x : Insn) (hx : x.Ok) (w : World) : Calls Try.prog 60 #[x.val] w (WhatAnd w (arithM x)) := by
  have h0 := hx.op0
  have h1 := hx.op1
  by_cases h11 : x.op / 16 = 11
  · exact arith_walk x hx w (.inr (.inr (.inr (.inr h11))))
  by_cases h8 : x.op / 16 = 8
  · exact arith_walk x hx w (.inr (.inr (.inr (.inl h8))))
  by_cases h3 : x.op / 16 = 3 ∨ x.op / 16 = 9
  · exact arith_walk x hx w (.inr (.inr (.inl h3)))
  by_cases h13 : x.op / 16 = 13 ∨ x.op / 16 = 14 ∨ x.op / 16 = 15
  · exact arith_walk x hx w (.inr (.inl h13))
  · exact arith_walk x hx w (.inl (by omega))
end Go.Proofs.Ytncogaikiceidaa
end
