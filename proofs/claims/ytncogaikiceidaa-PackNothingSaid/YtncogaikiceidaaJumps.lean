/- The program's jumps answer as the plain jumpsM does. No statement is proved here. -/
import Derived.Test.YtncogaikiceidaaInsn1
section
/- The program's jumps: those that are told by their Op. No statement is proved here. -/
namespace Go.Proofs.Ytncogaikiceidaa
set_option maxRecDepth 100000
open Go.RowKit
set_option linter.unusedSimpArgs false
set_option linter.unusedVariables false
attribute [local go_sem ↓] Go.wp_at_zero Go.wp_at_succ
set_option maxHeartbeats 16000000 in
theorem jumps_walk (x : Insn) (hx : x.Ok) (w : World) (hC : ((x.op == 5) = true) ∨ ((x.op == 5) = false ∧ (x.op == 6) = true) ∨ ((x.op == 5) = false ∧ (x.op == 6) = false ∧ (x.op == 133) = true) ∨ ((x.op == 5) = false ∧ (x.op == 6) = false ∧ (x.op == 133) = false ∧ (x.op == 149) = true)) : Calls Try.prog 61 #[x.val] w (WhatAnd w (jumpsM x)) := by
  have HC := Lib.hid hC
  clear hC
  have h240 := and240 x.op hx.op0 hx.op1
  have h8 := and8 x.op hx.op0 hx.op1
  obtain ⟨f0, f1, f2, f3, f4⟩ := box_two x w What.zero.obj
  obtain ⟨z0, z1, z2, z3, z4, z5⟩ := box44 (W := (w.alloc x.obj).alloc What.zero.obj) (g := w.heap.size + 1) (B := w.heap.size + 2) What.zero (by omega) (heap_two_new _ _ _)
  have hfz := thaw44 (W := (w.alloc x.obj).alloc What.zero.obj) (g := w.heap.size + 1) (B := w.heap.size + 2) What.zero (by omega) (heap_two_new _ _ _)
  have hsz := size_two w x.obj What.zero.obj
  have hb := below_two w x.obj What.zero.obj
  simp only [What.zero] at *
  go_enter Try.func61, Try.ntmps61
  go_wp2_with fail
  generalize hW : World.alloc _ _ = W at *
  have hS : Below (w.heap.size + 2) W W := Below.refl _ _
  go_cut [4] from 5 (fun t4 wx => ∃ g, t4 = .pointer (some ⟨g, 0, none⟩) ∧ w.heap.size + 2 ≤ g ∧ g < wx.heap.size ∧ Below (w.heap.size + 2) W wx ∧ wx.heap[g]? = some (What.obj ⟨10, x.op / 16 * 16, x.op % 8 == 5, x.op / 8 % 2 * 8 != 0, false, 0⟩))
  case first =>
    go_region_held3 (fun w' => Below (w.heap.size + 2) W w')
      (repeat (first | assumption | refine sbelow_drew ?_ | refine sbelow_alloc ?_ (by omega)))
      (first | (go_at_call 59; refine (class_is x hx _).mono ?_; rintro e w' ⟨rfl, rfl⟩))
    all_goals (go_wp2_with fail; go_meet)
    · exact ⟨_, rfl, by omega, by simp; omega, by assumption, at_two hsz⟩
    · exact ⟨_, rfl, by omega, by simp; omega, by assumption, at_one hsz⟩
  case rest =>
    obtain ⟨g, rfl, hg1, hg2, hB, hg⟩ := hcut
    obtain ⟨g0, g1, g2, g3, g4, g5⟩ := box44 (W := wc) (B := wc.heap.size) ⟨10, x.op / 16 * 16, x.op % 8 == 5, x.op / 8 % 2 * 8 != 0, false, 0⟩ hg2 hg
    simp only at g0 g1 g2 g3 g4 g5
    have hr : (x.op / 8 % 2 * 8 != 0) = regB x := by
      have : x.op / 8 % 2 = 0 ∨ x.op / 8 % 2 = 1 := by omega
      rcases this with h | h <;> simp [regB, h]
    rw [hr] at g3
    have hBc : Below wc.heap.size wc wc := Below.refl _ _
    have hsc := hB.size
    clear hg hS h8
    have hfin : Below w.heap.size w wc := hb.trans (hB.mono (by omega))
    have hw1 : w.heap.size < wc.heap.size := by omega
    have hw2 : w.heap.size + 1 < wc.heap.size := by omega
    have hw3 : g < wc.heap.size := by omega
    have a0 := f0 wc hB
    have a1 := f1 wc hB
    have a2 := f2 wc hB
    have a3 := f3 wc hB
    have a4 := f4 wc hB
    have k0 := g0 wc hBc
    have k1 := g1 wc hBc
    have k2 := g2 wc hBc
    have k3 := g3 wc hBc
    have k4 := g4 wc hBc
    have k5 := g5 wc hBc
    have t0 := z0 wc hB
    have t1 := z1 wc hB
    have t2 := z2 wc hB
    have t3 := z3 wc hB
    have t4 := z4 wc hB
    have t5 := z5 wc hB
    have y0 := hfz 0 wc hB
    have y1 := hfz 1 wc hB
    have y2 := hfz 2 wc hB
    have y3 := hfz 3 wc hB
    have y4 := hfz 4 wc hB
    have y5 := hfz 5 wc hB
    clear f0 f1 f2 f3 f4 g0 g1 g2 g3 g4 g5 z0 z1 z2 z3 z4 z5 hfz h240 hr hB hBc hb hW hsz
    rcases HC.out with hG0 | hG0 | hG0 | hG0 <;> clear HC
    · have HG := Lib.hid hG0
      clear hG0
      have hO5 : (x.op == 5) = true := HG.out
      cases hd : (x.dst == 0)
      · go_wp2_with fail
        have hO' : x.op = 5 := by simpa using hO5
        refine bodyPost_ret (v := .tuple #[(jumpsM x).1.val, .bool (jumpsM x).2]) ?_ rfl ⟨rfl, ?_⟩
        · simp [results, Try.results61, go_sem, jumpsM, kindW, branchG, *]
        · (with_reducible repeat (first | assumption | refine Below.setCell ?_ (Nat.le_succ _) _ | refine sbelow_drew ?_ | refine sbelow_drewN ?_ | refine sbelow_alloc ?_ (Nat.le_refl _)))
      · have hz8 : ∀ w, Calls Try.prog 74 #[x.val, .bool true, .bool false, .bool true] w fun e w' => e = .returned (.bool (zerosB x true false true)) ∧ w' = w.alloc x.obj := fun w => zeros_is x true false true w
        go_wp2_with fail
        refine (hz8 _).mono ?_
        rintro e w' ⟨rfl, rfl⟩
        go_wp2_with fail
        have hO' : x.op = 5 := by simpa using hO5
        refine bodyPost_ret (v := .tuple #[(jumpsM x).1.val, .bool (jumpsM x).2]) ?_ rfl ⟨rfl, ?_⟩
        · simp [results, Try.results61, go_sem, jumpsM, kindW, branchG, *]
        · (with_reducible repeat (first | assumption | refine Below.setCell ?_ (Nat.le_succ _) _ | refine sbelow_drew ?_ | refine sbelow_drewN ?_ | refine sbelow_alloc ?_ (Nat.le_refl _)))
    · have HG := Lib.hid hG0
      clear hG0
      have hO5 : (x.op == 5) = false := HG.out.1
      have hO6 : (x.op == 6) = true := HG.out.2
      cases hd : (x.dst == 0)
      · go_wp2_with fail
        have hO' : x.op = 6 := by simpa using hO6
        refine bodyPost_ret (v := .tuple #[(jumpsM x).1.val, .bool (jumpsM x).2]) ?_ rfl ⟨rfl, ?_⟩
        · simp [results, Try.results61, go_sem, jumpsM, kindW, branchG, *]
        · (with_reducible repeat (first | assumption | refine Below.setCell ?_ (Nat.le_succ _) _ | refine sbelow_drew ?_ | refine sbelow_drewN ?_ | refine sbelow_alloc ?_ (Nat.le_refl _)))
      · have hz8 : ∀ w, Calls Try.prog 74 #[x.val, .bool true, .bool true, .bool false] w fun e w' => e = .returned (.bool (zerosB x true true false)) ∧ w' = w.alloc x.obj := fun w => zeros_is x true true false w
        go_wp2_with fail
        refine (hz8 _).mono ?_
        rintro e w' ⟨rfl, rfl⟩
        go_wp2_with fail
        have hO' : x.op = 6 := by simpa using hO6
        refine bodyPost_ret (v := .tuple #[(jumpsM x).1.val, .bool (jumpsM x).2]) ?_ rfl ⟨rfl, ?_⟩
        · simp [results, Try.results61, go_sem, jumpsM, kindW, branchG, *]
        · (with_reducible repeat (first | assumption | refine Below.setCell ?_ (Nat.le_succ _) _ | refine sbelow_drew ?_ | refine sbelow_drewN ?_ | refine sbelow_alloc ?_ (Nat.le_refl _)))
    · have HG := Lib.hid hG0
      clear hG0
      have hO5 : (x.op == 5) = false := HG.out.1
      have hO6 : (x.op == 6) = false := HG.out.2.1
      have hO133 : (x.op == 133) = true := HG.out.2.2
      cases hd : (x.dst == 0)
      · go_wp2_with fail
        have hO' : x.op = 133 := by simpa using hO133
        refine bodyPost_ret (v := .tuple #[(jumpsM x).1.val, .bool (jumpsM x).2]) ?_ rfl ⟨rfl, ?_⟩
        · simp [results, Try.results61, go_sem, jumpsM, kindW, branchG, *]
        · (with_reducible repeat (first | assumption | refine Below.setCell ?_ (Nat.le_succ _) _ | refine sbelow_drew ?_ | refine sbelow_drewN ?_ | refine sbelow_alloc ?_ (Nat.le_refl _)))
      · have hz8 : ∀ w, Calls Try.prog 74 #[x.val, .bool true, .bool true, .bool false] w fun e w' => e = .returned (.bool (zerosB x true true false)) ∧ w' = w.alloc x.obj := fun w => zeros_is x true true false w
        go_wp2_with fail
        refine (hz8 _).mono ?_
        rintro e w' ⟨rfl, rfl⟩
        go_wp2_with fail
        have hO' : x.op = 133 := by simpa using hO133
        refine bodyPost_ret (v := .tuple #[(jumpsM x).1.val, .bool (jumpsM x).2]) ?_ rfl ⟨rfl, ?_⟩
        · simp [results, Try.results61, go_sem, jumpsM, kindW, branchG, *]
        · (with_reducible repeat (first | assumption | refine Below.setCell ?_ (Nat.le_succ _) _ | refine sbelow_drew ?_ | refine sbelow_drewN ?_ | refine sbelow_alloc ?_ (Nat.le_refl _)))
    · have HG := Lib.hid hG0
      clear hG0
      have hO5 : (x.op == 5) = false := HG.out.1
      have hO6 : (x.op == 6) = false := HG.out.2.1
      have hO133 : (x.op == 133) = false := HG.out.2.2.1
      have hO149 : (x.op == 149) = true := HG.out.2.2.2
      cases hd : (x.dst == 0)
      · go_wp2_with fail
        have hO' : x.op = 149 := by simpa using hO149
        refine bodyPost_ret (v := .tuple #[(jumpsM x).1.val, .bool (jumpsM x).2]) ?_ rfl ⟨rfl, ?_⟩
        · simp [results, Try.results61, go_sem, jumpsM, kindW, branchG, *]
        · (with_reducible repeat (first | assumption | refine Below.setCell ?_ (Nat.le_succ _) _ | refine sbelow_drew ?_ | refine sbelow_drewN ?_ | refine sbelow_alloc ?_ (Nat.le_refl _)))
      · have hz8 : ∀ w, Calls Try.prog 74 #[x.val, .bool true, .bool true, .bool true] w fun e w' => e = .returned (.bool (zerosB x true true true)) ∧ w' = w.alloc x.obj := fun w => zeros_is x true true true w
        go_wp2_with fail
        refine (hz8 _).mono ?_
        rintro e w' ⟨rfl, rfl⟩
        go_wp2_with fail
        have hO' : x.op = 149 := by simpa using hO149
        refine bodyPost_ret (v := .tuple #[(jumpsM x).1.val, .bool (jumpsM x).2]) ?_ rfl ⟨rfl, ?_⟩
        · simp [results, Try.results61, go_sem, jumpsM, kindW, branchG, *]
        · (with_reducible repeat (first | assumption | refine Below.setCell ?_ (Nat.le_succ _) _ | refine sbelow_drew ?_ | refine sbelow_drewN ?_ | refine sbelow_alloc ?_ (Nat.le_refl _)))
set_option maxHeartbeats 16000000 in
theorem jumps_more (x : Insn) (hx : x.Ok) (w : World) (hC : ((x.op / 16 = 0 ∨ x.op / 16 = 8 ∨ x.op / 16 = 9 ∨ x.op / 16 = 14 ∨ x.op / 16 = 15) ∧ x.op ≠ 5 ∧ x.op ≠ 6 ∧ x.op ≠ 133 ∧ x.op ≠ 149) ∨ ((x.op / 16 = 1 ∨ x.op / 16 = 2 ∨ x.op / 16 = 3 ∨ x.op / 16 = 4 ∨ x.op / 16 = 5 ∨ x.op / 16 = 6) ∧ x.op ≠ 5 ∧ x.op ≠ 6 ∧ x.op ≠ 133 ∧ x.op ≠ 149) ∨ ((x.op / 16 = 7 ∨ x.op / 16 = 10 ∨ x.op / 16 = 11 ∨ x.op / 16 = 12 ∨ x.op / 16 = 13) ∧ x.op ≠ 5 ∧ x.op ≠ 6 ∧ x.op ≠ 133 ∧ x.op ≠ 149)) : Calls Try.prog 61 #[x.val] w (WhatAnd w (jumpsM x)) := by
  have HC := Lib.hid hC
  clear hC
  have h240 := and240 x.op hx.op0 hx.op1
  have h8 := and8 x.op hx.op0 hx.op1
  obtain ⟨f0, f1, f2, f3, f4⟩ := box_two x w What.zero.obj
  obtain ⟨z0, z1, z2, z3, z4, z5⟩ := box44 (W := (w.alloc x.obj).alloc What.zero.obj) (g := w.heap.size + 1) (B := w.heap.size + 2) What.zero (by omega) (heap_two_new _ _ _)
  have hfz := thaw44 (W := (w.alloc x.obj).alloc What.zero.obj) (g := w.heap.size + 1) (B := w.heap.size + 2) What.zero (by omega) (heap_two_new _ _ _)
  have hsz := size_two w x.obj What.zero.obj
  have hb := below_two w x.obj What.zero.obj
  simp only [What.zero] at *
  go_enter Try.func61, Try.ntmps61
  go_wp2_with fail
  generalize hW : World.alloc _ _ = W at *
  have hS : Below (w.heap.size + 2) W W := Below.refl _ _
  go_cut [4] from 5 (fun t4 wx => ∃ g, t4 = .pointer (some ⟨g, 0, none⟩) ∧ w.heap.size + 2 ≤ g ∧ g < wx.heap.size ∧ Below (w.heap.size + 2) W wx ∧ wx.heap[g]? = some (What.obj ⟨10, x.op / 16 * 16, x.op % 8 == 5, x.op / 8 % 2 * 8 != 0, false, 0⟩))
  case first =>
    go_region_held3 (fun w' => Below (w.heap.size + 2) W w')
      (repeat (first | assumption | refine sbelow_drew ?_ | refine sbelow_alloc ?_ (by omega)))
      (first | (go_at_call 59; refine (class_is x hx _).mono ?_; rintro e w' ⟨rfl, rfl⟩))
    all_goals (go_wp2_with fail; go_meet)
    · exact ⟨_, rfl, by omega, by simp; omega, by assumption, at_two hsz⟩
    · exact ⟨_, rfl, by omega, by simp; omega, by assumption, at_one hsz⟩
  case rest =>
    obtain ⟨g, rfl, hg1, hg2, hB, hg⟩ := hcut
    obtain ⟨g0, g1, g2, g3, g4, g5⟩ := box44 (W := wc) (B := wc.heap.size) ⟨10, x.op / 16 * 16, x.op % 8 == 5, x.op / 8 % 2 * 8 != 0, false, 0⟩ hg2 hg
    simp only at g0 g1 g2 g3 g4 g5
    have hr : (x.op / 8 % 2 * 8 != 0) = regB x := by
      have : x.op / 8 % 2 = 0 ∨ x.op / 8 % 2 = 1 := by omega
      rcases this with h | h <;> simp [regB, h]
    rw [hr] at g3
    have hBc : Below wc.heap.size wc wc := Below.refl _ _
    have hsc := hB.size
    clear hg hS h8
    have hfin : Below w.heap.size w wc := hb.trans (hB.mono (by omega))
    have hw1 : w.heap.size < wc.heap.size := by omega
    have hw2 : w.heap.size + 1 < wc.heap.size := by omega
    have hw3 : g < wc.heap.size := by omega
    have a0 := f0 wc hB
    have a1 := f1 wc hB
    have a2 := f2 wc hB
    have a3 := f3 wc hB
    have a4 := f4 wc hB
    have k0 := g0 wc hBc
    have k1 := g1 wc hBc
    have k2 := g2 wc hBc
    have k3 := g3 wc hBc
    have k4 := g4 wc hBc
    have k5 := g5 wc hBc
    have t0 := z0 wc hB
    have t1 := z1 wc hB
    have t2 := z2 wc hB
    have t3 := z3 wc hB
    have t4 := z4 wc hB
    have t5 := z5 wc hB
    have y0 := hfz 0 wc hB
    have y1 := hfz 1 wc hB
    have y2 := hfz 2 wc hB
    have y3 := hfz 3 wc hB
    have y4 := hfz 4 wc hB
    have y5 := hfz 5 wc hB
    clear f0 f1 f2 f3 f4 g0 g1 g2 g3 g4 g5 z0 z1 z2 z3 z4 z5 hfz h240 hr hB hBc hb hW hsz
    rcases HC.out with hG0 | hG0 | hG0 <;> clear HC
    · have HG := Lib.hid hG0
      clear hG0
      obtain ⟨hGG, hn5, hn6, hn7, hn8⟩ := HG.out
      rcases hGG with hG | hG | hG | hG | hG
      iterate 5
        · rw [hG] at k1
          simp only [Int.reduceMul] at k1
          go_wp2_with fail
          refine bodyPost_ret (v := .tuple #[(jumpsM x).1.val, .bool (jumpsM x).2]) ?_ rfl ⟨rfl, ?_⟩
          · simp [results, Try.results61, go_sem, jumpsM, kindW, branchG, *]
          · (with_reducible repeat (first | assumption | refine Below.setCell ?_ (Nat.le_succ _) _ | refine sbelow_drew ?_ | refine sbelow_drewN ?_ | refine sbelow_alloc ?_ (Nat.le_refl _)))
    · have HG := Lib.hid hG0
      clear hG0
      obtain ⟨hGG, hn5, hn6, hn7, hn8⟩ := HG.out
      generalize hrg : regB x = rg at *
      generalize hwd : (x.op % 8 == 5) = wd at *
      generalize hzz : zerosB x (!rg) false rg = zz
      have hz8 : ∀ w, Calls Try.prog 74 #[x.val, .bool (!rg), .bool false, .bool rg] w fun e w' => e = .returned (.bool zz) ∧ w' = w.alloc x.obj := fun w => by
        have := zeros_is x (!rg) false rg w
        rwa [hzz] at this
      have hK : Keep2 w.heap.size g wc wc := keep2_refl
      rcases hGG with hG | hG | hG | hG | hG | hG
      iterate 6
        · rw [hG] at k1
          simp only [Int.reduceMul] at k1
          have u0 := keep2_one (b := g) a0
          have u1 := keep2_one (b := g) a1
          have u2 := keep2_one (b := g) a2
          have u3 := keep2_one (b := g) a3
          have u4 := keep2_one (b := g) a4
          have v0 := keep2_two (a := w.heap.size) k0
          have v1 := keep2_two (a := w.heap.size) k1
          have v2 := keep2_two (a := w.heap.size) k2
          have v3 := keep2_two (a := w.heap.size) k3
          have v4 := keep2_two (a := w.heap.size) k4
          have v5 := keep2_two (a := w.heap.size) k5
          go_wp2_with fail
          clear a0 a1 a2 a3 a4 k0 k1 k2 k3 k4 k5
          go_region_held3 (fun w' => Keep2 w.heap.size g wc w')
            (with_reducible repeat (first | assumption | refine keep2_drew ?_ | refine keep2_alloc ?_ hw1 hw3 | refine keep2_set ?_ (Nat.ne_of_lt (Nat.lt_succ_self _)) (Nat.ne_of_gt (Nat.lt_of_lt_of_le (Nat.lt_succ_self _) hg1))))
            (first | (go_at_call 74; refine (hz8 _).mono ?_; rintro e w' ⟨rfl, rfl⟩))
          all_goals go_wp2_with fail
          all_goals
            refine bodyPost_ret (v := .tuple #[(jumpsM x).1.val, .bool (jumpsM x).2]) ?_ rfl ⟨rfl, ?_⟩
            · simp [results, Try.results61, go_sem, jumpsM, kindW, branchG, *]
            · (with_reducible repeat (first | assumption | refine Below.setCell ?_ (Nat.le_succ _) _ | refine sbelow_drew ?_ | refine sbelow_drewN ?_ | refine sbelow_alloc ?_ (Nat.le_refl _)))
    · have HG := Lib.hid hG0
      clear hG0
      obtain ⟨hGG, hn5, hn6, hn7, hn8⟩ := HG.out
      generalize hrg : regB x = rg at *
      generalize hwd : (x.op % 8 == 5) = wd at *
      generalize hzz : zerosB x (!rg) false rg = zz
      have hz8 : ∀ w, Calls Try.prog 74 #[x.val, .bool (!rg), .bool false, .bool rg] w fun e w' => e = .returned (.bool zz) ∧ w' = w.alloc x.obj := fun w => by
        have := zeros_is x (!rg) false rg w
        rwa [hzz] at this
      have hK : Keep2 w.heap.size g wc wc := keep2_refl
      rcases hGG with hG | hG | hG | hG | hG
      iterate 5
        · rw [hG] at k1
          simp only [Int.reduceMul] at k1
          have u0 := keep2_one (b := g) a0
          have u1 := keep2_one (b := g) a1
          have u2 := keep2_one (b := g) a2
          have u3 := keep2_one (b := g) a3
          have u4 := keep2_one (b := g) a4
          have v0 := keep2_two (a := w.heap.size) k0
          have v1 := keep2_two (a := w.heap.size) k1
          have v2 := keep2_two (a := w.heap.size) k2
          have v3 := keep2_two (a := w.heap.size) k3
          have v4 := keep2_two (a := w.heap.size) k4
          have v5 := keep2_two (a := w.heap.size) k5
          go_wp2_with fail
          clear a0 a1 a2 a3 a4 k0 k1 k2 k3 k4 k5
          go_region_held3 (fun w' => Keep2 w.heap.size g wc w')
            (with_reducible repeat (first | assumption | refine keep2_drew ?_ | refine keep2_alloc ?_ hw1 hw3 | refine keep2_set ?_ (Nat.ne_of_lt (Nat.lt_succ_self _)) (Nat.ne_of_gt (Nat.lt_of_lt_of_le (Nat.lt_succ_self _) hg1))))
            (first | (go_at_call 74; refine (hz8 _).mono ?_; rintro e w' ⟨rfl, rfl⟩))
          all_goals go_wp2_with fail
          all_goals
            refine bodyPost_ret (v := .tuple #[(jumpsM x).1.val, .bool (jumpsM x).2]) ?_ rfl ⟨rfl, ?_⟩
            · simp [results, Try.results61, go_sem, jumpsM, kindW, branchG, *]
            · (with_reducible repeat (first | assumption | refine Below.setCell ?_ (Nat.le_succ _) _ | refine sbelow_drew ?_ | refine sbelow_drewN ?_ | refine sbelow_alloc ?_ (Nat.le_refl _)))
end Go.Proofs.Ytncogaikiceidaa
end

section
/- The program's jumps: conditions. No statement is proved here. -/
namespace Go.Proofs.Ytncogaikiceidaa
set_option maxRecDepth 100000
open Go.RowKit
set_option linter.unusedSimpArgs false
set_option linter.unusedVariables false
attribute [local go_sem ↓] Go.wp_at_zero Go.wp_at_succ
end Go.Proofs.Ytncogaikiceidaa
end

section
/- The program's jumps, at every instruction. No statement is proved here. -/
namespace Go.Proofs.Ytncogaikiceidaa
set_option maxRecDepth 100000
open Go.RowKit
set_option linter.unusedSimpArgs false
set_option linter.unusedVariables false
theorem jumps_any (x : Insn) (hx : x.Ok) (w : World) : Calls Try.prog 61 #[x.val] w (WhatAnd w (jumpsM x)) := by
  have h0 := hx.op0
  have h1 := hx.op1
  cases h5 : (x.op == 5)
  · cases h6 : (x.op == 6)
    · cases h7 : (x.op == 133)
      · cases h8 : (x.op == 149)
        · have hn : x.op ≠ 5 ∧ x.op ≠ 6 ∧ x.op ≠ 133 ∧ x.op ≠ 149 := ⟨by simpa using h5, by simpa using h6, by simpa using h7, by simpa using h8⟩
          by_cases g0 : x.op / 16 = 0 ∨ x.op / 16 = 8 ∨ x.op / 16 = 9 ∨ x.op / 16 = 14 ∨ x.op / 16 = 15
          · exact jumps_more x hx w (.inl ⟨g0, hn⟩)
          by_cases g1 : x.op / 16 = 1 ∨ x.op / 16 = 2 ∨ x.op / 16 = 3 ∨ x.op / 16 = 4 ∨ x.op / 16 = 5 ∨ x.op / 16 = 6
          · exact jumps_more x hx w (.inr (.inl ⟨g1, hn⟩))
          · exact jumps_more x hx w (.inr (.inr ⟨by omega, hn⟩))
        · exact jumps_walk x hx w (.inr (.inr (.inr ⟨h5, h6, h7, h8⟩)))
      · exact jumps_walk x hx w (.inr (.inr (.inl ⟨h5, h6, h7⟩)))
    · exact jumps_walk x hx w (.inr (.inl ⟨h5, h6⟩))
  · exact jumps_walk x hx w (.inl h5)
end Go.Proofs.Ytncogaikiceidaa
end
