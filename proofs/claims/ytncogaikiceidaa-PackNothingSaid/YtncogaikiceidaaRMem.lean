/- The reference's memory. No statement is proved here. -/
import Derived.Test.YtncogaikiceidaaRefIn
import Derived.Deep.CutBlock
section
/- The reference's memory: loads and stores. No statement is proved here. -/
namespace Go.Proofs.Ytncogaikiceidaa
open Go.RowKit
set_option linter.unusedSimpArgs false
set_option linter.unusedVariables false
set_option linter.unnecessarySimpa false
attribute [local go_sem ↓] Go.wp_at_zero Go.wp_at_succ
set_option maxRecDepth 100000 in
set_option maxHeartbeats 16000000 in
theorem rmem_walk (x : Insn) (hx : x.Ok) (w : World) (hC : ((0 < sizesM [97, 105, 113, 121] [4, 2, 1, 8] x.op + sizesM [129, 137, 145] [4, 2, 1, 8] x.op ∧ (x.dst != 10) = false) ∧ (rmemoryM x = (⟨5, 0, false, false, decide (0 < sizesM [129, 137, 145] [4, 2, 1, 8] x.op), sizesM [97, 105, 113, 121] [4, 2, 1, 8] x.op + sizesM [129, 137, 145] [4, 2, 1, 8] x.op⟩, false))) ∨ ((0 < sizesM [97, 105, 113, 121] [4, 2, 1, 8] x.op + sizesM [129, 137, 145] [4, 2, 1, 8] x.op ∧ (x.dst != 10) = true) ∧ (rmemoryM x = (⟨5, 0, false, false, decide (0 < sizesM [129, 137, 145] [4, 2, 1, 8] x.op), sizesM [97, 105, 113, 121] [4, 2, 1, 8] x.op + sizesM [129, 137, 145] [4, 2, 1, 8] x.op⟩, zerosB x false false true))) ∨ ((¬ 0 < sizesM [97, 105, 113, 121] [4, 2, 1, 8] x.op + sizesM [129, 137, 145] [4, 2, 1, 8] x.op ∧ 0 < sizesM [98, 106, 114, 122] [4, 2, 1, 8] x.op) ∧ (rmemoryM x = (⟨6, 0, false, false, false, sizesM [98, 106, 114, 122] [4, 2, 1, 8] x.op⟩, zerosB x true false false))) ∨ ((¬ 0 < sizesM [97, 105, 113, 121] [4, 2, 1, 8] x.op + sizesM [129, 137, 145] [4, 2, 1, 8] x.op ∧ ¬ 0 < sizesM [98, 106, 114, 122] [4, 2, 1, 8] x.op ∧ 0 < sizesM [99, 107, 115, 123] [4, 2, 1, 8] x.op) ∧ (rmemoryM x = (⟨7, 0, false, true, false, sizesM [99, 107, 115, 123] [4, 2, 1, 8] x.op⟩, zerosB x false false true))) ∨ ((¬ 0 < sizesM [97, 105, 113, 121] [4, 2, 1, 8] x.op + sizesM [129, 137, 145] [4, 2, 1, 8] x.op ∧ ¬ 0 < sizesM [98, 106, 114, 122] [4, 2, 1, 8] x.op ∧ ¬ 0 < sizesM [99, 107, 115, 123] [4, 2, 1, 8] x.op ∧ (x.op == 195) = false ∧ (x.op == 219) = false) ∧ (rmemoryM x = (What.zero, false))) ∨ ((¬ 0 < sizesM [97, 105, 113, 121] [4, 2, 1, 8] x.op + sizesM [129, 137, 145] [4, 2, 1, 8] x.op ∧ ¬ 0 < sizesM [98, 106, 114, 122] [4, 2, 1, 8] x.op ∧ ¬ 0 < sizesM [99, 107, 115, 123] [4, 2, 1, 8] x.op ∧ (x.op == 195) = true ∧ (x.op == 219) = false ∧ (x.imm == 0) = true) ∧ (rmemoryM x = (⟨8, x.imm % 256, false, true, false, 4⟩, true))) ∨ ((¬ 0 < sizesM [97, 105, 113, 121] [4, 2, 1, 8] x.op + sizesM [129, 137, 145] [4, 2, 1, 8] x.op ∧ ¬ 0 < sizesM [98, 106, 114, 122] [4, 2, 1, 8] x.op ∧ ¬ 0 < sizesM [99, 107, 115, 123] [4, 2, 1, 8] x.op ∧ (x.op == 195) = true ∧ (x.op == 219) = false ∧ (x.imm == 0) = false ∧ (x.imm == 64) = true) ∧ (rmemoryM x = (⟨8, x.imm % 256, false, true, false, 4⟩, true))) ∨ ((¬ 0 < sizesM [97, 105, 113, 121] [4, 2, 1, 8] x.op + sizesM [129, 137, 145] [4, 2, 1, 8] x.op ∧ ¬ 0 < sizesM [98, 106, 114, 122] [4, 2, 1, 8] x.op ∧ ¬ 0 < sizesM [99, 107, 115, 123] [4, 2, 1, 8] x.op ∧ (x.op == 195) = true ∧ (x.op == 219) = false ∧ (x.imm == 0) = false ∧ (x.imm == 64) = false ∧ (x.imm == 80) = true) ∧ (rmemoryM x = (⟨8, x.imm % 256, false, true, false, 4⟩, true))) ∨ ((¬ 0 < sizesM [97, 105, 113, 121] [4, 2, 1, 8] x.op + sizesM [129, 137, 145] [4, 2, 1, 8] x.op ∧ ¬ 0 < sizesM [98, 106, 114, 122] [4, 2, 1, 8] x.op ∧ ¬ 0 < sizesM [99, 107, 115, 123] [4, 2, 1, 8] x.op ∧ (x.op == 195) = true ∧ (x.op == 219) = false ∧ (x.imm == 0) = false ∧ (x.imm == 64) = false ∧ (x.imm == 80) = false) ∧ (rmemoryM x = (⟨8, x.imm % 256, false, true, false, 4⟩, x.imm == 160))) ∨ ((¬ 0 < sizesM [97, 105, 113, 121] [4, 2, 1, 8] x.op + sizesM [129, 137, 145] [4, 2, 1, 8] x.op ∧ ¬ 0 < sizesM [98, 106, 114, 122] [4, 2, 1, 8] x.op ∧ ¬ 0 < sizesM [99, 107, 115, 123] [4, 2, 1, 8] x.op ∧ (x.op == 195) = false ∧ (x.op == 219) = true ∧ (x.imm == 0) = true) ∧ (rmemoryM x = (⟨8, x.imm % 256, false, true, false, 8⟩, true))) ∨ ((¬ 0 < sizesM [97, 105, 113, 121] [4, 2, 1, 8] x.op + sizesM [129, 137, 145] [4, 2, 1, 8] x.op ∧ ¬ 0 < sizesM [98, 106, 114, 122] [4, 2, 1, 8] x.op ∧ ¬ 0 < sizesM [99, 107, 115, 123] [4, 2, 1, 8] x.op ∧ (x.op == 195) = false ∧ (x.op == 219) = true ∧ (x.imm == 0) = false ∧ (x.imm == 64) = true) ∧ (rmemoryM x = (⟨8, x.imm % 256, false, true, false, 8⟩, true))) ∨ ((¬ 0 < sizesM [97, 105, 113, 121] [4, 2, 1, 8] x.op + sizesM [129, 137, 145] [4, 2, 1, 8] x.op ∧ ¬ 0 < sizesM [98, 106, 114, 122] [4, 2, 1, 8] x.op ∧ ¬ 0 < sizesM [99, 107, 115, 123] [4, 2, 1, 8] x.op ∧ (x.op == 195) = false ∧ (x.op == 219) = true ∧ (x.imm == 0) = false ∧ (x.imm == 64) = false ∧ (x.imm == 80) = true) ∧ (rmemoryM x = (⟨8, x.imm % 256, false, true, false, 8⟩, true))) ∨ ((¬ 0 < sizesM [97, 105, 113, 121] [4, 2, 1, 8] x.op + sizesM [129, 137, 145] [4, 2, 1, 8] x.op ∧ ¬ 0 < sizesM [98, 106, 114, 122] [4, 2, 1, 8] x.op ∧ ¬ 0 < sizesM [99, 107, 115, 123] [4, 2, 1, 8] x.op ∧ (x.op == 195) = false ∧ (x.op == 219) = true ∧ (x.imm == 0) = false ∧ (x.imm == 64) = false ∧ (x.imm == 80) = false) ∧ (rmemoryM x = (⟨8, x.imm % 256, false, true, false, 8⟩, x.imm == 160)))) : Calls Try.prog 44 #[x.val] w (WhatAnd w (rmemoryM x)) := by
  have HC := Lib.hid hC
  clear hC
  have hS0 : ∀ V : World, Calls Try.prog 54 #[.slice (some ⟨V.heap.size, 0, none⟩) 4 4, .int .u8 x.op] (V.alloc (.cells #[.int .u8 97, .int .u8 105, .int .u8 113, .int .u8 121] 5)) fun e w' => e = .returned (.int .i64 (sizesM [97, 105, 113, 121] [4, 2, 1, 8] x.op)) ∧ Below V.heap.size V w' := fun V =>
    (sizes_is [97, 105, 113, 121] x.op _ 4 (by decide) _ ((sat_new V 5 #[.int .u8 97, .int .u8 105, .int .u8 113, .int .u8 121] 1 4 rfl).more (by simp))).mono fun e w' ⟨he, hw⟩ => ⟨he, by subst hw; exact ((Below.refl _ _).alloc (Nat.le_refl _) _).alloc (by simp) _⟩
  have hv0 : 0 ≤ sizesM [97, 105, 113, 121] [4, 2, 1, 8] x.op ∧ sizesM [97, 105, 113, 121] [4, 2, 1, 8] x.op ≤ 8 := sizesM_le _ _
  have hS1 : ∀ V : World, Calls Try.prog 54 #[.slice (some ⟨V.heap.size, 0, none⟩) 3 3, .int .u8 x.op] (V.alloc (.cells #[.int .u8 129, .int .u8 137, .int .u8 145] 5)) fun e w' => e = .returned (.int .i64 (sizesM [129, 137, 145] [4, 2, 1, 8] x.op)) ∧ Below V.heap.size V w' := fun V =>
    (sizes_is [129, 137, 145] x.op _ 3 (by decide) _ ((sat_new V 5 #[.int .u8 129, .int .u8 137, .int .u8 145] 1 3 rfl).more (by simp))).mono fun e w' ⟨he, hw⟩ => ⟨he, by subst hw; exact ((Below.refl _ _).alloc (Nat.le_refl _) _).alloc (by simp) _⟩
  have hv1 : 0 ≤ sizesM [129, 137, 145] [4, 2, 1, 8] x.op ∧ sizesM [129, 137, 145] [4, 2, 1, 8] x.op ≤ 8 := sizesM_le _ _
  have hS2 : ∀ V : World, Calls Try.prog 54 #[.slice (some ⟨V.heap.size, 0, none⟩) 4 4, .int .u8 x.op] (V.alloc (.cells #[.int .u8 98, .int .u8 106, .int .u8 114, .int .u8 122] 5)) fun e w' => e = .returned (.int .i64 (sizesM [98, 106, 114, 122] [4, 2, 1, 8] x.op)) ∧ Below V.heap.size V w' := fun V =>
    (sizes_is [98, 106, 114, 122] x.op _ 4 (by decide) _ ((sat_new V 5 #[.int .u8 98, .int .u8 106, .int .u8 114, .int .u8 122] 1 4 rfl).more (by simp))).mono fun e w' ⟨he, hw⟩ => ⟨he, by subst hw; exact ((Below.refl _ _).alloc (Nat.le_refl _) _).alloc (by simp) _⟩
  have hv2 : 0 ≤ sizesM [98, 106, 114, 122] [4, 2, 1, 8] x.op ∧ sizesM [98, 106, 114, 122] [4, 2, 1, 8] x.op ≤ 8 := sizesM_le _ _
  have hS3 : ∀ V : World, Calls Try.prog 54 #[.slice (some ⟨V.heap.size, 0, none⟩) 4 4, .int .u8 x.op] (V.alloc (.cells #[.int .u8 99, .int .u8 107, .int .u8 115, .int .u8 123] 5)) fun e w' => e = .returned (.int .i64 (sizesM [99, 107, 115, 123] [4, 2, 1, 8] x.op)) ∧ Below V.heap.size V w' := fun V =>
    (sizes_is [99, 107, 115, 123] x.op _ 4 (by decide) _ ((sat_new V 5 #[.int .u8 99, .int .u8 107, .int .u8 115, .int .u8 123] 1 4 rfl).more (by simp))).mono fun e w' ⟨he, hw⟩ => ⟨he, by subst hw; exact ((Below.refl _ _).alloc (Nat.le_refl _) _).alloc (by simp) _⟩
  have hv3 : 0 ≤ sizesM [99, 107, 115, 123] [4, 2, 1, 8] x.op ∧ sizesM [99, 107, 115, 123] [4, 2, 1, 8] x.op ≤ 8 := sizesM_le _ _
  generalize sizesM [97, 105, 113, 121] [4, 2, 1, 8] x.op = s0 at *
  generalize sizesM [129, 137, 145] [4, 2, 1, 8] x.op = s1 at *
  generalize sizesM [98, 106, 114, 122] [4, 2, 1, 8] x.op = s2 at *
  generalize sizesM [99, 107, 115, 123] [4, 2, 1, 8] x.op = s3 at *
  obtain ⟨f0, f1, f2, f3, f4⟩ := box_two x w What.zero.obj
  obtain ⟨z0, z1, z2, z3, z4, z5⟩ := box44 (W := (w.alloc x.obj).alloc What.zero.obj) (g := w.heap.size + 1) (B := w.heap.size + 2) What.zero (by omega) (heap_two_new _ _ _)
  have hfz := thaw44 (W := (w.alloc x.obj).alloc What.zero.obj) (g := w.heap.size + 1) (B := w.heap.size + 2) What.zero (by omega) (heap_two_new _ _ _)
  have hsz := size_two w x.obj What.zero.obj
  have hb := below_two w x.obj What.zero.obj
  simp only [What.zero] at f0 f1 f2 f3 f4 z0 z1 z2 z3 z4 z5 hfz hsz hb
  go_enter Try.func44, Try.ntmps44
  go_upto_region 1 with fail
  generalize hW : World.alloc _ _ = W at *
  have hB : Below (w.heap.size + 2) W W := Below.refl _ _
  have hge : w.heap.size + 2 ≤ W.heap.size := by omega
  clear hW hsz
  go_wp2_with fail
  refine (hS0 _).mono ?_
  rintro e V0 ⟨rfl, hbv0⟩
  have hB0 := hB.trans (hbv0.mono (by have := hB.size; omega))
  go_wp2_with fail
  refine (hS1 _).mono ?_
  rintro e V1 ⟨rfl, hbv1⟩
  have hB1 := hB0.trans (hbv1.mono (by have := hB0.size; omega))
  go_wp2_with fail
  refine (hS2 _).mono ?_
  rintro e V2 ⟨rfl, hbv2⟩
  have hB2 := hB1.trans (hbv2.mono (by have := hB1.size; omega))
  go_wp2_with fail
  refine (hS3 _).mono ?_
  rintro e V3 ⟨rfl, hbv3⟩
  have hB3 := hB2.trans (hbv3.mono (by have := hB2.size; omega))
  have a0 := f0 V3 hB3
  have a1 := f1 V3 hB3
  have a2 := f2 V3 hB3
  have a3 := f3 V3 hB3
  have a4 := f4 V3 hB3
  have t0 := z0 V3 hB3
  have t1 := z1 V3 hB3
  have t2 := z2 V3 hB3
  have t3 := z3 V3 hB3
  have t4 := z4 V3 hB3
  have t5 := z5 V3 hB3
  have y0 := hfz 0 V3 hB3
  have y1 := hfz 1 V3 hB3
  have y2 := hfz 2 V3 hB3
  have y3 := hfz 3 V3 hB3
  have y4 := hfz 4 V3 hB3
  have y5 := hfz 5 V3 hB3
  have hfin := hb.trans (hB3.mono (by omega))
  have hw1 : w.heap.size < V3.heap.size := by have := hB3.size; omega
  have hw2 : w.heap.size + 1 < V3.heap.size := by have := hB3.size; omega
  clear f0 f1 f2 f3 f4 z0 z1 z2 z3 z4 z5 hfz hB hB0 hB1 hB2 hB3 hbv0 hbv1 hbv2 hbv3 hS0 hS1 hS2 hS3 hb
  obtain ⟨l0, m0⟩ := hv0
  obtain ⟨l1, m1⟩ := hv1
  obtain ⟨l2, m2⟩ := hv2
  obtain ⟨l3, m3⟩ := hv3
  rcases HC.out with ⟨hG0, hM0⟩ | ⟨hG0, hM0⟩ | ⟨hG0, hM0⟩ | ⟨hG0, hM0⟩ | ⟨hG0, hM0⟩ | ⟨hG0, hM0⟩ | ⟨hG0, hM0⟩ | ⟨hG0, hM0⟩ | ⟨hG0, hM0⟩ | ⟨hG0, hM0⟩ | ⟨hG0, hM0⟩ | ⟨hG0, hM0⟩ | ⟨hG0, hM0⟩ <;> clear HC
  · have HG := Lib.hid hG0
    have HM := Lib.hid hM0
    clear hG0 hM0
    obtain ⟨p, hd⟩ := HG.out
    go_wp2_with fail
    rw [HM.out]
    refine bodyPost_ret (v := .tuple #[.agg #[_, _, _, _, _, _], .bool _]) ?_ rfl ⟨rfl, ?_⟩
    · simp [results, Try.results44, go_sem, What.zero, *]
    · (with_reducible repeat (first | assumption | refine Below.setCell ?_ (Nat.le_succ _) _ | refine sbelow_drew ?_ | refine sbelow_drewN ?_ | refine sbelow_alloc ?_ (Nat.le_refl _)))
  · have HG := Lib.hid hG0
    have HM := Lib.hid hM0
    clear hG0 hM0
    obtain ⟨p, hd⟩ := HG.out
    have hz8 : ∀ w, Calls Try.prog 43 #[x.val, .bool true, .bool true, .bool false] w fun e w' => e = .returned (.bool (zerosB x false false true)) ∧ w' = w.alloc x.obj := fun w => only_is x true true false w
    generalize zerosB x false false true = zz at *
    go_wp2_with fail
    refine (hz8 _).mono ?_
    rintro e w' ⟨rfl, rfl⟩
    go_wp2_with fail
    rw [HM.out]
    refine bodyPost_ret (v := .tuple #[.agg #[_, _, _, _, _, _], .bool _]) ?_ rfl ⟨rfl, ?_⟩
    · simp [results, Try.results44, go_sem, What.zero, *]
    · (with_reducible repeat (first | assumption | refine Below.setCell ?_ (Nat.le_succ _) _ | refine sbelow_drew ?_ | refine sbelow_drewN ?_ | refine sbelow_alloc ?_ (Nat.le_refl _)))
  · have HG := Lib.hid hG0
    have HM := Lib.hid hM0
    clear hG0 hM0
    obtain ⟨p, q⟩ := HG.out
    have hz8 : ∀ w, Calls Try.prog 43 #[x.val, .bool false, .bool true, .bool true] w fun e w' => e = .returned (.bool (zerosB x true false false)) ∧ w' = w.alloc x.obj := fun w => only_is x false true true w
    generalize zerosB x true false false = zz at *
    go_wp2_with fail
    refine (hz8 _).mono ?_
    rintro e w' ⟨rfl, rfl⟩
    go_wp2_with fail
    rw [HM.out]
    refine bodyPost_ret (v := .tuple #[.agg #[_, _, _, _, _, _], .bool _]) ?_ rfl ⟨rfl, ?_⟩
    · simp [results, Try.results44, go_sem, What.zero, *]
    · (with_reducible repeat (first | assumption | refine Below.setCell ?_ (Nat.le_succ _) _ | refine sbelow_drew ?_ | refine sbelow_drewN ?_ | refine sbelow_alloc ?_ (Nat.le_refl _)))
  · have HG := Lib.hid hG0
    have HM := Lib.hid hM0
    clear hG0 hM0
    obtain ⟨p, q, q'⟩ := HG.out
    have hz8 : ∀ w, Calls Try.prog 43 #[x.val, .bool true, .bool true, .bool false] w fun e w' => e = .returned (.bool (zerosB x false false true)) ∧ w' = w.alloc x.obj := fun w => only_is x true true false w
    generalize zerosB x false false true = zz at *
    go_wp2_with fail
    refine (hz8 _).mono ?_
    rintro e w' ⟨rfl, rfl⟩
    go_wp2_with fail
    rw [HM.out]
    refine bodyPost_ret (v := .tuple #[.agg #[_, _, _, _, _, _], .bool _]) ?_ rfl ⟨rfl, ?_⟩
    · simp [results, Try.results44, go_sem, What.zero, *]
    · (with_reducible repeat (first | assumption | refine Below.setCell ?_ (Nat.le_succ _) _ | refine sbelow_drew ?_ | refine sbelow_drewN ?_ | refine sbelow_alloc ?_ (Nat.le_refl _)))
  · have HG := Lib.hid hG0
    have HM := Lib.hid hM0
    clear hG0 hM0
    obtain ⟨p, q, q', r, r'⟩ := HG.out
    go_wp2_with fail
    rw [HM.out]
    refine bodyPost_ret (v := .tuple #[.agg #[_, _, _, _, _, _], .bool _]) ?_ rfl ⟨rfl, ?_⟩
    · simp [results, Try.results44, go_sem, What.zero, *]
    · (with_reducible repeat (first | assumption | refine Below.setCell ?_ (Nat.le_succ _) _ | refine sbelow_drew ?_ | refine sbelow_drewN ?_ | refine sbelow_alloc ?_ (Nat.le_refl _)))
  · have HG := Lib.hid hG0
    have HM := Lib.hid hM0
    clear hG0 hM0
    obtain ⟨p, q, q', r, r', i0⟩ := HG.out
    go_wp2_with fail
    go_region
    go_wp2_with fail
    rw [HM.out]
    refine bodyPost_ret (v := .tuple #[.agg #[_, _, _, _, _, _], .bool _]) ?_ rfl ⟨rfl, ?_⟩
    · simp [results, Try.results44, go_sem, What.zero, *]
    · (with_reducible repeat (first | assumption | refine Below.setCell ?_ (Nat.le_succ _) _ | refine sbelow_drew ?_ | refine sbelow_drewN ?_ | refine sbelow_alloc ?_ (Nat.le_refl _)))
  · have HG := Lib.hid hG0
    have HM := Lib.hid hM0
    clear hG0 hM0
    obtain ⟨p, q, q', r, r', i0, i64⟩ := HG.out
    go_wp2_with fail
    go_region
    go_wp2_with fail
    rw [HM.out]
    refine bodyPost_ret (v := .tuple #[.agg #[_, _, _, _, _, _], .bool _]) ?_ rfl ⟨rfl, ?_⟩
    · simp [results, Try.results44, go_sem, What.zero, *]
    · (with_reducible repeat (first | assumption | refine Below.setCell ?_ (Nat.le_succ _) _ | refine sbelow_drew ?_ | refine sbelow_drewN ?_ | refine sbelow_alloc ?_ (Nat.le_refl _)))
  iterate 2
    · have HG := Lib.hid hG0
      have HM := Lib.hid hM0
      clear hG0 hM0
      obtain ⟨p, q, q', r, r', i0, i64, i80⟩ := HG.out
      go_wp2_with fail
      go_region
      go_wp2_with fail
      rw [HM.out]
      refine bodyPost_ret (v := .tuple #[.agg #[_, _, _, _, _, _], .bool _]) ?_ rfl ⟨rfl, ?_⟩
      · simp [results, Try.results44, go_sem, What.zero, *]
      · (with_reducible repeat (first | assumption | refine Below.setCell ?_ (Nat.le_succ _) _ | refine sbelow_drew ?_ | refine sbelow_drewN ?_ | refine sbelow_alloc ?_ (Nat.le_refl _)))
  · have HG := Lib.hid hG0
    have HM := Lib.hid hM0
    clear hG0 hM0
    obtain ⟨p, q, q', r, r', i0⟩ := HG.out
    go_wp2_with fail
    go_region
    go_wp2_with fail
    rw [HM.out]
    refine bodyPost_ret (v := .tuple #[.agg #[_, _, _, _, _, _], .bool _]) ?_ rfl ⟨rfl, ?_⟩
    · simp [results, Try.results44, go_sem, What.zero, *]
    · (with_reducible repeat (first | assumption | refine Below.setCell ?_ (Nat.le_succ _) _ | refine sbelow_drew ?_ | refine sbelow_drewN ?_ | refine sbelow_alloc ?_ (Nat.le_refl _)))
  · have HG := Lib.hid hG0
    have HM := Lib.hid hM0
    clear hG0 hM0
    obtain ⟨p, q, q', r, r', i0, i64⟩ := HG.out
    go_wp2_with fail
    go_region
    go_wp2_with fail
    rw [HM.out]
    refine bodyPost_ret (v := .tuple #[.agg #[_, _, _, _, _, _], .bool _]) ?_ rfl ⟨rfl, ?_⟩
    · simp [results, Try.results44, go_sem, What.zero, *]
    · (with_reducible repeat (first | assumption | refine Below.setCell ?_ (Nat.le_succ _) _ | refine sbelow_drew ?_ | refine sbelow_drewN ?_ | refine sbelow_alloc ?_ (Nat.le_refl _)))
  iterate 2
    · have HG := Lib.hid hG0
      have HM := Lib.hid hM0
      clear hG0 hM0
      obtain ⟨p, q, q', r, r', i0, i64, i80⟩ := HG.out
      go_wp2_with fail
      go_region
      go_wp2_with fail
      rw [HM.out]
      refine bodyPost_ret (v := .tuple #[.agg #[_, _, _, _, _, _], .bool _]) ?_ rfl ⟨rfl, ?_⟩
      · simp [results, Try.results44, go_sem, What.zero, *]
      · (with_reducible repeat (first | assumption | refine Below.setCell ?_ (Nat.le_succ _) _ | refine sbelow_drew ?_ | refine sbelow_drewN ?_ | refine sbelow_alloc ?_ (Nat.le_refl _)))
end Go.Proofs.Ytncogaikiceidaa
end

section
/- The reference's memory: atoms. No statement is proved here. -/
namespace Go.Proofs.Ytncogaikiceidaa
open Go.RowKit
set_option linter.unusedSimpArgs false
set_option linter.unusedVariables false
set_option linter.unnecessarySimpa false
attribute [local go_sem ↓] Go.wp_at_zero Go.wp_at_succ
end Go.Proofs.Ytncogaikiceidaa
end

section
/- The reference's memory. No statement is proved here. -/
namespace Go.Proofs.Ytncogaikiceidaa
open Go.RowKit
set_option linter.unusedSimpArgs false
set_option linter.unusedVariables false
set_option linter.unnecessarySimpa false
theorem rmemory_any (x : Insn) (hx : x.Ok) (w : World) : Calls Try.prog 44 #[x.val] w (WhatAnd w (rmemoryM x)) := by
  by_cases p : 0 < sizesM [97, 105, 113, 121] [4, 2, 1, 8] x.op + sizesM [129, 137, 145] [4, 2, 1, 8] x.op
  · cases hd : (x.dst != 10)
    · exact rmem_walk x hx w (.inl ⟨⟨p, hd⟩, (by unfold rmemoryM; simp only; rw [if_pos p, hd]; rfl)⟩)
    · exact rmem_walk x hx w (.inr (.inl ⟨⟨p, hd⟩, (by unfold rmemoryM; simp only; rw [if_pos p, hd]; rfl)⟩))
  by_cases q : 0 < sizesM [98, 106, 114, 122] [4, 2, 1, 8] x.op
  · exact rmem_walk x hx w (.inr (.inr (.inl ⟨⟨p, q⟩, (by unfold rmemoryM; simp only; rw [if_neg p, if_pos q]; rfl)⟩)))
  by_cases q' : 0 < sizesM [99, 107, 115, 123] [4, 2, 1, 8] x.op
  · exact rmem_walk x hx w (.inr (.inr (.inr (.inl ⟨⟨p, q, q'⟩, (by unfold rmemoryM; simp only; rw [if_neg p, if_neg q, if_pos q']; rfl)⟩))))
  cases h195 : (x.op == 195)
  · have m195 : ¬ x.op = 195 := by simpa using h195
    cases h219 : (x.op == 219)
    · have m219 : ¬ x.op = 219 := by simpa using h219
      exact rmem_walk x hx w (.inr (.inr (.inr (.inr (.inl ⟨⟨p, q, q', h195, h219⟩, (by unfold rmemoryM; simp only; rw [if_neg p, if_neg q, if_neg q', if_neg (by omega)])⟩)))))
    · have m219 : x.op = 219 := by simpa using h219
      have e : rmemoryM x = (⟨8, x.imm % 256, false, true, false, 8⟩, x.imm == 0 || x.imm == 64 || x.imm == 80 || x.imm == 160) := by
        unfold rmemoryM; simp only; rw [if_neg p, if_neg q, if_neg q', if_pos (.inr m219), if_pos m219]
      cases i0 : (x.imm == 0)
      · cases i64 : (x.imm == 64)
        · cases i80 : (x.imm == 80)
          · exact rmem_walk x hx w (.inr (.inr (.inr (.inr (.inr (.inr (.inr (.inr (.inr (.inr (.inr (.inr ⟨⟨p, q, q', h195, h219, i0, i64, i80⟩, (by rw [e, i0, i64, i80]; rfl)⟩))))))))))))
          · exact rmem_walk x hx w (.inr (.inr (.inr (.inr (.inr (.inr (.inr (.inr (.inr (.inr (.inr (.inl ⟨⟨p, q, q', h195, h219, i0, i64, i80⟩, (by rw [e, i0, i64, i80]; rfl)⟩))))))))))))
        · exact rmem_walk x hx w (.inr (.inr (.inr (.inr (.inr (.inr (.inr (.inr (.inr (.inr (.inl ⟨⟨p, q, q', h195, h219, i0, i64⟩, (by rw [e, i0, i64]; rfl)⟩)))))))))))
      · exact rmem_walk x hx w (.inr (.inr (.inr (.inr (.inr (.inr (.inr (.inr (.inr (.inl ⟨⟨p, q, q', h195, h219, i0⟩, (by rw [e, i0]; rfl)⟩))))))))))
  · have m195 : x.op = 195 := by simpa using h195
    have m219 : ¬ x.op = 219 := by omega
    have h219 : (x.op == 219) = false := by simp [m219]
    have e : rmemoryM x = (⟨8, x.imm % 256, false, true, false, 4⟩, x.imm == 0 || x.imm == 64 || x.imm == 80 || x.imm == 160) := by
      unfold rmemoryM; simp only; rw [if_neg p, if_neg q, if_neg q', if_pos (.inl m195), if_neg m219]
    cases i0 : (x.imm == 0)
    · cases i64 : (x.imm == 64)
      · cases i80 : (x.imm == 80)
        · exact rmem_walk x hx w (.inr (.inr (.inr (.inr (.inr (.inr (.inr (.inr (.inl ⟨⟨p, q, q', h195, h219, i0, i64, i80⟩, (by rw [e, i0, i64, i80]; rfl)⟩)))))))))
        · exact rmem_walk x hx w (.inr (.inr (.inr (.inr (.inr (.inr (.inr (.inl ⟨⟨p, q, q', h195, h219, i0, i64, i80⟩, (by rw [e, i0, i64, i80]; rfl)⟩))))))))
      · exact rmem_walk x hx w (.inr (.inr (.inr (.inr (.inr (.inr (.inl ⟨⟨p, q, q', h195, h219, i0, i64⟩, (by rw [e, i0, i64]; rfl)⟩)))))))
    · exact rmem_walk x hx w (.inr (.inr (.inr (.inr (.inr (.inl ⟨⟨p, q, q', h195, h219, i0⟩, (by rw [e, i0]; rfl)⟩))))))
end Go.Proofs.Ytncogaikiceidaa
end
