/- The program's swaps answer as the plain swapsM does. No statement is proved here. -/
import Derived.Test.YtncogaikiceidaaInsn1
import Derived.Test.YtncogaikiceidaaSwapsA
import Derived.Test.YtncogaikiceidaaSwapsC
import Derived.Test.YtncogaikiceidaaArith
import Derived.Test.YtncogaikiceidaaJumps
import Derived.Test.YtncogaikiceidaaMoves
section
section
/- The program's swaps, other ways. No statement is proved here. -/
namespace Go.Proofs.Ytncogaikiceidaa
open Go.RowKit
set_option linter.unusedSimpArgs false
set_option linter.unusedVariables false
attribute [local go_sem ↓] Go.wp_at_zero Go.wp_at_succ
attribute [local go_sem] Go.undef
set_option maxRecDepth 100000 in
set_option maxHeartbeats 16000000 in
theorem swaps_i32 (x : Insn) (hx : x.Ok) (w : World) (hG0 : ¬ x.dst = 10 ∧ zerosB x true true false = true ∧ (x.imm == 16) = false ∧ (x.imm == 32) = true) : Calls Try.prog 58 #[x.val] w (WhatAnd w (swapsM x)) := by
  have HG := Lib.hid hG0
  clear hG0
  have htd := tdiv8 x.imm hx.imm0 hx.imm1
  obtain ⟨e1, e2, e3, hsz, hfin⟩ := three_heap w x.obj What.zero.obj (What.obj ⟨2, 0, x.op != 212, false, false, x.imm.tdiv 8⟩)
  go_enter Try.func58, Try.ntmps58
  go_wp2_with fail
  simp only [What.zero] at e1 e2 e3 hsz hfin
  generalize hW : World.alloc _ _ = wc at *
  obtain ⟨f0, f1, f2, f3, f4⟩ := box24 (W := wc) (B := wc.heap.size) x (by omega) e1
  obtain ⟨g0, g1, g2, g3, g4, g5⟩ := box44 (W := wc) (B := wc.heap.size) ⟨2, 0, x.op != 212, false, false, x.imm.tdiv 8⟩ (by omega) e3
  obtain ⟨z0, z1, z2, z3, z4, z5⟩ := box44 (W := wc) (B := wc.heap.size) What.zero (by omega) e2
  have hfz := thaw44 (W := wc) (B := wc.heap.size) What.zero (by omega) e2
  have hB : Below wc.heap.size wc wc := Below.refl _ _
  simp only [What.zero] at g0 g1 g2 g3 g4 g5 z0 z1 z2 z3 z4 z5
  have hw1 : w.heap.size < wc.heap.size := by omega
  have hw2 : w.heap.size + 1 < wc.heap.size := by omega
  have hw3 : w.heap.size + 1 + 1 < wc.heap.size := by omega
  have a0 := f0 wc hB
  have a1 := f1 wc hB
  have a2 := f2 wc hB
  have a3 := f3 wc hB
  have a4 := f4 wc hB
  have k0 := g0 wc hB
  have k1 := g1 wc hB
  have k2 := g2 wc hB
  have k3 := g3 wc hB
  have k4 := g4 wc hB
  have k5 := g5 wc hB
  have t0 := z0 wc hB
  have t1 := z1 wc hB
  have t2 := z2 wc hB
  have t3 := z3 wc hB
  have t4 := z4 wc hB
  have t5 := z5 wc hB
  have y0 := hfz 0 wc hB
  have y1 := hfz 1 wc hB
  have y2 := hfz 2 wc hB
  have y3 := hfz 3 wc hB
  have y4 := hfz 4 wc hB
  have y5 := hfz 5 wc hB
  clear f0 f1 f2 f3 f4 g0 g1 g2 g3 g4 g5 z0 z1 z2 z3 z4 z5 hfz hB hW hsz e1 e2 e3
  have hd : (x.dst != 10) = true := by simpa using HG.out.1
  have hdn := HG.out.1
  have hzz := HG.out.2
  have hz1 := hzz.1
  have u0 := keep2_one (b := w.heap.size + 1 + 1) a0
  have u1 := keep2_one (b := w.heap.size + 1 + 1) a1
  have u2 := keep2_one (b := w.heap.size + 1 + 1) a2
  have u3 := keep2_one (b := w.heap.size + 1 + 1) a3
  have u4 := keep2_one (b := w.heap.size + 1 + 1) a4
  have v0 := keep2_two (a := w.heap.size) k0
  have v1 := keep2_two (a := w.heap.size) k1
  have v2 := keep2_two (a := w.heap.size) k2
  have v3 := keep2_two (a := w.heap.size) k3
  have v4 := keep2_two (a := w.heap.size) k4
  have v5 := keep2_two (a := w.heap.size) k5
  have hz8 : ∀ w, Calls Try.prog 74 #[x.val, .bool true, .bool true, .bool false] w fun e w' => e = .returned (.bool true) ∧ w' = w.alloc x.obj := fun w => by
    have := zeros_is x true true false w
    rwa [hz1] at this
  have hK : Keep2 w.heap.size (w.heap.size + 1 + 1) wc wc := keep2_refl
  clear u0 u1 u2 u3 u4 v0 v1 v2 v3 v4 v5 hK
  have hi0 : (x.imm == 16) = false := hzz.2.1
  have hi1 : (x.imm == 32) = true := hzz.2.2
  first | (go_region_with (go_at_call 74; refine (hz8 _).mono ?_; rintro e w' ⟨rfl, rfl⟩)) | fail
  all_goals go_wp2_with fail
  all_goals
    refine bodyPost_ret (v := .tuple #[(swapsM x).1.val, .bool (swapsM x).2]) ?_ rfl ⟨rfl, ?_⟩
    · simp [results, Try.results58, go_sem, swapsM, *]
    · (with_reducible repeat (first | assumption | refine Below.setCell ?_ (Nat.le_succ _) _ | refine sbelow_drew ?_ | refine sbelow_drewN ?_ | refine sbelow_alloc ?_ (Nat.le_refl _)))
end Go.Proofs.Ytncogaikiceidaa
end

section
/- The program's swaps, at every instruction. No statement is proved here. -/
namespace Go.Proofs.Ytncogaikiceidaa
open Go.RowKit
set_option linter.unusedSimpArgs false
set_option linter.unusedVariables false
theorem swaps_any (x : Insn) (hx : x.Ok) (w : World) : Calls Try.prog 58 #[x.val] w (WhatAnd w (swapsM x)) := by
  by_cases hd : x.dst = 10
  · exact swaps_ten x hx w hd
  cases hz : zerosB x true true false
  · exact swaps_no x hx w ⟨hd, hz⟩
  cases h16 : (x.imm == 16)
  · cases h32 : (x.imm == 32)
    · cases h64 : (x.imm == 64)
      · exact swaps_other x hx w ⟨hd, hz, h16, h32, h64⟩
      · exact swaps_i64 x hx w ⟨hd, hz, h16, h32, h64⟩
    · exact swaps_i32 x hx w ⟨hd, hz, h16, h32⟩
  · exact swaps_i16 x hx w ⟨hd, hz, h16⟩
end Go.Proofs.Ytncogaikiceidaa
end
end
section
section
/- What an instruction does, by the program, before what is none is nothing: some ways. No statement is proved here. -/
namespace Go.Proofs.Ytncogaikiceidaa
set_option maxRecDepth 100000
open Go.RowKit
set_option linter.unusedSimpArgs false
set_option linter.unusedVariables false
set_option maxHeartbeats 4000000 in
theorem wide97_any (x : Insn) (w : World) : Calls Try.prog 57 #[x.val] w (WhatAnd w (wideM x)) := by
  have hbel : ∀ o o', Below w.heap.size w ((w.alloc o).alloc o') := fun o o' => below_two w o o'
  cases h3 : (x.src == 0)
  · cases h4 : (x.src == 1)
    · go_enter Try.func57, Try.ntmps57
      go_wp2_with fail
      all_goals
        refine bodyPost_ret (v := .tuple #[(wideM x).1.val, .bool (wideM x).2]) ?_ rfl ⟨rfl, ?_⟩
        · simp at h3 h4
          simp [results, Try.results57, go_sem, wideM, What.zero, *]
        · (with_reducible first | exact hbel _ _ | exact (hbel _ _).drew | exact below_drewN (hbel _ _) _)
    · cases h1 : (x.dst != 10) <;> cases h2 : (x.off == 0) <;>
      (go_enter Try.func57, Try.ntmps57
       go_wp2_with fail
       go_region
       go_wp2_with fail
       refine bodyPost_ret (v := .tuple #[(wideM x).1.val, .bool (wideM x).2]) ?_ rfl ⟨rfl, ?_⟩
       · simp at h3 h4
         simp [results, Try.results57, go_sem, wideM, What.zero, *]
       · (with_reducible first | exact hbel _ _ | exact (hbel _ _).drew | exact below_drewN (hbel _ _) _))
  · cases h1 : (x.dst != 10) <;> cases h2 : (x.off == 0) <;>
    (go_enter Try.func57, Try.ntmps57
     go_wp2_with fail
     refine bodyPost_ret (v := .tuple #[(wideM x).1.val, .bool (wideM x).2]) ?_ rfl ⟨rfl, ?_⟩
     · simp at h3
       simp [results, Try.results57, go_sem, wideM, What.zero, *]
     · (with_reducible first | exact hbel _ _ | exact (hbel _ _).drew | exact below_drewN (hbel _ _) _))
set_option maxHeartbeats 16000000 in
theorem what_A (x : Insn) (hx : x.Ok) (w : World) (hG0 : (10 < x.dst)) (hM0 : whatM x = (What.zero, false)) : Calls Try.prog 50 #[x.val] w (WhatAnd w (whatM x)) := by
  have HG := Lib.hid hG0
  have HM := Lib.hid hM0
  clear hG0 hM0
  obtain ⟨f0, f1, f2, f3, f4⟩ := box_two x w What.zero.obj
  obtain ⟨z0, z1, z2, z3, z4, z5⟩ := box44 (W := (w.alloc x.obj).alloc What.zero.obj) (g := w.heap.size + 1) (B := w.heap.size + 2) What.zero (by omega) (heap_two_new _ _ _)
  have hfz := thaw44 (W := (w.alloc x.obj).alloc What.zero.obj) (g := w.heap.size + 1) (B := w.heap.size + 2) What.zero (by omega) (heap_two_new _ _ _)
  have hsz := size_two w x.obj What.zero.obj
  have hb := below_two w x.obj What.zero.obj
  simp only [What.zero] at f0 f1 f2 f3 f4 z0 z1 z2 z3 z4 z5 hfz hsz hb
  have cclass := fun w => class_is x hx w
  have h1 := HG.out
  go_enter Try.func50, Try.ntmps50
  go_wp2_with fail
  have hr := HM.out
  rw [hr]
  refine bodyPost_ret (v := .tuple #[What.zero.val, .bool false]) ?_ rfl ⟨rfl, ?_⟩
  · simp [results, Try.results50, go_sem, What.zero, *]
  · (with_reducible repeat (first | assumption | refine Below.setCell ?_ (Nat.le_succ _) _ | refine sbelow_drew ?_ | refine sbelow_drewN ?_ | refine sbelow_alloc ?_ (Nat.le_refl _)))

set_option maxHeartbeats 16000000 in
theorem what_B (x : Insn) (hx : x.Ok) (w : World) (hG0 : (¬ 10 < x.dst ∧ 10 < x.src)) (hM0 : whatM x = (What.zero, false)) : Calls Try.prog 50 #[x.val] w (WhatAnd w (whatM x)) := by
  have HG := Lib.hid hG0
  have HM := Lib.hid hM0
  clear hG0 hM0
  obtain ⟨f0, f1, f2, f3, f4⟩ := box_two x w What.zero.obj
  obtain ⟨z0, z1, z2, z3, z4, z5⟩ := box44 (W := (w.alloc x.obj).alloc What.zero.obj) (g := w.heap.size + 1) (B := w.heap.size + 2) What.zero (by omega) (heap_two_new _ _ _)
  have hfz := thaw44 (W := (w.alloc x.obj).alloc What.zero.obj) (g := w.heap.size + 1) (B := w.heap.size + 2) What.zero (by omega) (heap_two_new _ _ _)
  have hsz := size_two w x.obj What.zero.obj
  have hb := below_two w x.obj What.zero.obj
  simp only [What.zero] at f0 f1 f2 f3 f4 z0 z1 z2 z3 z4 z5 hfz hsz hb
  have cclass := fun w => class_is x hx w
  obtain ⟨h1, h2⟩ := HG.out
  go_enter Try.func50, Try.ntmps50
  go_wp2_with fail
  have hr := HM.out
  rw [hr]
  refine bodyPost_ret (v := .tuple #[What.zero.val, .bool false]) ?_ rfl ⟨rfl, ?_⟩
  · simp [results, Try.results50, go_sem, What.zero, *]
  · (with_reducible repeat (first | assumption | refine Below.setCell ?_ (Nat.le_succ _) _ | refine sbelow_drew ?_ | refine sbelow_drewN ?_ | refine sbelow_alloc ?_ (Nat.le_refl _)))

set_option maxHeartbeats 16000000 in
theorem what_C (x : Insn) (hx : x.Ok) (w : World) (hG0 : (¬ 10 < x.dst ∧ ¬ 10 < x.src ∧ (x.op == 24) = true)) (hM0 : whatM x = wideM x) : Calls Try.prog 50 #[x.val] w (WhatAnd w (whatM x)) := by
  have HG := Lib.hid hG0
  have HM := Lib.hid hM0
  clear hG0 hM0
  obtain ⟨f0, f1, f2, f3, f4⟩ := box_two x w What.zero.obj
  obtain ⟨z0, z1, z2, z3, z4, z5⟩ := box44 (W := (w.alloc x.obj).alloc What.zero.obj) (g := w.heap.size + 1) (B := w.heap.size + 2) What.zero (by omega) (heap_two_new _ _ _)
  have hfz := thaw44 (W := (w.alloc x.obj).alloc What.zero.obj) (g := w.heap.size + 1) (B := w.heap.size + 2) What.zero (by omega) (heap_two_new _ _ _)
  have hsz := size_two w x.obj What.zero.obj
  have hb := below_two w x.obj What.zero.obj
  simp only [What.zero] at f0 f1 f2 f3 f4 z0 z1 z2 z3 z4 z5 hfz hsz hb
  have cclass := fun w => class_is x hx w
  have ccall := fun w => wide97_any x w
  obtain ⟨h1, h2, h3⟩ := HG.out
  go_enter Try.func50, Try.ntmps50
  go_wp2_with fail
  refine (ccall _).mono ?_
  rintro e w1 ⟨rfl, hb1⟩
  generalize hW : (w.alloc _).alloc _ = W at *
  rw [hsz] at hb1
  have hr := HM.out
  generalize wideM x = r at *
  obtain ⟨⟨r0, r1, r2, r3, r4, r5⟩, rb⟩ := r
  simp only at *
  have y0 := hfz 0 w1 hb1
  have y1 := hfz 1 w1 hb1
  have y2 := hfz 2 w1 hb1
  have y3 := hfz 3 w1 hb1
  have y4 := hfz 4 w1 hb1
  have y5 := hfz 5 w1 hb1
  replace hb := hb.trans (hb1.mono (Nat.le_add_right _ 2))
  go_wp2_with fail
  rw [hr]
  refine bodyPost_ret (v := .tuple #[.agg #[_, _, _, _, _, _], .bool _]) ?_ rfl ⟨rfl, ?_⟩
  · simp [results, Try.results50, go_sem, *]
  · (with_reducible repeat (first | assumption | refine Below.setCell ?_ (Nat.le_succ _) _ | refine sbelow_drew ?_ | refine sbelow_drewN ?_ | refine sbelow_alloc ?_ (Nat.le_refl _)))

set_option maxHeartbeats 16000000 in
theorem what_D1 (x : Insn) (hx : x.Ok) (w : World) (hG0 : (¬ 10 < x.dst ∧ ¬ 10 < x.src ∧ (x.op == 24) = false ∧ (x.op == 212) = true)) (hM0 : whatM x = swapsM x) : Calls Try.prog 50 #[x.val] w (WhatAnd w (whatM x)) := by
  have HG := Lib.hid hG0
  have HM := Lib.hid hM0
  clear hG0 hM0
  obtain ⟨f0, f1, f2, f3, f4⟩ := box_two x w What.zero.obj
  obtain ⟨z0, z1, z2, z3, z4, z5⟩ := box44 (W := (w.alloc x.obj).alloc What.zero.obj) (g := w.heap.size + 1) (B := w.heap.size + 2) What.zero (by omega) (heap_two_new _ _ _)
  have hfz := thaw44 (W := (w.alloc x.obj).alloc What.zero.obj) (g := w.heap.size + 1) (B := w.heap.size + 2) What.zero (by omega) (heap_two_new _ _ _)
  have hsz := size_two w x.obj What.zero.obj
  have hb := below_two w x.obj What.zero.obj
  simp only [What.zero] at f0 f1 f2 f3 f4 z0 z1 z2 z3 z4 z5 hfz hsz hb
  have cclass := fun w => class_is x hx w
  have ccall := fun w => swaps_any x hx w
  obtain ⟨h1, h2, h3, h4⟩ := HG.out
  go_enter Try.func50, Try.ntmps50
  go_wp2_with fail
  refine (ccall _).mono ?_
  rintro e w1 ⟨rfl, hb1⟩
  generalize hW : (w.alloc _).alloc _ = W at *
  rw [hsz] at hb1
  have hr := HM.out
  generalize swapsM x = r at *
  obtain ⟨⟨r0, r1, r2, r3, r4, r5⟩, rb⟩ := r
  simp only at *
  have y0 := hfz 0 w1 hb1
  have y1 := hfz 1 w1 hb1
  have y2 := hfz 2 w1 hb1
  have y3 := hfz 3 w1 hb1
  have y4 := hfz 4 w1 hb1
  have y5 := hfz 5 w1 hb1
  replace hb := hb.trans (hb1.mono (Nat.le_add_right _ 2))
  go_wp2_with fail
  rw [hr]
  refine bodyPost_ret (v := .tuple #[.agg #[_, _, _, _, _, _], .bool _]) ?_ rfl ⟨rfl, ?_⟩
  · simp [results, Try.results50, go_sem, *]
  · (with_reducible repeat (first | assumption | refine Below.setCell ?_ (Nat.le_succ _) _ | refine sbelow_drew ?_ | refine sbelow_drewN ?_ | refine sbelow_alloc ?_ (Nat.le_refl _)))

set_option maxHeartbeats 16000000 in
theorem what_D2 (x : Insn) (hx : x.Ok) (w : World) (hG0 : (¬ 10 < x.dst ∧ ¬ 10 < x.src ∧ (x.op == 24) = false ∧ (x.op == 212) = false ∧ (x.op == 220) = true)) (hM0 : whatM x = swapsM x) : Calls Try.prog 50 #[x.val] w (WhatAnd w (whatM x)) := by
  have HG := Lib.hid hG0
  have HM := Lib.hid hM0
  clear hG0 hM0
  obtain ⟨f0, f1, f2, f3, f4⟩ := box_two x w What.zero.obj
  obtain ⟨z0, z1, z2, z3, z4, z5⟩ := box44 (W := (w.alloc x.obj).alloc What.zero.obj) (g := w.heap.size + 1) (B := w.heap.size + 2) What.zero (by omega) (heap_two_new _ _ _)
  have hfz := thaw44 (W := (w.alloc x.obj).alloc What.zero.obj) (g := w.heap.size + 1) (B := w.heap.size + 2) What.zero (by omega) (heap_two_new _ _ _)
  have hsz := size_two w x.obj What.zero.obj
  have hb := below_two w x.obj What.zero.obj
  simp only [What.zero] at f0 f1 f2 f3 f4 z0 z1 z2 z3 z4 z5 hfz hsz hb
  have cclass := fun w => class_is x hx w
  have ccall := fun w => swaps_any x hx w
  obtain ⟨h1, h2, h3, h4, h5⟩ := HG.out
  go_enter Try.func50, Try.ntmps50
  go_wp2_with fail
  refine (ccall _).mono ?_
  rintro e w1 ⟨rfl, hb1⟩
  generalize hW : (w.alloc _).alloc _ = W at *
  rw [hsz] at hb1
  have hr := HM.out
  generalize swapsM x = r at *
  obtain ⟨⟨r0, r1, r2, r3, r4, r5⟩, rb⟩ := r
  simp only at *
  have y0 := hfz 0 w1 hb1
  have y1 := hfz 1 w1 hb1
  have y2 := hfz 2 w1 hb1
  have y3 := hfz 3 w1 hb1
  have y4 := hfz 4 w1 hb1
  have y5 := hfz 5 w1 hb1
  replace hb := hb.trans (hb1.mono (Nat.le_add_right _ 2))
  go_wp2_with fail
  rw [hr]
  refine bodyPost_ret (v := .tuple #[.agg #[_, _, _, _, _, _], .bool _]) ?_ rfl ⟨rfl, ?_⟩
  · simp [results, Try.results50, go_sem, *]
  · (with_reducible repeat (first | assumption | refine Below.setCell ?_ (Nat.le_succ _) _ | refine sbelow_drew ?_ | refine sbelow_drewN ?_ | refine sbelow_alloc ?_ (Nat.le_refl _)))

set_option maxHeartbeats 16000000 in
theorem what_D3 (x : Insn) (hx : x.Ok) (w : World) (hG0 : (¬ 10 < x.dst ∧ ¬ 10 < x.src ∧ (x.op == 24) = false ∧ (x.op == 212) = false ∧ (x.op == 220) = false ∧ (x.op == 215) = true)) (hM0 : whatM x = swapsM x) : Calls Try.prog 50 #[x.val] w (WhatAnd w (whatM x)) := by
  have HG := Lib.hid hG0
  have HM := Lib.hid hM0
  clear hG0 hM0
  obtain ⟨f0, f1, f2, f3, f4⟩ := box_two x w What.zero.obj
  obtain ⟨z0, z1, z2, z3, z4, z5⟩ := box44 (W := (w.alloc x.obj).alloc What.zero.obj) (g := w.heap.size + 1) (B := w.heap.size + 2) What.zero (by omega) (heap_two_new _ _ _)
  have hfz := thaw44 (W := (w.alloc x.obj).alloc What.zero.obj) (g := w.heap.size + 1) (B := w.heap.size + 2) What.zero (by omega) (heap_two_new _ _ _)
  have hsz := size_two w x.obj What.zero.obj
  have hb := below_two w x.obj What.zero.obj
  simp only [What.zero] at f0 f1 f2 f3 f4 z0 z1 z2 z3 z4 z5 hfz hsz hb
  have cclass := fun w => class_is x hx w
  have ccall := fun w => swaps_any x hx w
  obtain ⟨h1, h2, h3, h4, h5, h6⟩ := HG.out
  go_enter Try.func50, Try.ntmps50
  go_wp2_with fail
  refine (ccall _).mono ?_
  rintro e w1 ⟨rfl, hb1⟩
  generalize hW : (w.alloc _).alloc _ = W at *
  rw [hsz] at hb1
  have hr := HM.out
  generalize swapsM x = r at *
  obtain ⟨⟨r0, r1, r2, r3, r4, r5⟩, rb⟩ := r
  simp only at *
  have y0 := hfz 0 w1 hb1
  have y1 := hfz 1 w1 hb1
  have y2 := hfz 2 w1 hb1
  have y3 := hfz 3 w1 hb1
  have y4 := hfz 4 w1 hb1
  have y5 := hfz 5 w1 hb1
  replace hb := hb.trans (hb1.mono (Nat.le_add_right _ 2))
  go_wp2_with fail
  rw [hr]
  refine bodyPost_ret (v := .tuple #[.agg #[_, _, _, _, _, _], .bool _]) ?_ rfl ⟨rfl, ?_⟩
  · simp [results, Try.results50, go_sem, *]
  · (with_reducible repeat (first | assumption | refine Below.setCell ?_ (Nat.le_succ _) _ | refine sbelow_drew ?_ | refine sbelow_drewN ?_ | refine sbelow_alloc ?_ (Nat.le_refl _)))
end Go.Proofs.Ytncogaikiceidaa
end

section
/- What an instruction does, by the program, before what is none is nothing: other ways. No statement is proved here. -/
namespace Go.Proofs.Ytncogaikiceidaa
set_option maxRecDepth 100000
open Go.RowKit
set_option linter.unusedSimpArgs false
set_option linter.unusedVariables false
set_option maxHeartbeats 16000000 in
theorem what_E4 (x : Insn) (hx : x.Ok) (w : World) (hG0 : (¬ 10 < x.dst ∧ ¬ 10 < x.src ∧ (x.op == 24) = false ∧ (x.op == 212) = false ∧ (x.op == 220) = false ∧ (x.op == 215) = false ∧ x.op % 8 = 4)) (hM0 : whatM x = arithM x) : Calls Try.prog 50 #[x.val] w (WhatAnd w (whatM x)) := by
  have HG := Lib.hid hG0
  have HM := Lib.hid hM0
  clear hG0 hM0
  obtain ⟨f0, f1, f2, f3, f4⟩ := box_two x w What.zero.obj
  obtain ⟨z0, z1, z2, z3, z4, z5⟩ := box44 (W := (w.alloc x.obj).alloc What.zero.obj) (g := w.heap.size + 1) (B := w.heap.size + 2) What.zero (by omega) (heap_two_new _ _ _)
  have hfz := thaw44 (W := (w.alloc x.obj).alloc What.zero.obj) (g := w.heap.size + 1) (B := w.heap.size + 2) What.zero (by omega) (heap_two_new _ _ _)
  have hsz := size_two w x.obj What.zero.obj
  have hb := below_two w x.obj What.zero.obj
  simp only [What.zero] at f0 f1 f2 f3 f4 z0 z1 z2 z3 z4 z5 hfz hsz hb
  have cclass := fun w => class_is x hx w
  have ccall := fun w => arith_any x hx w
  obtain ⟨h1, h2, h3, h4, h5, h6, hc⟩ := HG.out
  go_enter Try.func50, Try.ntmps50
  go_wp2_with fail
  refine (cclass _).mono ?_
  rintro e w0 ⟨rfl, rfl⟩
  go_wp2_with fail
  refine (ccall _).mono ?_
  rintro e w1 ⟨rfl, hb1⟩
  generalize hW : (w.alloc _).alloc _ = W at *
  replace hb1 := (sbelow_alloc (o := x.obj) (Below.refl (w.heap.size + 2) W) (by omega)).trans (hb1.mono (by simp; omega))
  have hr := HM.out
  generalize arithM x = r at *
  obtain ⟨⟨r0, r1, r2, r3, r4, r5⟩, rb⟩ := r
  simp only at *
  have y0 := hfz 0 w1 hb1
  have y1 := hfz 1 w1 hb1
  have y2 := hfz 2 w1 hb1
  have y3 := hfz 3 w1 hb1
  have y4 := hfz 4 w1 hb1
  have y5 := hfz 5 w1 hb1
  replace hb := hb.trans (hb1.mono (Nat.le_add_right _ 2))
  go_wp2_with fail
  rw [hr]
  refine bodyPost_ret (v := .tuple #[.agg #[_, _, _, _, _, _], .bool _]) ?_ rfl ⟨rfl, ?_⟩
  · simp [results, Try.results50, go_sem, *]
  · (with_reducible repeat (first | assumption | refine Below.setCell ?_ (Nat.le_succ _) _ | refine sbelow_drew ?_ | refine sbelow_drewN ?_ | refine sbelow_alloc ?_ (Nat.le_refl _)))

set_option maxHeartbeats 16000000 in
theorem what_E7 (x : Insn) (hx : x.Ok) (w : World) (hG0 : (¬ 10 < x.dst ∧ ¬ 10 < x.src ∧ (x.op == 24) = false ∧ (x.op == 212) = false ∧ (x.op == 220) = false ∧ (x.op == 215) = false ∧ x.op % 8 = 7)) (hM0 : whatM x = arithM x) : Calls Try.prog 50 #[x.val] w (WhatAnd w (whatM x)) := by
  have HG := Lib.hid hG0
  have HM := Lib.hid hM0
  clear hG0 hM0
  obtain ⟨f0, f1, f2, f3, f4⟩ := box_two x w What.zero.obj
  obtain ⟨z0, z1, z2, z3, z4, z5⟩ := box44 (W := (w.alloc x.obj).alloc What.zero.obj) (g := w.heap.size + 1) (B := w.heap.size + 2) What.zero (by omega) (heap_two_new _ _ _)
  have hfz := thaw44 (W := (w.alloc x.obj).alloc What.zero.obj) (g := w.heap.size + 1) (B := w.heap.size + 2) What.zero (by omega) (heap_two_new _ _ _)
  have hsz := size_two w x.obj What.zero.obj
  have hb := below_two w x.obj What.zero.obj
  simp only [What.zero] at f0 f1 f2 f3 f4 z0 z1 z2 z3 z4 z5 hfz hsz hb
  have cclass := fun w => class_is x hx w
  have ccall := fun w => arith_any x hx w
  obtain ⟨h1, h2, h3, h4, h5, h6, hc⟩ := HG.out
  go_enter Try.func50, Try.ntmps50
  go_wp2_with fail
  refine (cclass _).mono ?_
  rintro e w0 ⟨rfl, rfl⟩
  go_wp2_with fail
  refine (ccall _).mono ?_
  rintro e w1 ⟨rfl, hb1⟩
  generalize hW : (w.alloc _).alloc _ = W at *
  replace hb1 := (sbelow_alloc (o := x.obj) (Below.refl (w.heap.size + 2) W) (by omega)).trans (hb1.mono (by simp; omega))
  have hr := HM.out
  generalize arithM x = r at *
  obtain ⟨⟨r0, r1, r2, r3, r4, r5⟩, rb⟩ := r
  simp only at *
  have y0 := hfz 0 w1 hb1
  have y1 := hfz 1 w1 hb1
  have y2 := hfz 2 w1 hb1
  have y3 := hfz 3 w1 hb1
  have y4 := hfz 4 w1 hb1
  have y5 := hfz 5 w1 hb1
  replace hb := hb.trans (hb1.mono (Nat.le_add_right _ 2))
  go_wp2_with fail
  rw [hr]
  refine bodyPost_ret (v := .tuple #[.agg #[_, _, _, _, _, _], .bool _]) ?_ rfl ⟨rfl, ?_⟩
  · simp [results, Try.results50, go_sem, *]
  · (with_reducible repeat (first | assumption | refine Below.setCell ?_ (Nat.le_succ _) _ | refine sbelow_drew ?_ | refine sbelow_drewN ?_ | refine sbelow_alloc ?_ (Nat.le_refl _)))

set_option maxHeartbeats 16000000 in
theorem what_F5 (x : Insn) (hx : x.Ok) (w : World) (hG0 : (¬ 10 < x.dst ∧ ¬ 10 < x.src ∧ (x.op == 24) = false ∧ (x.op == 212) = false ∧ (x.op == 220) = false ∧ (x.op == 215) = false ∧ x.op % 8 = 5)) (hM0 : whatM x = jumpsM x) : Calls Try.prog 50 #[x.val] w (WhatAnd w (whatM x)) := by
  have HG := Lib.hid hG0
  have HM := Lib.hid hM0
  clear hG0 hM0
  obtain ⟨f0, f1, f2, f3, f4⟩ := box_two x w What.zero.obj
  obtain ⟨z0, z1, z2, z3, z4, z5⟩ := box44 (W := (w.alloc x.obj).alloc What.zero.obj) (g := w.heap.size + 1) (B := w.heap.size + 2) What.zero (by omega) (heap_two_new _ _ _)
  have hfz := thaw44 (W := (w.alloc x.obj).alloc What.zero.obj) (g := w.heap.size + 1) (B := w.heap.size + 2) What.zero (by omega) (heap_two_new _ _ _)
  have hsz := size_two w x.obj What.zero.obj
  have hb := below_two w x.obj What.zero.obj
  simp only [What.zero] at f0 f1 f2 f3 f4 z0 z1 z2 z3 z4 z5 hfz hsz hb
  have cclass := fun w => class_is x hx w
  have ccall := fun w => jumps_any x hx w
  obtain ⟨h1, h2, h3, h4, h5, h6, hc⟩ := HG.out
  go_enter Try.func50, Try.ntmps50
  go_wp2_with fail
  refine (cclass _).mono ?_
  rintro e w0 ⟨rfl, rfl⟩
  go_wp2_with fail
  refine (ccall _).mono ?_
  rintro e w1 ⟨rfl, hb1⟩
  generalize hW : (w.alloc _).alloc _ = W at *
  replace hb1 := (sbelow_alloc (o := x.obj) (Below.refl (w.heap.size + 2) W) (by omega)).trans (hb1.mono (by simp; omega))
  have hr := HM.out
  generalize jumpsM x = r at *
  obtain ⟨⟨r0, r1, r2, r3, r4, r5⟩, rb⟩ := r
  simp only at *
  have y0 := hfz 0 w1 hb1
  have y1 := hfz 1 w1 hb1
  have y2 := hfz 2 w1 hb1
  have y3 := hfz 3 w1 hb1
  have y4 := hfz 4 w1 hb1
  have y5 := hfz 5 w1 hb1
  replace hb := hb.trans (hb1.mono (Nat.le_add_right _ 2))
  go_wp2_with fail
  rw [hr]
  refine bodyPost_ret (v := .tuple #[.agg #[_, _, _, _, _, _], .bool _]) ?_ rfl ⟨rfl, ?_⟩
  · simp [results, Try.results50, go_sem, *]
  · (with_reducible repeat (first | assumption | refine Below.setCell ?_ (Nat.le_succ _) _ | refine sbelow_drew ?_ | refine sbelow_drewN ?_ | refine sbelow_alloc ?_ (Nat.le_refl _)))

set_option maxHeartbeats 16000000 in
theorem what_F6 (x : Insn) (hx : x.Ok) (w : World) (hG0 : (¬ 10 < x.dst ∧ ¬ 10 < x.src ∧ (x.op == 24) = false ∧ (x.op == 212) = false ∧ (x.op == 220) = false ∧ (x.op == 215) = false ∧ x.op % 8 = 6)) (hM0 : whatM x = jumpsM x) : Calls Try.prog 50 #[x.val] w (WhatAnd w (whatM x)) := by
  have HG := Lib.hid hG0
  have HM := Lib.hid hM0
  clear hG0 hM0
  obtain ⟨f0, f1, f2, f3, f4⟩ := box_two x w What.zero.obj
  obtain ⟨z0, z1, z2, z3, z4, z5⟩ := box44 (W := (w.alloc x.obj).alloc What.zero.obj) (g := w.heap.size + 1) (B := w.heap.size + 2) What.zero (by omega) (heap_two_new _ _ _)
  have hfz := thaw44 (W := (w.alloc x.obj).alloc What.zero.obj) (g := w.heap.size + 1) (B := w.heap.size + 2) What.zero (by omega) (heap_two_new _ _ _)
  have hsz := size_two w x.obj What.zero.obj
  have hb := below_two w x.obj What.zero.obj
  simp only [What.zero] at f0 f1 f2 f3 f4 z0 z1 z2 z3 z4 z5 hfz hsz hb
  have cclass := fun w => class_is x hx w
  have ccall := fun w => jumps_any x hx w
  obtain ⟨h1, h2, h3, h4, h5, h6, hc⟩ := HG.out
  go_enter Try.func50, Try.ntmps50
  go_wp2_with fail
  refine (cclass _).mono ?_
  rintro e w0 ⟨rfl, rfl⟩
  go_wp2_with fail
  refine (ccall _).mono ?_
  rintro e w1 ⟨rfl, hb1⟩
  generalize hW : (w.alloc _).alloc _ = W at *
  replace hb1 := (sbelow_alloc (o := x.obj) (Below.refl (w.heap.size + 2) W) (by omega)).trans (hb1.mono (by simp; omega))
  have hr := HM.out
  generalize jumpsM x = r at *
  obtain ⟨⟨r0, r1, r2, r3, r4, r5⟩, rb⟩ := r
  simp only at *
  have y0 := hfz 0 w1 hb1
  have y1 := hfz 1 w1 hb1
  have y2 := hfz 2 w1 hb1
  have y3 := hfz 3 w1 hb1
  have y4 := hfz 4 w1 hb1
  have y5 := hfz 5 w1 hb1
  replace hb := hb.trans (hb1.mono (Nat.le_add_right _ 2))
  go_wp2_with fail
  rw [hr]
  refine bodyPost_ret (v := .tuple #[.agg #[_, _, _, _, _, _], .bool _]) ?_ rfl ⟨rfl, ?_⟩
  · simp [results, Try.results50, go_sem, *]
  · (with_reducible repeat (first | assumption | refine Below.setCell ?_ (Nat.le_succ _) _ | refine sbelow_drew ?_ | refine sbelow_drewN ?_ | refine sbelow_alloc ?_ (Nat.le_refl _)))

set_option maxHeartbeats 16000000 in
theorem what_G (x : Insn) (hx : x.Ok) (w : World) (hG0 : (¬ 10 < x.dst ∧ ¬ 10 < x.src ∧ (x.op == 24) = false ∧ (x.op == 212) = false ∧ (x.op == 220) = false ∧ (x.op == 215) = false ∧ x.op % 8 = 0)) (hM0 : whatM x = (What.zero, false)) : Calls Try.prog 50 #[x.val] w (WhatAnd w (whatM x)) := by
  have HG := Lib.hid hG0
  have HM := Lib.hid hM0
  clear hG0 hM0
  obtain ⟨f0, f1, f2, f3, f4⟩ := box_two x w What.zero.obj
  obtain ⟨z0, z1, z2, z3, z4, z5⟩ := box44 (W := (w.alloc x.obj).alloc What.zero.obj) (g := w.heap.size + 1) (B := w.heap.size + 2) What.zero (by omega) (heap_two_new _ _ _)
  have hfz := thaw44 (W := (w.alloc x.obj).alloc What.zero.obj) (g := w.heap.size + 1) (B := w.heap.size + 2) What.zero (by omega) (heap_two_new _ _ _)
  have hsz := size_two w x.obj What.zero.obj
  have hb := below_two w x.obj What.zero.obj
  simp only [What.zero] at f0 f1 f2 f3 f4 z0 z1 z2 z3 z4 z5 hfz hsz hb
  have cclass := fun w => class_is x hx w
  obtain ⟨h1, h2, h3, h4, h5, h6, hc⟩ := HG.out
  go_enter Try.func50, Try.ntmps50
  go_wp2_with fail
  refine (cclass _).mono ?_
  rintro e w0 ⟨rfl, rfl⟩
  go_wp2_with fail
  have hr := HM.out
  rw [hr]
  refine bodyPost_ret (v := .tuple #[What.zero.val, .bool false]) ?_ rfl ⟨rfl, ?_⟩
  · simp [results, Try.results50, go_sem, What.zero, *]
  · (with_reducible repeat (first | assumption | refine Below.setCell ?_ (Nat.le_succ _) _ | refine sbelow_drew ?_ | refine sbelow_drewN ?_ | refine sbelow_alloc ?_ (Nat.le_refl _)))

set_option maxHeartbeats 16000000 in
theorem what_H (x : Insn) (hx : x.Ok) (w : World) (hG0 : (¬ 10 < x.dst ∧ ¬ 10 < x.src ∧ (x.op == 24) = false ∧ (x.op == 212) = false ∧ (x.op == 220) = false ∧ (x.op == 215) = false ∧ x.op % 8 ≠ 0 ∧ x.op % 8 ≠ 4 ∧ x.op % 8 ≠ 5 ∧ x.op % 8 ≠ 6 ∧ x.op % 8 ≠ 7)) (hM0 : whatM x = movesM x) : Calls Try.prog 50 #[x.val] w (WhatAnd w (whatM x)) := by
  have HG := Lib.hid hG0
  have HM := Lib.hid hM0
  clear hG0 hM0
  obtain ⟨f0, f1, f2, f3, f4⟩ := box_two x w What.zero.obj
  obtain ⟨z0, z1, z2, z3, z4, z5⟩ := box44 (W := (w.alloc x.obj).alloc What.zero.obj) (g := w.heap.size + 1) (B := w.heap.size + 2) What.zero (by omega) (heap_two_new _ _ _)
  have hfz := thaw44 (W := (w.alloc x.obj).alloc What.zero.obj) (g := w.heap.size + 1) (B := w.heap.size + 2) What.zero (by omega) (heap_two_new _ _ _)
  have hsz := size_two w x.obj What.zero.obj
  have hb := below_two w x.obj What.zero.obj
  simp only [What.zero] at f0 f1 f2 f3 f4 z0 z1 z2 z3 z4 z5 hfz hsz hb
  have cclass := fun w => class_is x hx w
  have ccall := fun w => moves_any x hx w
  obtain ⟨h1, h2, h3, h4, h5, h6, hc0, hc4, hc5, hc6, hc7⟩ := HG.out
  go_enter Try.func50, Try.ntmps50
  go_wp2_with fail
  refine (cclass _).mono ?_
  rintro e w0 ⟨rfl, rfl⟩
  go_wp2_with fail
  refine (ccall _).mono ?_
  rintro e w1 ⟨rfl, hb1⟩
  generalize hW : (w.alloc _).alloc _ = W at *
  replace hb1 := (sbelow_alloc (o := x.obj) (Below.refl (w.heap.size + 2) W) (by omega)).trans (hb1.mono (by simp; omega))
  have hr := HM.out
  generalize movesM x = r at *
  obtain ⟨⟨r0, r1, r2, r3, r4, r5⟩, rb⟩ := r
  simp only at *
  have y0 := hfz 0 w1 hb1
  have y1 := hfz 1 w1 hb1
  have y2 := hfz 2 w1 hb1
  have y3 := hfz 3 w1 hb1
  have y4 := hfz 4 w1 hb1
  have y5 := hfz 5 w1 hb1
  replace hb := hb.trans (hb1.mono (Nat.le_add_right _ 2))
  go_wp2_with fail
  rw [hr]
  refine bodyPost_ret (v := .tuple #[.agg #[_, _, _, _, _, _], .bool _]) ?_ rfl ⟨rfl, ?_⟩
  · simp [results, Try.results50, go_sem, *]
  · (with_reducible repeat (first | assumption | refine Below.setCell ?_ (Nat.le_succ _) _ | refine sbelow_drew ?_ | refine sbelow_drewN ?_ | refine sbelow_alloc ?_ (Nat.le_refl _)))
end Go.Proofs.Ytncogaikiceidaa
end

section
/- What an instruction does, by the program. No statement is proved here. -/
namespace Go.Proofs.Ytncogaikiceidaa
set_option maxRecDepth 100000
open Go.RowKit
set_option linter.unusedSimpArgs false
set_option linter.unusedVariables false
theorem what_any (x : Insn) (hx : x.Ok) (w : World) : Calls Try.prog 50 #[x.val] w (WhatAnd w (whatM x)) := by
  have h0 := hx.op0
  have h1 := hx.op1
  by_cases hA : 10 < x.dst
  · exact what_A x hx w hA (by simp [whatM, hA])
  by_cases hB : 10 < x.src
  · exact what_B x hx w ⟨hA, hB⟩ (by simp [whatM, hB])
  have hd : ¬ (10 < x.dst ∨ 10 < x.src) := by omega
  cases h24 : (x.op == 24)
  · have n24 : ¬ x.op = 24 := by simpa using h24
    cases h212 : (x.op == 212)
    · have n212 : ¬ x.op = 212 := by simpa using h212
      cases h220 : (x.op == 220)
      · have n220 : ¬ x.op = 220 := by simpa using h220
        cases h215 : (x.op == 215)
        · have n215 : ¬ x.op = 215 := by simpa using h215
          have hn : ¬ (x.op = 212 ∨ x.op = 220 ∨ x.op = 215) := by omega
          have e : whatM x = if x.op % 8 = 4 ∨ x.op % 8 = 7 then arithM x else if x.op % 8 = 5 ∨ x.op % 8 = 6 then jumpsM x else if x.op % 8 = 0 then (What.zero, false) else movesM x := by
            unfold whatM
            rw [if_neg hd, if_neg n24, if_neg hn]
          by_cases c4 : x.op % 8 = 4
          · exact what_E4 x hx w ⟨hA, hB, h24, h212, h220, h215, c4⟩ (by rw [e, if_pos (.inl c4)])
          by_cases c7 : x.op % 8 = 7
          · exact what_E7 x hx w ⟨hA, hB, h24, h212, h220, h215, c7⟩ (by rw [e, if_pos (.inr c7)])
          by_cases c5 : x.op % 8 = 5
          · exact what_F5 x hx w ⟨hA, hB, h24, h212, h220, h215, c5⟩ (by rw [e, if_neg (by omega), if_pos (.inl c5)])
          by_cases c6 : x.op % 8 = 6
          · exact what_F6 x hx w ⟨hA, hB, h24, h212, h220, h215, c6⟩ (by rw [e, if_neg (by omega), if_pos (.inr c6)])
          by_cases c0 : x.op % 8 = 0
          · exact what_G x hx w ⟨hA, hB, h24, h212, h220, h215, c0⟩ (by rw [e, if_neg (by omega), if_neg (by omega), if_pos c0])
          · exact what_H x hx w ⟨hA, hB, h24, h212, h220, h215, c0, c4, c5, c6, c7⟩ (by rw [e, if_neg (by omega), if_neg (by omega), if_neg c0])
        · have n215 : x.op = 215 := by simpa using h215
          exact what_D3 x hx w ⟨hA, hB, h24, h212, h220, h215⟩ (by unfold whatM; rw [if_neg hd, if_neg n24, if_pos (by omega)])
      · have n220 : x.op = 220 := by simpa using h220
        exact what_D2 x hx w ⟨hA, hB, h24, h212, h220⟩ (by unfold whatM; rw [if_neg hd, if_neg n24, if_pos (by omega)])
    · have n212 : x.op = 212 := by simpa using h212
      exact what_D1 x hx w ⟨hA, hB, h24, h212⟩ (by unfold whatM; rw [if_neg hd, if_neg n24, if_pos (by omega)])
  · have n24 : x.op = 24 := by simpa using h24
    exact what_C x hx w ⟨hA, hB, h24⟩ (by unfold whatM; rw [if_neg hd, if_pos n24])
set_option maxHeartbeats 16000000 in
theorem sem_any (x : Insn) (hx : x.Ok) (w : World) : Calls Try.prog 26 #[x.val] w (WhatAnd w (sem x)) := by
  obtain ⟨f0, f1, f2, f3, f4⟩ := box_two x w What.zero.obj
  obtain ⟨z0, z1, z2, z3, z4, z5⟩ := box44 (W := (w.alloc x.obj).alloc What.zero.obj) (g := w.heap.size + 1) (B := w.heap.size + 2) What.zero (by omega) (heap_two_new _ _ _)
  have hfz := thaw44 (W := (w.alloc x.obj).alloc What.zero.obj) (g := w.heap.size + 1) (B := w.heap.size + 2) What.zero (by omega) (heap_two_new _ _ _)
  have hsz := size_two w x.obj What.zero.obj
  have hb := below_two w x.obj What.zero.obj
  simp only [What.zero] at f0 f1 f2 f3 f4 z0 z1 z2 z3 z4 z5 hfz hsz hb
  have ccall := fun w => what_any x hx w
  go_enter Try.func26, Try.ntmps26
  go_wp2_with fail
  refine (ccall _).mono ?_
  rintro e w1 ⟨rfl, hb1⟩
  generalize hW : (w.alloc _).alloc _ = W at *
  rw [hsz] at hb1
  have hr : sem x = norm (whatM x) := rfl
  generalize whatM x = r at *
  obtain ⟨⟨r0, r1, r2, r3, r4, r5⟩, rb⟩ := r
  simp only at *
  have y0 := hfz 0 w1 hb1
  have y1 := hfz 1 w1 hb1
  have y2 := hfz 2 w1 hb1
  have y3 := hfz 3 w1 hb1
  have y4 := hfz 4 w1 hb1
  have y5 := hfz 5 w1 hb1
  have hs1 : w.heap.size + 1 < w1.heap.size := by have := hb1.size; omega
  replace hb := hb.trans (hb1.mono (Nat.le_add_right _ 2))
  cases rb
  · go_wp2_with fail
    rw [hr]
    refine bodyPost_ret (v := .tuple #[What.zero.val, .bool false]) ?_ rfl ⟨rfl, ?_⟩
    · simp [results, Try.results26, go_sem, What.zero, *]
    · (with_reducible repeat (first | assumption | refine Below.setCell ?_ (Nat.le_succ _) _ | refine sbelow_drew ?_ | refine sbelow_drewN ?_ | refine sbelow_alloc ?_ (Nat.le_refl _)))
  · go_wp2_with fail
    rw [hr]
    refine bodyPost_ret (v := .tuple #[.agg #[_, _, _, _, _, _], .bool true]) ?_ rfl ⟨rfl, ?_⟩
    · simp [results, Try.results26, go_sem, norm, *]
    · (with_reducible repeat (first | assumption | refine Below.setCell ?_ (Nat.le_succ _) _ | refine sbelow_drew ?_ | refine sbelow_drewN ?_ | refine sbelow_alloc ?_ (Nat.le_refl _)))
end Go.Proofs.Ytncogaikiceidaa
end
end
