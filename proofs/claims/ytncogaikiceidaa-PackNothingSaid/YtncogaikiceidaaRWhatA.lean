/- What an instruction does, by the reference: some ways. No statement is proved here. -/
import Derived.Test.YtncogaikiceidaaROther
import Derived.Test.YtncogaikiceidaaRArith
import Derived.Test.YtncogaikiceidaaRMem
namespace Go.Proofs.Ytncogaikiceidaa
set_option maxRecDepth 100000
open Go.RowKit
set_option linter.unusedSimpArgs false
set_option linter.unusedVariables false
set_option linter.unnecessarySimpa false
attribute [local go_sem ↓] Go.wp_at_zero Go.wp_at_succ
set_option maxHeartbeats 16000000 in
theorem rwhat_A (x : Insn) (hx : x.Ok) (w : World) (hG0 : (10 < x.dst)) (hM0 : rwhatM x = (What.zero, false)) : Calls Try.prog 19 #[x.val] w (WhatAnd w (rwhatM x)) := by
  have HG := Lib.hid hG0
  have HM := Lib.hid hM0
  clear hG0 hM0
  obtain ⟨p1, p2, -, -, -, -, -, -, -, -⟩ := id hx
  obtain ⟨f0, f1, f2, f3, f4⟩ := box_two x w What.zero.obj
  obtain ⟨z0, z1, z2, z3, z4, z5⟩ := box44 (W := (w.alloc x.obj).alloc What.zero.obj) (g := w.heap.size + 1) (B := w.heap.size + 2) What.zero (by omega) (heap_two_new _ _ _)
  have hfz := thaw44 (W := (w.alloc x.obj).alloc What.zero.obj) (g := w.heap.size + 1) (B := w.heap.size + 2) What.zero (by omega) (heap_two_new _ _ _)
  have hsz := size_two w x.obj What.zero.obj
  have hb := below_two w x.obj What.zero.obj
  simp only [What.zero] at f0 f1 f2 f3 f4 z0 z1 z2 z3 z4 z5 hfz hsz hb
  have h1 := HG.out
  go_enter Try.func19, Try.ntmps19
  go_wp2_with fail
  rw [HM.out]
  refine bodyPost_ret (v := .tuple #[What.zero.val, .bool false]) ?_ rfl ⟨rfl, ?_⟩
  · simp [results, Try.results19, go_sem, What.zero, *]
  · (with_reducible repeat (first | assumption | refine Below.setCell ?_ (Nat.le_succ _) _ | refine sbelow_drew ?_ | refine sbelow_drewN ?_ | refine sbelow_alloc ?_ (Nat.le_refl _)))

set_option maxHeartbeats 16000000 in
theorem rwhat_B (x : Insn) (hx : x.Ok) (w : World) (hG0 : (¬ 10 < x.dst ∧ 10 < x.src)) (hM0 : rwhatM x = (What.zero, false)) : Calls Try.prog 19 #[x.val] w (WhatAnd w (rwhatM x)) := by
  have HG := Lib.hid hG0
  have HM := Lib.hid hM0
  clear hG0 hM0
  obtain ⟨p1, p2, -, -, -, -, -, -, -, -⟩ := id hx
  obtain ⟨f0, f1, f2, f3, f4⟩ := box_two x w What.zero.obj
  obtain ⟨z0, z1, z2, z3, z4, z5⟩ := box44 (W := (w.alloc x.obj).alloc What.zero.obj) (g := w.heap.size + 1) (B := w.heap.size + 2) What.zero (by omega) (heap_two_new _ _ _)
  have hfz := thaw44 (W := (w.alloc x.obj).alloc What.zero.obj) (g := w.heap.size + 1) (B := w.heap.size + 2) What.zero (by omega) (heap_two_new _ _ _)
  have hsz := size_two w x.obj What.zero.obj
  have hb := below_two w x.obj What.zero.obj
  simp only [What.zero] at f0 f1 f2 f3 f4 z0 z1 z2 z3 z4 z5 hfz hsz hb
  obtain ⟨h1, h2⟩ := HG.out
  go_enter Try.func19, Try.ntmps19
  go_wp2_with fail
  rw [HM.out]
  refine bodyPost_ret (v := .tuple #[What.zero.val, .bool false]) ?_ rfl ⟨rfl, ?_⟩
  · simp [results, Try.results19, go_sem, What.zero, *]
  · (with_reducible repeat (first | assumption | refine Below.setCell ?_ (Nat.le_succ _) _ | refine sbelow_drew ?_ | refine sbelow_drewN ?_ | refine sbelow_alloc ?_ (Nat.le_refl _)))

set_option maxHeartbeats 16000000 in
theorem rwhat_C (x : Insn) (hx : x.Ok) (w : World) (hG0 : (¬ 10 < x.dst ∧ ¬ 10 < x.src ∧ List.contains [212, 220, 215, 24, 5, 6, 133, 149] x.op = true)) (hM0 : rwhatM x = rotherM x) : Calls Try.prog 19 #[x.val] w (WhatAnd w (rwhatM x)) := by
  have HG := Lib.hid hG0
  have HM := Lib.hid hM0
  clear hG0 hM0
  obtain ⟨p1, p2, -, -, -, -, -, -, -, -⟩ := id hx
  obtain ⟨f0, f1, f2, f3, f4⟩ := box_two x w What.zero.obj
  obtain ⟨z0, z1, z2, z3, z4, z5⟩ := box44 (W := (w.alloc x.obj).alloc What.zero.obj) (g := w.heap.size + 1) (B := w.heap.size + 2) What.zero (by omega) (heap_two_new _ _ _)
  have hfz := thaw44 (W := (w.alloc x.obj).alloc What.zero.obj) (g := w.heap.size + 1) (B := w.heap.size + 2) What.zero (by omega) (heap_two_new _ _ _)
  have hsz := size_two w x.obj What.zero.obj
  have hb := below_two w x.obj What.zero.obj
  simp only [What.zero] at f0 f1 f2 f3 f4 z0 z1 z2 z3 z4 z5 hfz hsz hb
  obtain ⟨h1, h2, hkb⟩ := HG.out
  have ccall := fun w => rother_any x hx hkb w
  go_enter Try.func19, Try.ntmps19
  go_upto_region 3 with fail
  generalize hW : World.alloc _ _ = W at *
  have hB : Below (w.heap.size + 2) W W := Below.refl _ _
  have hge : w.heap.size + 2 ≤ W.heap.size := by omega
  clear hW hsz
  have hin := in_is [212, 220, 215, 24, 5, 6, 133, 149] x.op (some ⟨W.heap.size, 0, none⟩) 8 (by decide) (W.alloc (.cells #[.int .u8 212, .int .u8 220, .int .u8 215, .int .u8 24, .int .u8 5, .int .u8 6, .int .u8 133, .int .u8 149] 5)) ((sat_new W 5 #[.int .u8 212, .int .u8 220, .int .u8 215, .int .u8 24, .int .u8 5, .int .u8 6, .int .u8 133, .int .u8 149] 1 8 rfl).more (by simp))
  rw [hkb] at hin
  have hBV := hB.alloc hge (.cells #[.int .u8 212, .int .u8 220, .int .u8 215, .int .u8 24, .int .u8 5, .int .u8 6, .int .u8 133, .int .u8 149] 5)
  have hbV := hb.alloc hb.size (.cells #[.int .u8 212, .int .u8 220, .int .u8 215, .int .u8 24, .int .u8 5, .int .u8 6, .int .u8 133, .int .u8 149] 5)
  go_wp2_with fail
  refine Calls.mono hin ?_
  rintro e V ⟨rfl, hV⟩
  rw [← hV] at hBV hbV
  clear hV hin hB
  have hgeV := hBV.size
  go_wp2_with fail
  refine (ccall _).mono ?_
  rintro e w1 ⟨rfl, hb1⟩
  have hr := HM.out
  generalize rotherM x = r at *
  obtain ⟨⟨r0, r1, r2, r3, r4, r5⟩, rb⟩ := r
  simp only at *
  have hB1 := hBV.trans (hb1.mono (by omega))
  have hfin := hbV.trans (hb1.mono hbV.size)
  have y0 := hfz 0 w1 hB1
  have y1 := hfz 1 w1 hB1
  have y2 := hfz 2 w1 hB1
  have y3 := hfz 3 w1 hB1
  have y4 := hfz 4 w1 hB1
  have y5 := hfz 5 w1 hB1
  go_wp2_with fail
  rw [hr]
  refine bodyPost_ret (v := .tuple #[.agg #[_, _, _, _, _, _], .bool _]) ?_ rfl ⟨rfl, ?_⟩
  · simp [results, Try.results19, go_sem, *]
  · (with_reducible repeat (first | assumption | refine Below.setCell ?_ (Nat.le_succ _) _ | refine sbelow_drew ?_ | refine sbelow_drewN ?_ | refine sbelow_alloc ?_ (Nat.le_refl _)))

set_option maxHeartbeats 16000000 in
theorem rwhat_E4 (x : Insn) (hx : x.Ok) (w : World) (hG0 : (¬ 10 < x.dst ∧ ¬ 10 < x.src ∧ List.contains [212, 220, 215, 24, 5, 6, 133, 149] x.op = false ∧ x.op % 8 = 4)) (hM0 : rwhatM x = rarithM x) : Calls Try.prog 19 #[x.val] w (WhatAnd w (rwhatM x)) := by
  have HG := Lib.hid hG0
  have HM := Lib.hid hM0
  clear hG0 hM0
  obtain ⟨p1, p2, -, -, -, -, -, -, -, -⟩ := id hx
  obtain ⟨f0, f1, f2, f3, f4⟩ := box_two x w What.zero.obj
  obtain ⟨z0, z1, z2, z3, z4, z5⟩ := box44 (W := (w.alloc x.obj).alloc What.zero.obj) (g := w.heap.size + 1) (B := w.heap.size + 2) What.zero (by omega) (heap_two_new _ _ _)
  have hfz := thaw44 (W := (w.alloc x.obj).alloc What.zero.obj) (g := w.heap.size + 1) (B := w.heap.size + 2) What.zero (by omega) (heap_two_new _ _ _)
  have hsz := size_two w x.obj What.zero.obj
  have hb := below_two w x.obj What.zero.obj
  simp only [What.zero] at f0 f1 f2 f3 f4 z0 z1 z2 z3 z4 z5 hfz hsz hb
  obtain ⟨h1, h2, hkb, hc⟩ := HG.out
  have ccall := fun w => rarith_any x hx w
  go_enter Try.func19, Try.ntmps19
  go_upto_region 3 with fail
  generalize hW : World.alloc _ _ = W at *
  have hB : Below (w.heap.size + 2) W W := Below.refl _ _
  have hge : w.heap.size + 2 ≤ W.heap.size := by omega
  clear hW hsz
  have hin := in_is [212, 220, 215, 24, 5, 6, 133, 149] x.op (some ⟨W.heap.size, 0, none⟩) 8 (by decide) (W.alloc (.cells #[.int .u8 212, .int .u8 220, .int .u8 215, .int .u8 24, .int .u8 5, .int .u8 6, .int .u8 133, .int .u8 149] 5)) ((sat_new W 5 #[.int .u8 212, .int .u8 220, .int .u8 215, .int .u8 24, .int .u8 5, .int .u8 6, .int .u8 133, .int .u8 149] 1 8 rfl).more (by simp))
  rw [hkb] at hin
  have hBV := hB.alloc hge (.cells #[.int .u8 212, .int .u8 220, .int .u8 215, .int .u8 24, .int .u8 5, .int .u8 6, .int .u8 133, .int .u8 149] 5)
  have hbV := hb.alloc hb.size (.cells #[.int .u8 212, .int .u8 220, .int .u8 215, .int .u8 24, .int .u8 5, .int .u8 6, .int .u8 133, .int .u8 149] 5)
  go_wp2_with fail
  refine Calls.mono hin ?_
  rintro e V ⟨rfl, hV⟩
  rw [← hV] at hBV hbV
  clear hV hin hB
  have hgeV := hBV.size
  go_wp2_with fail
  refine (ccall _).mono ?_
  rintro e w1 ⟨rfl, hb1⟩
  have hr := HM.out
  generalize rarithM x = r at *
  obtain ⟨⟨r0, r1, r2, r3, r4, r5⟩, rb⟩ := r
  simp only at *
  have hB1 := hBV.trans (hb1.mono (by omega))
  have hfin := hbV.trans (hb1.mono hbV.size)
  have y0 := hfz 0 w1 hB1
  have y1 := hfz 1 w1 hB1
  have y2 := hfz 2 w1 hB1
  have y3 := hfz 3 w1 hB1
  have y4 := hfz 4 w1 hB1
  have y5 := hfz 5 w1 hB1
  go_wp2_with fail
  rw [hr]
  refine bodyPost_ret (v := .tuple #[.agg #[_, _, _, _, _, _], .bool _]) ?_ rfl ⟨rfl, ?_⟩
  · simp [results, Try.results19, go_sem, *]
  · (with_reducible repeat (first | assumption | refine Below.setCell ?_ (Nat.le_succ _) _ | refine sbelow_drew ?_ | refine sbelow_drewN ?_ | refine sbelow_alloc ?_ (Nat.le_refl _)))

set_option maxHeartbeats 16000000 in
theorem rwhat_E7 (x : Insn) (hx : x.Ok) (w : World) (hG0 : (¬ 10 < x.dst ∧ ¬ 10 < x.src ∧ List.contains [212, 220, 215, 24, 5, 6, 133, 149] x.op = false ∧ x.op % 8 = 7)) (hM0 : rwhatM x = rarithM x) : Calls Try.prog 19 #[x.val] w (WhatAnd w (rwhatM x)) := by
  have HG := Lib.hid hG0
  have HM := Lib.hid hM0
  clear hG0 hM0
  obtain ⟨p1, p2, -, -, -, -, -, -, -, -⟩ := id hx
  obtain ⟨f0, f1, f2, f3, f4⟩ := box_two x w What.zero.obj
  obtain ⟨z0, z1, z2, z3, z4, z5⟩ := box44 (W := (w.alloc x.obj).alloc What.zero.obj) (g := w.heap.size + 1) (B := w.heap.size + 2) What.zero (by omega) (heap_two_new _ _ _)
  have hfz := thaw44 (W := (w.alloc x.obj).alloc What.zero.obj) (g := w.heap.size + 1) (B := w.heap.size + 2) What.zero (by omega) (heap_two_new _ _ _)
  have hsz := size_two w x.obj What.zero.obj
  have hb := below_two w x.obj What.zero.obj
  simp only [What.zero] at f0 f1 f2 f3 f4 z0 z1 z2 z3 z4 z5 hfz hsz hb
  obtain ⟨h1, h2, hkb, hc⟩ := HG.out
  have ccall := fun w => rarith_any x hx w
  go_enter Try.func19, Try.ntmps19
  go_upto_region 3 with fail
  generalize hW : World.alloc _ _ = W at *
  have hB : Below (w.heap.size + 2) W W := Below.refl _ _
  have hge : w.heap.size + 2 ≤ W.heap.size := by omega
  clear hW hsz
  have hin := in_is [212, 220, 215, 24, 5, 6, 133, 149] x.op (some ⟨W.heap.size, 0, none⟩) 8 (by decide) (W.alloc (.cells #[.int .u8 212, .int .u8 220, .int .u8 215, .int .u8 24, .int .u8 5, .int .u8 6, .int .u8 133, .int .u8 149] 5)) ((sat_new W 5 #[.int .u8 212, .int .u8 220, .int .u8 215, .int .u8 24, .int .u8 5, .int .u8 6, .int .u8 133, .int .u8 149] 1 8 rfl).more (by simp))
  rw [hkb] at hin
  have hBV := hB.alloc hge (.cells #[.int .u8 212, .int .u8 220, .int .u8 215, .int .u8 24, .int .u8 5, .int .u8 6, .int .u8 133, .int .u8 149] 5)
  have hbV := hb.alloc hb.size (.cells #[.int .u8 212, .int .u8 220, .int .u8 215, .int .u8 24, .int .u8 5, .int .u8 6, .int .u8 133, .int .u8 149] 5)
  go_wp2_with fail
  refine Calls.mono hin ?_
  rintro e V ⟨rfl, hV⟩
  rw [← hV] at hBV hbV
  clear hV hin hB
  have hgeV := hBV.size
  go_wp2_with fail
  refine (ccall _).mono ?_
  rintro e w1 ⟨rfl, hb1⟩
  have hr := HM.out
  generalize rarithM x = r at *
  obtain ⟨⟨r0, r1, r2, r3, r4, r5⟩, rb⟩ := r
  simp only at *
  have hB1 := hBV.trans (hb1.mono (by omega))
  have hfin := hbV.trans (hb1.mono hbV.size)
  have y0 := hfz 0 w1 hB1
  have y1 := hfz 1 w1 hB1
  have y2 := hfz 2 w1 hB1
  have y3 := hfz 3 w1 hB1
  have y4 := hfz 4 w1 hB1
  have y5 := hfz 5 w1 hB1
  go_wp2_with fail
  rw [hr]
  refine bodyPost_ret (v := .tuple #[.agg #[_, _, _, _, _, _], .bool _]) ?_ rfl ⟨rfl, ?_⟩
  · simp [results, Try.results19, go_sem, *]
  · (with_reducible repeat (first | assumption | refine Below.setCell ?_ (Nat.le_succ _) _ | refine sbelow_drew ?_ | refine sbelow_drewN ?_ | refine sbelow_alloc ?_ (Nat.le_refl _)))

set_option maxHeartbeats 16000000 in
theorem rwhat_H (x : Insn) (hx : x.Ok) (w : World) (hG0 : (¬ 10 < x.dst ∧ ¬ 10 < x.src ∧ List.contains [212, 220, 215, 24, 5, 6, 133, 149] x.op = false ∧ x.op % 8 ≠ 4 ∧ x.op % 8 ≠ 5 ∧ x.op % 8 ≠ 6 ∧ x.op % 8 ≠ 7)) (hM0 : rwhatM x = rmemoryM x) : Calls Try.prog 19 #[x.val] w (WhatAnd w (rwhatM x)) := by
  have HG := Lib.hid hG0
  have HM := Lib.hid hM0
  clear hG0 hM0
  obtain ⟨p1, p2, -, -, -, -, -, -, -, -⟩ := id hx
  obtain ⟨f0, f1, f2, f3, f4⟩ := box_two x w What.zero.obj
  obtain ⟨z0, z1, z2, z3, z4, z5⟩ := box44 (W := (w.alloc x.obj).alloc What.zero.obj) (g := w.heap.size + 1) (B := w.heap.size + 2) What.zero (by omega) (heap_two_new _ _ _)
  have hfz := thaw44 (W := (w.alloc x.obj).alloc What.zero.obj) (g := w.heap.size + 1) (B := w.heap.size + 2) What.zero (by omega) (heap_two_new _ _ _)
  have hsz := size_two w x.obj What.zero.obj
  have hb := below_two w x.obj What.zero.obj
  simp only [What.zero] at f0 f1 f2 f3 f4 z0 z1 z2 z3 z4 z5 hfz hsz hb
  obtain ⟨h1, h2, hkb, n4, n5, n6, n7⟩ := HG.out
  have ccall := fun w => rmemory_any x hx w
  go_enter Try.func19, Try.ntmps19
  go_upto_region 3 with fail
  generalize hW : World.alloc _ _ = W at *
  have hB : Below (w.heap.size + 2) W W := Below.refl _ _
  have hge : w.heap.size + 2 ≤ W.heap.size := by omega
  clear hW hsz
  have hin := in_is [212, 220, 215, 24, 5, 6, 133, 149] x.op (some ⟨W.heap.size, 0, none⟩) 8 (by decide) (W.alloc (.cells #[.int .u8 212, .int .u8 220, .int .u8 215, .int .u8 24, .int .u8 5, .int .u8 6, .int .u8 133, .int .u8 149] 5)) ((sat_new W 5 #[.int .u8 212, .int .u8 220, .int .u8 215, .int .u8 24, .int .u8 5, .int .u8 6, .int .u8 133, .int .u8 149] 1 8 rfl).more (by simp))
  rw [hkb] at hin
  have hBV := hB.alloc hge (.cells #[.int .u8 212, .int .u8 220, .int .u8 215, .int .u8 24, .int .u8 5, .int .u8 6, .int .u8 133, .int .u8 149] 5)
  have hbV := hb.alloc hb.size (.cells #[.int .u8 212, .int .u8 220, .int .u8 215, .int .u8 24, .int .u8 5, .int .u8 6, .int .u8 133, .int .u8 149] 5)
  go_wp2_with fail
  refine Calls.mono hin ?_
  rintro e V ⟨rfl, hV⟩
  rw [← hV] at hBV hbV
  clear hV hin hB
  have hgeV := hBV.size
  go_wp2_with fail
  refine (ccall _).mono ?_
  rintro e w1 ⟨rfl, hb1⟩
  have hr := HM.out
  generalize rmemoryM x = r at *
  obtain ⟨⟨r0, r1, r2, r3, r4, r5⟩, rb⟩ := r
  simp only at *
  have hB1 := hBV.trans (hb1.mono (by omega))
  have hfin := hbV.trans (hb1.mono hbV.size)
  have y0 := hfz 0 w1 hB1
  have y1 := hfz 1 w1 hB1
  have y2 := hfz 2 w1 hB1
  have y3 := hfz 3 w1 hB1
  have y4 := hfz 4 w1 hB1
  have y5 := hfz 5 w1 hB1
  go_wp2_with fail
  rw [hr]
  refine bodyPost_ret (v := .tuple #[.agg #[_, _, _, _, _, _], .bool _]) ?_ rfl ⟨rfl, ?_⟩
  · simp [results, Try.results19, go_sem, *]
  · (with_reducible repeat (first | assumption | refine Below.setCell ?_ (Nat.le_succ _) _ | refine sbelow_drew ?_ | refine sbelow_drewN ?_ | refine sbelow_alloc ?_ (Nat.le_refl _)))
end Go.Proofs.Ytncogaikiceidaa
