/- What an instruction does, by the reference. No statement is proved here. -/
import Derived.Test.YtncogaikiceidaaGreatRWhatA
import Derived.Test.YtncogaikiceidaaGreatRWhatB
import Derived.Test.YtncogaikiceidaaGreatRWhatC
import Derived.Test.YtncogaikiceidaaGreatRWhatD
namespace Go.Proofs.YtncogaikiceidaaGreat
open Go.RowKit
set_option linter.unusedSimpArgs false
set_option linter.unusedVariables false
set_option linter.unnecessarySimpa false
theorem rwhat_any (x : Insn) (hx : x.Ok) (w : World) : Calls Tryz.prog 29 #[x.val] w (WhatAnd w (rwhatM x)) := by
  by_cases hA : 10 < x.dst
  · exact rwhat_A x hx w hA (by unfold rwhatM; rw [if_pos (.inl hA)])
  by_cases hB : 10 < x.src
  · exact rwhat_B x hx w ⟨hA, hB⟩ (by unfold rwhatM; rw [if_pos (.inr hB)])
  have hd : ¬ (10 < x.dst ∨ 10 < x.src) := by omega
  cases hk : List.contains [212, 220, 215, 24, 5, 6, 133, 149] x.op
  · have e : rwhatM x = if x.op % 8 = 4 ∨ x.op % 8 = 7 then rarithM x
      else if x.op % 8 = 5 ∨ x.op % 8 = 6 then (⟨10, x.op / 16 * 16, x.op % 8 == 5, regB x, false, 0⟩, [16, 32, 48, 64, 80, 96, 112, 160, 176, 192, 208].contains (x.op / 16 * 16) && onlyB x (regB x) true (!regB x))
      else rmemoryM x := by
      unfold rwhatM
      rw [if_neg hd, if_neg (by rw [hk]; decide)]
    by_cases c4 : x.op % 8 = 4
    · exact rwhat_E4 x hx w ⟨hA, hB, hk, c4⟩ (by rw [e, if_pos (.inl c4)])
    by_cases c7 : x.op % 8 = 7
    · exact rwhat_E7 x hx w ⟨hA, hB, hk, c7⟩ (by rw [e, if_pos (.inr c7)])
    by_cases c5 : x.op % 8 = 5
    · cases h2 : List.contains [16, 32, 48, 64, 80, 96, 112, 160, 176, 192, 208] (x.op / 16 * 16)
      · exact rwhat_n5 x hx w ⟨hA, hB, hk, c5, h2⟩ (by rw [e, if_neg (by omega), if_pos (.inl c5), h2]; rfl)
      · exact rwhat_y5 x hx w ⟨hA, hB, hk, c5, h2⟩ (by rw [e, if_neg (by omega), if_pos (.inl c5), h2]; rfl)
    by_cases c6 : x.op % 8 = 6
    · cases h2 : List.contains [16, 32, 48, 64, 80, 96, 112, 160, 176, 192, 208] (x.op / 16 * 16)
      · exact rwhat_n6 x hx w ⟨hA, hB, hk, c6, h2⟩ (by rw [e, if_neg (by omega), if_pos (.inr c6), h2]; rfl)
      · exact rwhat_y6 x hx w ⟨hA, hB, hk, c6, h2⟩ (by rw [e, if_neg (by omega), if_pos (.inr c6), h2]; rfl)
    · exact rwhat_H x hx w ⟨hA, hB, hk, c4, c5, c6, c7⟩ (by rw [e, if_neg (by omega), if_neg (by omega)])
  · exact rwhat_C x hx w ⟨hA, hB, hk⟩ (by unfold rwhatM; rw [if_neg hd, if_pos hk])
set_option maxRecDepth 100000 in
set_option maxHeartbeats 16000000 in
theorem rsem_any (x : Insn) (hx : x.Ok) (w : World) : Calls Tryz.prog 11 #[x.val] w (WhatAnd w (sem x)) := by
  obtain ⟨f0, f1, f2, f3, f4⟩ := box_two x w What.zero.obj
  obtain ⟨z0, z1, z2, z3, z4, z5⟩ := box44 (W := (w.alloc x.obj).alloc What.zero.obj) (g := w.heap.size + 1) (B := w.heap.size + 2) What.zero (by omega) (heap_two_new _ _ _)
  have hfz := thaw44 (W := (w.alloc x.obj).alloc What.zero.obj) (g := w.heap.size + 1) (B := w.heap.size + 2) What.zero (by omega) (heap_two_new _ _ _)
  have hsz := size_two w x.obj What.zero.obj
  have hb := below_two w x.obj What.zero.obj
  simp only [What.zero] at f0 f1 f2 f3 f4 z0 z1 z2 z3 z4 z5 hfz hsz hb
  have ccall := fun w => rwhat_any x hx w
  go_enter Tryz.func11, Tryz.ntmps11
  go_wp2_with fail
  refine (ccall _).mono ?_
  rintro e w1 ⟨rfl, hb1⟩
  generalize hW : (w.alloc _).alloc _ = W at *
  rw [hsz] at hb1
  have hr : sem x = norm (rwhatM x) := (sem_ref x hx).symm
  generalize rwhatM x = r at *
  obtain ⟨⟨r0, r1, r2, r3, r4, r5⟩, rb⟩ := r
  simp only at *
  have y0 := hfz 0 w1 hb1
  have y1 := hfz 1 w1 hb1
  have y2 := hfz 2 w1 hb1
  have y3 := hfz 3 w1 hb1
  have y4 := hfz 4 w1 hb1
  have y5 := hfz 5 w1 hb1
  have hs1 : w.heap.size + 1 < w1.heap.size := by have := hb1.size; omega
  replace hb := hb.trans (hb1.mono (Nat.le_add_right _ 2))
  cases rb
  · go_wp2_with fail
    rw [hr]
    refine bodyPost_ret (v := .tuple #[What.zero.val, .bool false]) ?_ rfl ⟨rfl, ?_⟩
    · simp [results, Tryz.results11, go_sem, What.zero, *]
    · (with_reducible repeat (first | assumption | refine Below.setCell ?_ (Nat.le_succ _) _ | refine sbelow_drew ?_ | refine sbelow_drewN ?_ | refine sbelow_alloc ?_ (Nat.le_refl _)))
  · go_wp2_with fail
    rw [hr]
    refine bodyPost_ret (v := .tuple #[.agg #[_, _, _, _, _, _], .bool true]) ?_ rfl ⟨rfl, ?_⟩
    · simp [results, Tryz.results11, go_sem, norm, *]
    · (with_reducible repeat (first | assumption | refine Below.setCell ?_ (Nat.le_succ _) _ | refine sbelow_drew ?_ | refine sbelow_drewN ?_ | refine sbelow_alloc ?_ (Nat.le_refl _)))
end Go.Proofs.YtncogaikiceidaaGreat
