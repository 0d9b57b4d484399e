/- The example of Hop. No statement is proved here. -/
import Derived.Test.YtgbmeckhagklnaaHopC
namespace Go.Proofs.Ytgbmeckhagklnaa
open Go.RowKit
set_option linter.unusedSimpArgs false
set_option linter.unusedVariables false
set_option linter.unnecessarySimpa false
def hopL : List Insn := [⟨21, 0, 0, 1, 0⟩, ⟨5, 0, 0, 1, 0⟩, ⟨5, 0, 0, 1, 0⟩, ⟨183, 0, 0, 0, 0⟩, ⟨149, 0, 0, 0, 0⟩]
theorem hop_edits : editsM hopL = [⟨2, ⟨21, 0, 0, 1, 0⟩, 4⟩, Edit.none, ⟨2, ⟨149, 0, 0, 0, 0⟩, 0⟩, Edit.none, Edit.none] := by decide +kernel
theorem hop_one : followI hopL 1 = 3 := by decide +kernel
theorem hop_two : followI hopL 2 = 4 := by decide +kernel
theorem hopL_ok : ∀ x ∈ hopL, x.Ok := by
  intro x hx
  simp only [hopL, List.mem_cons, List.not_mem_nil, or_false] at hx
  rcases hx with rfl | rfl | rfl | rfl | rfl <;> (refine ⟨?_, ?_, ?_, ?_, ?_, ?_, ?_, ?_, ?_, ?_⟩ <;> decide)
set_option maxRecDepth 100000 in
set_option maxHeartbeats 8000000 in
theorem shown21_any (w : World) : Calls Try.prog 53 #[] w fun e w' => e = .returned (.bool true) ∧ Below w.heap.size w w' := by
  have hsat := sat_new w 24 (insnsV hopL).toArray 5 5 rfl
  have hb0 : Below w.heap.size w (w.alloc (.cells (insnsV hopL).toArray 24)) := (Below.refl _ _).alloc (Nat.le_refl _) _
  have h1 := edits_any hopL hopL_ok (some ⟨w.heap.size, 0, none⟩) 5 (by decide) (w.alloc (.cells (insnsV hopL).toArray 24)) (hsat.more (by simp))
  rw [hop_edits] at h1
  have hf := fun (i : Int) (h0 : -9223372036854775808 ≤ i) (h1 : i ≤ 9223372036854775807) w1 hb => Follow_any hopL hopL_ok (some ⟨w.heap.size, 0, none⟩) 5 (by decide) i h0 h1 w1 ((hsat.more (by simp : w.heap.size + 1 ≤ (w.alloc (.cells (insnsV hopL).toArray 24)).heap.size) |>.below hb).more (Below.size hb))
  obtain ⟨b, o, ho, hbb, d0, d1, d2, d3, d4⟩ := SAt.insn (l := hopL) (hsat.more (by simp : w.heap.size + 1 ≤ (w.alloc (.cells (insnsV hopL).toArray 24)).heap.size)) (k := 0) (by decide)
  simp only [Option.some.injEq, Addr.mk.injEq, and_true] at ho
  obtain ⟨rfl, rfl⟩ := ho
  have e0 : at' hopL 0 = ⟨21, 0, 0, 1, 0⟩ := rfl
  rw [e0] at d0 d1 d2 d3 d4
  have hlen : hopL.length = 5 := rfl
  rw [hlen] at h1
  simp only [hlen] at hf
  simp only [Nat.zero_mul, Nat.zero_add] at d0 d1 d2 d3 d4
  clear hsat hbb
  generalize hW : w.alloc (.cells (insnsV hopL).toArray 24) = W at *
  have HW := Lib.hid hW
  go_enter Try.func53, Try.ntmps53
  go_wp2_with fail
  have hW' : w.alloc (.cells #[.int .u8 21, .int .u8 0, .int .u8 0, .int .i16 1, .int .i32 0, .int .u8 5, .int .u8 0, .int .u8 0, .int .i16 1, .int .i32 0, .int .u8 5, .int .u8 0, .int .u8 0, .int .i16 1, .int .i32 0, .int .u8 183, .int .u8 0, .int .u8 0, .int .i16 0, .int .i32 0, .int .u8 149, .int .u8 0, .int .u8 0, .int .i16 0, .int .i32 0] 24) = W := hW
  rw [hW']
  clear hW hW' HW
  refine h1.mono ?_
  rintro e w2 ⟨A, c, rfl, hs2, hc2, hm2, hb2⟩
  clear h1
  obtain ⟨b, o, rfl, hbb, a0, a1, a2, a3, a4, a5, a6⟩ := hs2.edit (k := 0) (by decide)
  obtain ⟨b', o', ho, hbb', b0, b1, b2, b3, b4, b5, b6⟩ := hs2.edit (k := 1) (by decide)
  simp only [Option.some.injEq, Addr.mk.injEq, and_true] at ho
  obtain ⟨rfl, rfl⟩ := ho
  obtain ⟨b', o', ho, hbb', c0, c1, c2, c3, c4, c5, c6⟩ := hs2.edit (k := 2) (by decide)
  simp only [Option.some.injEq, Addr.mk.injEq, and_true] at ho
  obtain ⟨rfl, rfl⟩ := ho
  clear hs2 hc2 hm2 hbb hbb'
  simp only [edAt, List.getD_cons_zero, List.getD_cons_succ, Edit.none, Insn.zero, List.length_cons, List.length_nil, Nat.zero_mul, Nat.add_zero, Nat.one_mul, Nat.reduceMul, Nat.reduceAdd] at a0 a1 a2 a3 a4 a5 a6 b0 b1 b2 b3 b4 b5 b6 c0 c1 c2 c3 c4 c5 c6 ⊢
  have hbw := hb0.trans (hb2.mono hb0.size)
  have hg := fun (i : Int) (h0 : -9223372036854775808 ≤ i) (h1 : i ≤ 9223372036854775807) w1 (hb : Below w2.heap.size w2 w1) => hf i h0 h1 w1 (hb2.trans (hb.mono hb2.size))
  replace d0 := fun w1 (hb : Below w2.heap.size w2 w1) => d0 w1 (hb2.trans (hb.mono hb2.size))
  replace d1 := fun w1 (hb : Below w2.heap.size w2 w1) => d1 w1 (hb2.trans (hb.mono hb2.size))
  replace d2 := fun w1 (hb : Below w2.heap.size w2 w1) => d2 w1 (hb2.trans (hb.mono hb2.size))
  replace d3 := fun w1 (hb : Below w2.heap.size w2 w1) => d3 w1 (hb2.trans (hb.mono hb2.size))
  replace d4 := fun w1 (hb : Below w2.heap.size w2 w1) => d4 w1 (hb2.trans (hb.mono hb2.size))
  have q0 := eq_edit ⟨2, ⟨21, 0, 0, 1, 0⟩, 4⟩ ⟨2, ⟨21, 0, 0, 1, 0⟩, 4⟩
  have q1 := eq_edit Edit.none Edit.none
  have q2 := eq_edit ⟨2, ⟨149, 0, 0, 0, 0⟩, 0⟩ ⟨2, ⟨149, 0, 0, 0, 0⟩, 0⟩
  simp only [decide_true, Edit.val, Edit.none, Insn.zero] at q0 q1 q2
  clear hf hb2 hb0 e0 hlen
  have hB2 := Below.refl w2.heap.size w2
  go_wp2_with fail
  have v1 := hop_one
  have v2 := hop_two
  go_region_held3 (fun w' => Below w2.heap.size w2 w') (with_reducible repeat (first | assumption | refine sbelow_drew ?_)) (first | (go_at_call 54; refine (hg _ ?_ ?_ _ (by assumption)).mono ?_; decide; decide; rintro e w' ⟨rfl, hb⟩; have hS := below_on (by assumption) (Nat.le_refl _) hb))
  all_goals
    go_wp2_with fail
    go_ret
    refine ⟨rfl, hbw.trans (Below.mono ?_ hbw.size)⟩
    (with_reducible repeat (first | assumption | refine sbelow_drew ?_))
end Go.Proofs.Ytgbmeckhagklnaa
