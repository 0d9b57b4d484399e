/- The example of the document, and the first hundred instructions. No statement is proved here. -/
import Derived.Test.YtncogaikiceidaaGreatLook
namespace Go.Proofs.YtncogaikiceidaaGreat
open Go.RowKit
set_option linter.unusedSimpArgs false
set_option linter.unusedVariables false
set_option linter.unnecessarySimpa false
def Q3 : List Insn := [⟨183, 0, 0, 0, 5⟩, ⟨7, 0, 0, 0, 2⟩]
theorem P3_line : Line P3 Q3 := by
  refine ⟨rfl, ?_, by decide⟩
  intro x hx
  simp only [Q3, List.mem_cons, List.not_mem_nil, or_false] at hx
  rcases hx with rfl | rfl <;> exact ⟨by decide, by decide, by decide, rfl, rfl, by decide, by decide⟩
theorem Q3_goes : Goes Q3 := by
  constructor
  · intro j hj
    have : j = 0 ∨ j = 1 := by have h : j < 2 := hj; omega
    rcases this with rfl | rfl
    · exact .inr ⟨rfl, rfl, .inl rfl⟩
    · exact .inl (show U64 5 from ⟨by decide, by decide⟩)
  · exact ⟨7, rfl⟩
theorem Q3_fin : finV Q3 = [.bool true, .bool false, .bool false, .int .u8 1, .int .u64 5, .int .u64 0, .int .u64 5, .int .u64 5, .int .i64 0, .int .i64 0, .bool true, .bool false, .bool false, .int .u8 1, .int .u64 7, .int .u64 0, .int .u64 7, .int .u64 7, .int .i64 0, .int .i64 0, .bool true, .bool false, .bool false, .int .u8 0, .int .u64 0, .int .u64 0, .int .u64 0, .int .u64 0, .int .i64 0, .int .i64 0] := by rfl
theorem rprogram15 (Ad : Option Addr) (c : Nat) (w : World) (hat : SAt w w.heap.size 5 Ad 3 (insnsV P3)) :
    Calls Tryz.prog 5 #[.slice Ad 3 c, .agg #[.slice none 0 0, .int .i64 0]] w fun e w' => ∃ N, e = .returned (.agg #[.int .i64 0, .int .i64 0, .int .i64 3, .slice (some ⟨N, 0, none⟩) 3 3]) ∧ w.heap.size ≤ N ∧ N < w'.heap.size ∧ w'.rangeAt N 0 [.bool true, .bool false, .bool false, .int .u8 1, .int .u64 5, .int .u64 0, .int .u64 5, .int .u64 5, .int .i64 0, .int .i64 0, .bool true, .bool false, .bool false, .int .u8 1, .int .u64 7, .int .u64 0, .int .u64 7, .int .u64 7, .int .i64 0, .int .i64 0, .bool true, .bool false, .bool false, .int .u8 0, .int .u64 0, .int .u64 0, .int .u64 0, .int .u64 0, .int .i64 0, .int .i64 0] ∧ Below w.heap.size w w' := by
  have h := rprogram15V P3_line Q3_goes Ad c w hat
  rw [Q3_fin] at h
  exact h
def NS3 : List Note := [⟨true, false, false, 1, 5, 0, 5, 5, 0, 0⟩, ⟨true, false, false, 1, 7, 0, 7, 7, 0, 0⟩, ⟨true, false, false, 0, 0, 0, 0, 0, 0, 0⟩]
theorem NS3_ok : ∀ x ∈ NS3, x.Ok := by
  intro x hx
  simp only [NS3, List.mem_cons, List.not_mem_nil, or_false] at hx
  rcases hx with rfl | rfl | rfl <;> exact ⟨by decide, by decide⟩
theorem NS3_fold : foldL P3 NS3 = [Edit.none, ⟨2, ⟨183, 0, 0, 0, 7⟩, 0⟩, Edit.none] := by decide +kernel
set_option maxRecDepth 100000 in
set_option maxHeartbeats 8000000 in
theorem shown19_any (w : World) : Calls Tryz.prog 4 #[] w fun e w' => e = .returned (.bool true) ∧ Below w.heap.size w w' := by
  have hsat := sat_new w 27 (insnsV P3).toArray 5 3 rfl
  have hb0 : Below w.heap.size w (w.alloc (.cells (insnsV P3).toArray 27)) := (Below.refl _ _).alloc (Nat.le_refl _) _
  have hsW : SAt (w.alloc (.cells (insnsV P3).toArray 27)) (w.alloc (.cells (insnsV P3).toArray 27)).heap.size 5 (some ⟨w.heap.size, 0, none⟩) 3 (insnsV P3) := hsat.more (by simp)
  have h1 := rprogram15 (some ⟨w.heap.size, 0, none⟩) 3 (w.alloc (.cells (insnsV P3).toArray 27)) hsW
  clear hsat
  generalize hW : w.alloc (.cells (insnsV P3).toArray 27) = W at *
  have h2 := fun (N : Nat) (w1 : World) (hb : Below W.heap.size W w1) (hN : SAt w1 w1.heap.size 10 (some ⟨N, 0, none⟩) NS3.length (notesV NS3)) => fedits_any P3 P3_ok (some ⟨w.heap.size, 0, none⟩) 3 (by decide) NS3 NS3_ok (some ⟨N, 0, none⟩) 3 (by decide) w1 ((hsW.below hb).more hb.size) hN
  rw [NS3_fold] at h2
  have hlen : P3.length = 3 := rfl
  have hlen2 : NS3.length = 3 := rfl
  rw [hlen, hlen2] at h2
  clear hlen hlen2 hsW
  have HW := Lib.hid hW
  go_enter Tryz.func4, Tryz.ntmps4
  go_wp2_with fail
  have hW' : w.alloc (.cells #[.int .u8 183, .int .u8 0, .int .u8 0, .int .i16 0, .int .i32 5, .int .u8 7, .int .u8 0, .int .u8 0, .int .i16 0, .int .i32 2, .int .u8 149, .int .u8 0, .int .u8 0, .int .i16 0, .int .i32 0] 27) = W := hW
  rw [hW']
  clear hW hW' HW
  refine h1.mono ?_
  rintro e w2 ⟨N, rfl, hN1, hN2, hr, hb2⟩
  clear h1
  have hsn : SAt w2 w2.heap.size 10 (some ⟨N, 0, none⟩) 3 (notesV NS3) := ⟨rfl, fun _ => ⟨N, 0, rfl, hN2, fun j u hu => hr j u hu⟩⟩
  have h3 := h2 N w2 hb2 hsn
  clear h2 hr hN1 hN2 hsn
  have hbw0 := hb0.trans (hb2.mono hb0.size)
  have hfd := fun w => field55_3 (.int .i64 0) (.int .i64 0) (.int .i64 3) (some ⟨N, 0, none⟩) 3 3 w
  go_wp2_with fail
  refine h3.mono ?_
  rintro e w3 ⟨A, c, rfl, hs2, hc2, hm2, hb3⟩
  clear h3 hfd
  obtain ⟨b, o, rfl, hbb, a0, a1, a2, a3, a4, a5, a6⟩ := hs2.edit (k := 0) (by decide)
  obtain ⟨b', o', ho, hbb', b0, b1, b2, b3, b4, b5, b6⟩ := hs2.edit (k := 1) (by decide)
  simp only [Option.some.injEq, Addr.mk.injEq, and_true] at ho
  obtain ⟨rfl, rfl⟩ := ho
  obtain ⟨b', o', ho, hbb', c0, c1, c2, c3, c4, c5, c6⟩ := hs2.edit (k := 2) (by decide)
  simp only [Option.some.injEq, Addr.mk.injEq, and_true] at ho
  obtain ⟨rfl, rfl⟩ := ho
  clear hs2 hc2 hm2 hbb hbb'
  simp only [edAt, List.getD_cons_zero, List.getD_cons_succ, Edit.none, Insn.zero, List.length_cons, List.length_nil, Nat.zero_mul, Nat.add_zero, Nat.one_mul, Nat.reduceMul, Nat.reduceAdd] at a0 a1 a2 a3 a4 a5 a6 b0 b1 b2 b3 b4 b5 b6 c0 c1 c2 c3 c4 c5 c6 ⊢
  have hbw := hbw0.trans (hb3.mono hbw0.size)
  have q0 := eq_edit Edit.none Edit.none
  have q1 := eq_edit ⟨2, ⟨183, 0, 0, 0, 7⟩, 0⟩ ⟨2, ⟨183, 0, 0, 0, 7⟩, 0⟩
  simp only [decide_true, Edit.val, Edit.none, Insn.zero] at q0 q1
  clear hb3 hb2 hb0 hbw0
  have hB2 := Below.refl w3.heap.size w3
  go_wp2_with fail
  go_ret
  exact ⟨rfl, hbw⟩
theorem SAt.fewN {W : World} {B : Nat} {A : Option Addr} {l : List Note} (h : SAt W B 10 A l.length (notesV l)) (n : Nat) : SAt W B 10 A (l.take n).length (notesV (l.take n)) := by
  have := h.cut (k := (l.take n).length) (by simp; omega)
  have e : (notesV l).take ((l.take n).length * 10) = notesV (l.take n) := by
    have e2 : notesV l = notesV (l.take n) ++ notesV (l.drop n) := by rw [← notesV_append, List.take_append_drop]
    rw [e2, List.take_append_of_le_length (by rw [notesV_length]; exact Nat.le_refl _)]
    exact List.take_of_length_le (by rw [notesV_length]; exact Nat.le_refl _)
  rwa [e] at this
end Go.Proofs.YtncogaikiceidaaGreat
