/- The law InsnBack, walked. -/
import Derived.Test.YtgbmeckhagklnaaInsnTakesW
namespace Go.Proofs.Ytgbmeckhagklnaa
open Go.RowKit
theorem take_put (x : Insn) (h : x.Ok) (hd : x.dst ≤ 15) (hs : x.src ≤ 15) : takeL x.bytes = (x, 0) := by
  obtain ⟨op, d, s, o, i⟩ := x
  obtain ⟨p1, p2, p3, p4, p5, p6, p7, p8, p9, p10⟩ := h
  simp only at *
  show (takeI _ _ _ _ _ _ _ _, _) = _
  simp only [takeI, Prod.mk.injEq, Insn.mk.injEq, and_true, true_and]
  refine ⟨?_, ?_, ?_, ?_⟩ <;> omega
theorem put_take (b0 b1 b2 b3 b4 b5 b6 b7 : Int) (h0 : isByte b0) (h1 : isByte b1) (h2 : isByte b2) (h3 : isByte b3) (h4 : isByte b4) (h5 : isByte b5) (h6 : isByte b6) (h7 : isByte b7) :
    (takeI b0 b1 b2 b3 b4 b5 b6 b7).Ok ∧ (takeI b0 b1 b2 b3 b4 b5 b6 b7).put = ([b0, b1, b2, b3, b4, b5, b6, b7], 0) := by
  unfold isByte at *
  have hok : (takeI b0 b1 b2 b3 b4 b5 b6 b7).Ok := by constructor <;> (simp only [takeI]; omega)
  refine ⟨hok, ?_⟩
  rw [Insn.put_yes (by simp only [takeI]; omega)]
  simp only [Insn.bytes, takeI, Prod.mk.injEq, List.cons.injEq, and_true]
  refine ⟨trivial, ?_, ?_, ?_, ?_, ?_, ?_, ?_⟩ <;> omega
set_option maxRecDepth 100000 in
theorem insnBack_walk (x : Insn) (h : x.Ok) (b0 b1 b2 b3 b4 b5 b6 b7 : Int) (h0 : isByte b0) (h1 : isByte b1) (h2 : isByte b2) (h3 : isByte b3) (h4 : isByte b4) (h5 : isByte b5) (h6 : isByte b6) (h7 : isByte b7) (w : World) :
    Calls Try.prog 7 #[x.val, .agg #[.int .u8 b0, .int .u8 b1, .int .u8 b2, .int .u8 b3, .int .u8 b4, .int .u8 b5, .int .u8 b6, .int .u8 b7]] w fun e w' => e = .returned (.bool true) ∧ Below w.heap.size w w' := by
  obtain ⟨tok, tput⟩ := put_take b0 b1 b2 b3 b4 b5 b6 b7 h0 h1 h2 h3 h4 h5 h6 h7
  have hbyl : ∀ b ∈ [b0, b1, b2, b3, b4, b5, b6, b7], isByte b := by
    intro b hb
    simp only [List.mem_cons, List.not_mem_nil, or_false] at hb
    rcases hb with rfl | rfl | rfl | rfl | rfl | rfl | rfl | rfl <;> assumption
  have htp := Lib.hid tput
  clear tput h0 h1 h2 h3 h4 h5 h6 h7
  go_enter Try.func7, Try.ntmps7
  go_wp2_with fail
  have hb0 : Below w.heap.size w ((w.alloc (.cells #[.int .u8 x.op, .int .u8 x.dst, .int .u8 x.src, .int .i16 x.off, .int .i32 x.imm] 24)).alloc (.cells #[.int .u8 b0, .int .u8 b1, .int .u8 b2, .int .u8 b3, .int .u8 b4, .int .u8 b5, .int .u8 b6, .int .u8 b7] 41)) := ((Below.refl _ _).alloc (Nat.le_refl _) _).alloc (by simp) _
  obtain ⟨x0, x1, x2, x3, x4⟩ := box24 x (show w.heap.size < w.heap.size + 2 by omega) (heap_alloc2_old w (.cells #[.int .u8 x.op, .int .u8 x.dst, .int .u8 x.src, .int .i16 x.off, .int .i32 x.imm] 24) (.cells #[.int .u8 b0, .int .u8 b1, .int .u8 b2, .int .u8 b3, .int .u8 b4, .int .u8 b5, .int .u8 b6, .int .u8 b7] 41))
  have hat : SAt ((w.alloc (.cells #[.int .u8 x.op, .int .u8 x.dst, .int .u8 x.src, .int .i16 x.off, .int .i32 x.imm] 24)).alloc (.cells #[.int .u8 b0, .int .u8 b1, .int .u8 b2, .int .u8 b3, .int .u8 b4, .int .u8 b5, .int .u8 b6, .int .u8 b7] 41)) (w.heap.size + 2) 1 (some ⟨w.heap.size + 1, 0, none⟩) 8 (bytesV [b0, b1, b2, b3, b4, b5, b6, b7]) := by
    have := sat_new (w.alloc (.cells #[.int .u8 x.op, .int .u8 x.dst, .int .u8 x.src, .int .i16 x.off, .int .i32 x.imm] 24)) 41 #[.int .u8 b0, .int .u8 b1, .int .u8 b2, .int .u8 b3, .int .u8 b4, .int .u8 b5, .int .u8 b6, .int .u8 b7] 1 8 rfl
    simpa [bytesV] using this
  have hsz : ((w.alloc (.cells #[.int .u8 x.op, .int .u8 x.dst, .int .u8 x.src, .int .i16 x.off, .int .i32 x.imm] 24)).alloc (.cells #[.int .u8 b0, .int .u8 b1, .int .u8 b2, .int .u8 b3, .int .u8 b4, .int .u8 b5, .int .u8 b6, .int .u8 b7] 41)).heap.size = w.heap.size + 2 := by simp
  generalize ((w.alloc (.cells #[.int .u8 x.op, .int .u8 x.dst, .int .u8 x.src, .int .i16 x.off, .int .i32 x.imm] 24)).alloc (.cells #[.int .u8 b0, .int .u8 b1, .int .u8 b2, .int .u8 b3, .int .u8 b4, .int .u8 b5, .int .u8 b6, .int .u8 b7] 41)) = W at *
  have hB : w.heap.size + 2 ≤ W.heap.size := by omega
  clear hsz
  refine (shown_insn _).mono ?_
  rintro e w1 ⟨rfl, c1⟩
  have hw1 : Below (w.heap.size + 2) W w1 := c1.mono hB
  clear c1
  go_wp2_with fail
  refine (put_any x h _).mono ?_
  rintro e w2 ⟨A, c, rfl, hat2, hcap, c2⟩
  have hw2 : Below (w.heap.size + 2) W w2 := below_step hw1 hB c2
  clear c2
  go_wp2_with fail
  refine (take_any x.put.1 (Insn.put_byte h) A c hcap _ hat2).mono ?_
  rintro e w3 ⟨rfl, c3⟩
  have hw3 : Below (w.heap.size + 2) W w3 := below_step hw2 hB c3
  have hs3 : w.heap.size + 2 ≤ w3.heap.size := Nat.le_trans hB hw3.size
  clear hat2 hcap c3
  by_cases hk : x.dst ≤ 15 ∧ x.src ≤ 15
  · have q1 : x.put.2 = 0 := by rw [Insn.put_yes hk]
    have q2 : takeL x.put.1 = (x, 0) := by rw [Insn.put_yes hk]; exact take_put x h hk.1 hk.2
    rw [q1, q2]
    generalize x.put.1 = l at *
    clear q1 q2
    obtain ⟨hd, hs⟩ := hk
    go_wp2_with fail
    have hz3 : Below (w.heap.size + 2) W (w3.alloc (.cells #[.int .u8 x.op, .int .u8 x.dst, .int .u8 x.src, .int .i16 x.off, .int .i32 x.imm] 24)) := hw3.alloc hs3 _
    refine (take_any [b0, b1, b2, b3, b4, b5, b6, b7] hbyl _ 8 (Nat.le_refl _) _ ((hat.below hz3).more (by simp; omega))).mono ?_
    rintro e w4 ⟨rfl, c4⟩
    have hw4 : Below (w.heap.size + 2) W w4 := below_step hz3 hB c4
    clear c4 hz3
    have hs4 : w.heap.size + 2 ≤ w4.heap.size := Nat.le_trans hB hw4.size
    have et : takeL [b0, b1, b2, b3, b4, b5, b6, b7] = (takeI b0 b1 b2 b3 b4 b5 b6 b7, 0) := rfl
    rw [et]
    clear et
    generalize takeI b0 b1 b2 b3 b4 b5 b6 b7 = z at *
    go_wp2_with fail
    refine (put_any z tok _).mono ?_
    rintro e w5 ⟨A', c', rfl, hat5, hcap5, c5⟩
    have hz4 : Below (w.heap.size + 2) W (w4.alloc (.cells #[.int .u8 z.op, .int .u8 z.dst, .int .u8 z.src, .int .i16 z.off, .int .i32 z.imm] 24)) := hw4.alloc hs4 _
    have hw5 : Below (w.heap.size + 2) W w5 := below_step hz4 hB c5
    clear c5 hz4
    have e1 : z.put.1 = [b0, b1, b2, b3, b4, b5, b6, b7] := by rw [htp.out]
    have e2 : z.put.2 = 0 := by rw [htp.out]
    rw [e2]
    rw [e1] at hat5 ⊢
    clear e1 e2 htp hcap5
    have hcv := fun w' (hw : Below w5.heap.size w5 w') => conv_bytes (w' := w') (c := c') _ hat5 hw
    have hcv' := fun w' (hw : Below (w.heap.size + 2) W w') => conv_bytes (w' := w') (c := 8) _ hat hw
    have hby := str_beq _ _ hbyl hbyl
    rw [decide_eq_true rfl] at hby
    simp only [List.length_cons, List.length_nil, Nat.zero_add, Nat.reduceAdd] at hcv hcv' ⊢
    clear hat5 hat hbyl
    generalize [b0, b1, b2, b3, b4, b5, b6, b7] = l at *
    go_wp2_with fail
    go_region_held3 (fun w' => Below (w.heap.size + 2) W w' ∧ Below w5.heap.size w5 w')
      (first | assumption | (exact ⟨hw5.drew, (Below.refl _ _).drew⟩))
      (first | fail)
    go_wp2_with fail
    go_ret
    exact ⟨rfl, hb0.trans (hw5.drew.mono (Nat.le_add_right _ 2))⟩
  · have q1 : x.put.2 = 1 := by rw [Insn.put_no hk]
    have q2 : takeL x.put.1 = (Insn.zero, 6) := by rw [Insn.put_no hk]; rfl
    rw [q1, q2]
    generalize x.put.1 = l at *
    clear q1 q2
    have hd0 := h.dst0
    have hs0 := h.src0
    generalize Insn.zero = y
    rcases (show 15 < x.dst ∨ x.dst ≤ 15 ∧ 15 < x.src by omega) with hd | ⟨hd, hs⟩
    all_goals
      clear hk
      go_wp2_with fail
      have hz3 : Below (w.heap.size + 2) W (w3.alloc (.cells #[.int .u8 y.op, .int .u8 y.dst, .int .u8 y.src, .int .i16 y.off, .int .i32 y.imm] 24)) := hw3.alloc hs3 _
      refine (take_any [b0, b1, b2, b3, b4, b5, b6, b7] hbyl _ 8 (Nat.le_refl _) _ ((hat.below hz3).more (by simp; omega))).mono ?_
      rintro e w4 ⟨rfl, c4⟩
      have hw4 : Below (w.heap.size + 2) W w4 := below_step hz3 hB c4
      clear c4 hz3
      have hs4 : w.heap.size + 2 ≤ w4.heap.size := Nat.le_trans hB hw4.size
      have et : takeL [b0, b1, b2, b3, b4, b5, b6, b7] = (takeI b0 b1 b2 b3 b4 b5 b6 b7, 0) := rfl
      rw [et]
      clear et
      generalize takeI b0 b1 b2 b3 b4 b5 b6 b7 = z at *
      go_wp2_with fail
      refine (put_any z tok _).mono ?_
      rintro e w5 ⟨A', c', rfl, hat5, hcap5, c5⟩
      have hz4 : Below (w.heap.size + 2) W (w4.alloc (.cells #[.int .u8 z.op, .int .u8 z.dst, .int .u8 z.src, .int .i16 z.off, .int .i32 z.imm] 24)) := hw4.alloc hs4 _
      have hw5 : Below (w.heap.size + 2) W w5 := below_step hz4 hB c5
      clear c5 hz4
      have e1 : z.put.1 = [b0, b1, b2, b3, b4, b5, b6, b7] := by rw [htp.out]
      have e2 : z.put.2 = 0 := by rw [htp.out]
      rw [e2]
      rw [e1] at hat5 ⊢
      clear e1 e2 htp hcap5
      have hcv := fun w' (hw : Below w5.heap.size w5 w') => conv_bytes (w' := w') (c := c') _ hat5 hw
      have hcv' := fun w' (hw : Below (w.heap.size + 2) W w') => conv_bytes (w' := w') (c := 8) _ hat hw
      have hby := str_beq _ _ hbyl hbyl
      rw [decide_eq_true rfl] at hby
      simp only [List.length_cons, List.length_nil, Nat.zero_add, Nat.reduceAdd] at hcv hcv' ⊢
      clear hat5 hat hbyl
      generalize [b0, b1, b2, b3, b4, b5, b6, b7] = l at *
      go_wp2_with fail
      go_region_held3 (fun w' => Below (w.heap.size + 2) W w' ∧ Below w5.heap.size w5 w')
        (first | assumption | (exact ⟨hw5.drew, (Below.refl _ _).drew⟩))
        (first | fail)
      go_wp2_with fail
      go_ret
      exact ⟨rfl, hb0.trans (hw5.drew.mono (Nat.le_add_right _ 2))⟩
end Go.Proofs.Ytgbmeckhagklnaa
