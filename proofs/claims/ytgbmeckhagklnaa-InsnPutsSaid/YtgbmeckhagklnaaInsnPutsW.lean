/- The law InsnPuts, walked. -/
import Derived.Test.YtgbmeckhagklnaaInsn5
namespace Go.Proofs.Ytgbmeckhagklnaa
open Go.RowKit
set_option maxRecDepth 100000 in
theorem insnPuts_walk (x y : Insn) (h : x.Ok) (w : World) : Calls Try.prog 5 #[x.val, y.val] w fun e w' => e = .returned (.bool true) ∧ Below w.heap.size w w' := by
  have o0 := h.op0
  have k := Int.tmod_eq_emod_of_nonneg (b := 8) o0
  go_enter Try.func5, Try.ntmps5
  go_wp2_with fail
  have hb0 : Below w.heap.size w ((w.alloc (.cells #[.int .u8 x.op, .int .u8 x.dst, .int .u8 x.src, .int .i16 x.off, .int .i32 x.imm] 24)).alloc (.cells #[.int .u8 y.op, .int .u8 y.dst, .int .u8 y.src, .int .i16 y.off, .int .i32 y.imm] 24)) := ((Below.refl _ _).alloc (Nat.le_refl _) _).alloc (by simp) _
  obtain ⟨x0, x1, x2, x3, x4⟩ := box24 x (show w.heap.size < w.heap.size + 2 by omega) (heap_alloc2_old w _ (.cells #[.int .u8 y.op, .int .u8 y.dst, .int .u8 y.src, .int .i16 y.off, .int .i32 y.imm] 24))
  obtain ⟨y0, y1, y2, y3, y4⟩ := box24 y (show w.heap.size + 1 < w.heap.size + 2 by omega) (heap_alloc2_new w (.cells #[.int .u8 x.op, .int .u8 x.dst, .int .u8 x.src, .int .i16 x.off, .int .i32 x.imm] 24) _)
  have hsz : ((w.alloc (.cells #[.int .u8 x.op, .int .u8 x.dst, .int .u8 x.src, .int .i16 x.off, .int .i32 x.imm] 24)).alloc (.cells #[.int .u8 y.op, .int .u8 y.dst, .int .u8 y.src, .int .i16 y.off, .int .i32 y.imm] 24)).heap.size = w.heap.size + 2 := by simp
  generalize ((w.alloc (.cells #[.int .u8 x.op, .int .u8 x.dst, .int .u8 x.src, .int .i16 x.off, .int .i32 x.imm] 24)).alloc (.cells #[.int .u8 y.op, .int .u8 y.dst, .int .u8 y.src, .int .i16 y.off, .int .i32 y.imm] 24)) = W at *
  have hB : w.heap.size + 2 ≤ W.heap.size := by omega
  clear hsz
  refine (put_any x h _).mono ?_
  rintro e w1 ⟨A, c, rfl, hat, hcap, hb⟩
  have hb1 : Below (w.heap.size + 2) W w1 := hb.mono hB
  have hcv := fun w' (hw : Below w1.heap.size w1 w') => conv_bytes (w' := w') (c := c) _ hat hw
  clear hat hcap hb
  have hby := str_beq x.put.1 x.put.1 (Insn.put_byte h) (Insn.put_byte h)
  rw [decide_eq_true rfl] at hby
  go_wp2_with fail
  refine (rput_any x h _).mono ?_
  rintro e w2 ⟨A', c', rfl, hat', hcap', hb'⟩
  have hb2 : Below (w.heap.size + 2) W w2 := below_step hb1 hB hb'
  have hcv' := fun w' (hw : Below w2.heap.size w2 w') => conv_bytes (w' := w') (c := c') _ hat' hw
  have hb3 : Below (w.heap.size + 2) W w2 ∧ Below w1.heap.size w1 w2 ∧ Below w2.heap.size w2 w2 := ⟨hb2, hb', Below.refl _ _⟩
  clear hat' hcap'
  generalize x.put.1 = l at *
  generalize x.put.2 = r at *
  go_wp2_with fail
  go_region_held3 (fun w' => Below (w.heap.size + 2) W w' ∧ Below w1.heap.size w1 w' ∧ Below w2.heap.size w2 w')
    (first | assumption | (exact ⟨hb2.drew, hb'.drew, (Below.refl _ _).drew⟩))
    (first
     | (go_at_call 26; refine (shown_insn _).mono ?_; rintro e w' ⟨rfl, hb⟩; have hS : Below (w.heap.size + 2) W w' ∧ Below w1.heap.size w1 w' ∧ Below w2.heap.size w2 w' := step3 (by assumption) hB (Nat.le_refl _) (Nat.le_refl _) hb)
     | (go_at_call 30; refine (class_any x h _).mono ?_; rintro e w' ⟨rfl, hb⟩; have hS : Below (w.heap.size + 2) W w' ∧ Below w1.heap.size w1 w' ∧ Below w2.heap.size w2 w' := step3 (by assumption) hB (Nat.le_refl _) (Nat.le_refl _) hb)
     | (go_at_call 31; refine (wide_any x _).mono ?_; rintro e w' ⟨rfl, hb⟩; have hS : Below (w.heap.size + 2) W w' ∧ Below w1.heap.size w1 w' ∧ Below w2.heap.size w2 w' := step3 (by assumption) hB (Nat.le_refl _) (Nat.le_refl _) hb)
     | (go_at_call 28; refine (long_any x y _).mono ?_; rintro e w' ⟨rfl, hb⟩; have hS : Below (w.heap.size + 2) W w' ∧ Below w1.heap.size w1 w' ∧ Below w2.heap.size w2 w' := step3 (by assumption) hB (Nat.le_refl _) (Nat.le_refl _) hb)
     | (go_at_call 32; refine (rlong_any x y _).mono ?_; rintro e w' ⟨rfl, hb⟩; have hS : Below (w.heap.size + 2) W w' ∧ Below w1.heap.size w1 w' ∧ Below w2.heap.size w2 w' := step3 (by assumption) hB (Nat.le_refl _) (Nat.le_refl _) hb))
  have hfin := hb0.trans (hS.1.mono (Nat.le_add_right _ 2))
  go_wp2_with fail
  go_ret
  exact ⟨rfl, hfin⟩
end Go.Proofs.Ytgbmeckhagklnaa
