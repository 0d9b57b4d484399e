/- Layer 7's small functions once more, with the world behind them; and 'wide'. No statement is proved here. -/
import Derived.Test.YtncogaikiceidaaGreatWhat
import Derived.Deep.DrawnRows
namespace Go.Proofs.YtncogaikiceidaaGreat
open Go.RowKit
attribute [local go_sem ↓] Go.wp_at_zero Go.wp_at_succ
abbrev Insn.obj (x : Insn) : Obj := .cells #[.int .u8 x.op, .int .u8 x.dst, .int .u8 x.src, .int .i16 x.off, .int .i32 x.imm] 27
/-- A What and a Bool are handed back. -/
def WhatAnd (W : World) (r : What × Bool) (e : Ending) (w' : World) : Prop := e = .returned (.tuple #[r.1.val, .bool r.2]) ∧ Below W.heap.size W w'
theorem zeros_is (x : Insn) (s o i : Bool) (w : World) : Calls Tryz.prog 112 #[x.val, .bool s, .bool o, .bool i] w fun e w' => e = .returned (.bool (zerosB x s o i)) ∧ w' = w.alloc x.obj := by
  by_cases h1 : x.src = 0 <;> by_cases h2 : x.off = 0 <;> cases s <;> cases o <;> cases i <;>
  (go_enter Tryz.func112, Tryz.ntmps112
   go_wp2
   go_ret
   exact ⟨by simp [zerosB, bne, *], by first | rfl | simp [Insn.obj, *]⟩)
theorem only_is (x : Insn) (s o i : Bool) (w : World) : Calls Tryz.prog 64 #[x.val, .bool s, .bool o, .bool i] w fun e w' => e = .returned (.bool (zerosB x (!s) (!o) (!i))) ∧ w' = w.alloc x.obj := by
  by_cases h1 : x.src = 0 <;> by_cases h2 : x.off = 0 <;> cases s <;> cases o <;> cases i <;>
  (go_enter Tryz.func64, Tryz.ntmps64
   go_wp2
   go_ret
   exact ⟨by simp [zerosB, *], by first | rfl | simp [Insn.obj, *]⟩)
theorem and7 (x : Int) (h0 : 0 ≤ x) (h1 : x ≤ 255) : bits .and .u8 x 7 = x % 8 := bits_byte 7 (fun x => x % 8) (by decide +kernel) x h0 h1
theorem class_is (x : Insn) (hx : x.Ok) (w : World) : Calls Tryz.prog 74 #[x.val] w fun e w' => e = .returned (.int .u8 (x.op % 8)) ∧ w' = w.alloc x.obj := by
  have h := and7 x.op hx.op0 hx.op1
  go_enter Tryz.func74, Tryz.ntmps74
  go_wp2
  go_ret
  exact ⟨by rfl, rfl⟩
end Go.Proofs.YtncogaikiceidaaGreat
