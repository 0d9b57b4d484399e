/- Two instructions compared: what the model's == and != come to. No statement is proved here. -/
import Derived.Test.YtncogaikiceidaaGreatInsn5
namespace Go.Proofs.YtncogaikiceidaaGreat
open Go.RowKit
theorem eq_insn (a b : Insn) (w : World) : (binOp .eql 27 a.val b.val).run Tryz.prog w = .ok (.bool (decide (a = b))) w := by
  have e : decide (a = b) = (decide (a.op = b.op) && (decide (a.dst = b.dst) && (decide (a.src = b.src) && (decide (a.off = b.off) && decide (a.imm = b.imm))))) := by
    obtain ⟨a1, a2, a3, a4, a5⟩ := a
    obtain ⟨b1, b2, b3, b4, b5⟩ := b
    rw [Bool.eq_iff_iff]
    simp
  rw [e]
  by_cases h1 : a.op = b.op <;> by_cases h2 : a.dst = b.dst <;> by_cases h3 : a.src = b.src <;> by_cases h4 : a.off = b.off <;> by_cases h5 : a.imm = b.imm <;> simp [go_sem, h1, h2, h3, h4, h5]
theorem neq_insn (a b : Insn) (w : World) : (binOp .neq 27 a.val b.val).run Tryz.prog w = .ok (.bool (!decide (a = b))) w := by
  have e : decide (a = b) = (decide (a.op = b.op) && (decide (a.dst = b.dst) && (decide (a.src = b.src) && (decide (a.off = b.off) && decide (a.imm = b.imm))))) := by
    obtain ⟨a1, a2, a3, a4, a5⟩ := a
    obtain ⟨b1, b2, b3, b4, b5⟩ := b
    rw [Bool.eq_iff_iff]
    simp
  rw [e]
  by_cases h1 : a.op = b.op <;> by_cases h2 : a.dst = b.dst <;> by_cases h3 : a.src = b.src <;> by_cases h4 : a.off = b.off <;> by_cases h5 : a.imm = b.imm <;> simp [go_sem, h1, h2, h3, h4, h5]
end Go.Proofs.YtncogaikiceidaaGreat
