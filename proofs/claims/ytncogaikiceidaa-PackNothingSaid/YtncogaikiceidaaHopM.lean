/- Where one comes by jumps alone, and what becomes of instructions: in plain terms. No statement is proved here. -/
import Derived.Test.YtncogaikiceidaaList
section
namespace Go.Proofs.Ytncogaikiceidaa
open Go.RowKit
structure Edit where
  kind : Int
  x : Insn
  to : Int
deriving DecidableEq
def Edit.none : Edit := ⟨0, Insn.zero, 0⟩
def Edit.drop : Edit := ⟨1, Insn.zero, 0⟩
def kindM (l : List Insn) (i : Nat) : Int := (sem (at' l i)).1.kind
/-- A jump's, or a branch's, target is a beginning. -/
theorem Prog.goes {l : List Insn} (h : Prog l) {i : Nat} (hi : i < l.length) (hs : SB l i = true) (hk : kindM l i = 9 ∨ kindM l i = 10) : (targetM l i).2 = true ∧ (targetM l i).1.toNat < l.length ∧ SB l (targetM l i).1.toNat = true ∧ ((targetM l i).1.toNat : Int) = (targetM l i).1 := by
  have hj : (toM l i).2 = true := by
    rw [toM_jumps]
    unfold kindM at hk
    simpa using hk
  obtain ⟨t, h1, h2, h3⟩ := h.target hi hs hj
  rw [h3]
  simp [h1, h2]
end Go.Proofs.Ytncogaikiceidaa
end
section
namespace Go.Proofs.Ytncogaikiceidaa
open Go.RowKit
/-- The target of a jump, told where one begins. -/
theorem Prog.goes_at {l : List Insn} (h : Prog l) {i : Nat} (hi : i < l.length) (hs : SB l i = true) (hk : kindM l i = 9 ∨ kindM l i = 10) : ∃ t : Nat, t < l.length ∧ SB l t = true ∧ targetM l i = ((t : Int), true) ∧ (targetM l i).1.toNat = t := by
  obtain ⟨h1, h2, h3, h4⟩ := h.goes hi hs hk
  refine ⟨(targetM l i).1.toNat, h2, h3, ?_, rfl⟩
  rw [h4, ← h1]
end Go.Proofs.Ytncogaikiceidaa
end
