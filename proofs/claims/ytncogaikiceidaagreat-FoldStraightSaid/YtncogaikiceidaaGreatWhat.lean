/- What an instruction does, as the program and as the reference reckon it: both are the same. No statement is proved here. -/
import Derived.Test.YtncogaikiceidaaGreatCode2
namespace Go.Proofs.YtncogaikiceidaaGreat
open Go.RowKit
def What.zero : What := ⟨0, 0, false, false, false, 0⟩
/-- Without a yes, nothing. -/
def norm (r : What × Bool) : What × Bool := if r.2 then (r.1, true) else (What.zero, false)
def regB (x : Insn) : Bool := x.op / 8 % 2 == 1
def arithM (x : Insn) : What × Bool :=
  let w : What := ⟨1, x.op / 16 * 16, x.op % 8 == 7, regB x, false, 0⟩
  let ok := x.dst != 10 && zerosB x (!regB x) false (regB x)
  if x.op / 16 = 3 ∨ x.op / 16 = 9 then (w, ok && (x.off == 0 || x.off == 1))
  else if x.op / 16 = 8 then (w, ok && !regB x && zerosB x true true true)
  else if x.op / 16 = 11 then (w, ok && (x.off == 0 || regB x && (x.off == 8 || x.off == 16 || x.off == 32 && w.wide)))
  else if x.op / 16 < 13 then (w, ok && x.off == 0)
  else (w, false)
def swapsM (x : Insn) : What × Bool := (⟨2, 0, x.op != 212, false, false, x.imm.tdiv 8⟩, x.dst != 10 && zerosB x true true false && (x.imm == 16 || x.imm == 32 || x.imm == 64))
def wideM (x : Insn) : What × Bool :=
  if x.src = 0 then (⟨3, 0, true, false, false, 0⟩, x.dst != 10 && x.off == 0)
  else if x.src = 1 then (⟨4, 0, true, false, false, 0⟩, (x.dst != 10 && x.off == 0) && decide (0 ≤ x.imm))
  else (What.zero, false)
def kindW (k : Int) : What := ⟨k, 0, false, false, false, 0⟩
def branchG (g : Int) : Bool := 1 ≤ g ∧ g ≤ 13 ∧ g ≠ 8 ∧ g ≠ 9
def jumpsM (x : Insn) : What × Bool :=
  if x.op = 5 then (kindW 9, x.dst == 0 && zerosB x true false true)
  else if x.op = 6 then (kindW 9, x.dst == 0 && zerosB x true true false)
  else if x.op = 133 then (kindW 11, x.dst == 0 && zerosB x true true false)
  else if x.op = 149 then (kindW 12, x.dst == 0 && zerosB x true true true)
  else (⟨10, x.op / 16 * 16, x.op % 8 == 5, regB x, false, 0⟩, branchG (x.op / 16) && zerosB x (!regB x) false (regB x))
def atomI (n : Int) : Bool := [0, 64, 80, 160].contains n
def movesM (x : Insn) : What × Bool :=
  let z := sizeM x.op
  let m := x.op / 32 * 32
  if x.op % 8 = 1 then (⟨5, 0, false, false, m == 128, z⟩, x.dst != 10 && x.imm == 0 && (m == 96 || m == 128 && decide (z < 8)))
  else if x.op % 8 = 2 then (⟨6, 0, false, false, false, z⟩, m == 96 && x.src == 0)
  else if x.op % 8 = 3 then
    if m = 96 then (⟨7, 0, false, true, false, z⟩, x.imm == 0)
    else (⟨8, x.imm % 256, false, true, false, z⟩, m == 192 && decide (4 ≤ z) && atomI x.imm)
  else (⟨0, 0, false, false, false, z⟩, false)
def whatM (x : Insn) : What × Bool :=
  if 10 < x.dst ∨ 10 < x.src then (What.zero, false)
  else if x.op = 24 then wideM x
  else if x.op = 212 ∨ x.op = 220 ∨ x.op = 215 then swapsM x
  else if x.op % 8 = 4 ∨ x.op % 8 = 7 then arithM x
  else if x.op % 8 = 5 ∨ x.op % 8 = 6 then jumpsM x
  else if x.op % 8 = 0 then (What.zero, false)
  else movesM x
/-! the reference -/
def onlyB (x : Insn) (s o i : Bool) : Bool := zerosB x (!s) (!o) (!i)
def rarithM (x : Insn) : What × Bool :=
  let w : What := ⟨1, x.op / 16 * 16, x.op % 8 == 7, regB x, false, 0⟩
  if x.dst = 10 then (What.zero, false)
  else if x.op / 16 = 8 then (w, !regB x && onlyB x false false false)
  else
    let off := if x.op / 16 = 3 ∨ x.op / 16 = 9 then x.off == 0 || x.off == 1
      else if x.op / 16 = 11 then x.off == 0 || regB x && (x.off == 8 || x.off == 16 || w.wide && x.off == 32)
      else x.off == 0
    (w, [0, 16, 32, 64, 80, 160, 96, 112, 192, 48, 144, 176].contains (x.op / 16 * 16) && off && onlyB x (regB x) true (!regB x))
def rmemoryM (x : Insn) : What × Bool :=
  let load := sizesM [97, 105, 113, 121] [4, 2, 1, 8] x.op
  let signed := sizesM [129, 137, 145] [4, 2, 1, 8] x.op
  let store := sizesM [98, 106, 114, 122] [4, 2, 1, 8] x.op
  let put := sizesM [99, 107, 115, 123] [4, 2, 1, 8] x.op
  if 0 < load + signed then (⟨5, 0, false, false, decide (0 < signed), load + signed⟩, x.dst != 10 && onlyB x true true false)
  else if 0 < store then (⟨6, 0, false, false, false, store⟩, onlyB x false true true)
  else if 0 < put then (⟨7, 0, false, true, false, put⟩, onlyB x true true false)
  else if x.op = 195 ∨ x.op = 219 then (⟨8, x.imm % 256, false, true, false, if x.op = 219 then 8 else 4⟩, x.imm == 0 || x.imm == 64 || x.imm == 80 || x.imm == 160)
  else (What.zero, false)
def rotherM (x : Insn) : What × Bool :=
  if x.op = 212 ∨ x.op = 220 ∨ x.op = 215 then (⟨2, 0, x.op != 212, false, false, x.imm.tdiv 8⟩, x.dst != 10 && onlyB x false false true && (x.imm == 16 || x.imm == 32 || x.imm == 64))
  else if x.op = 24 then
    if x.src = 0 then (⟨3, 0, true, false, false, 0⟩, x.dst != 10 && x.off == 0)
    else (⟨4, 0, true, false, false, 0⟩, x.dst != 10 && x.off == 0 && x.src == 1 && decide (0 ≤ x.imm))
  else if x.op = 5 then (kindW 9, x.dst == 0 && onlyB x false true false)
  else if x.op = 6 then (kindW 9, x.dst == 0 && onlyB x false false true)
  else if x.op = 133 then (kindW 11, x.dst == 0 && onlyB x false false true)
  else if x.op = 149 then (kindW 12, x.dst == 0 && onlyB x false false false)
  else (What.zero, false)
def rwhatM (x : Insn) : What × Bool :=
  if 10 < x.dst ∨ 10 < x.src then (What.zero, false)
  else if [212, 220, 215, 24, 5, 6, 133, 149].contains x.op then rotherM x
  else if x.op % 8 = 4 ∨ x.op % 8 = 7 then rarithM x
  else if x.op % 8 = 5 ∨ x.op % 8 = 6 then (⟨10, x.op / 16 * 16, x.op % 8 == 5, regB x, false, 0⟩, [16, 32, 48, 64, 80, 96, 112, 160, 176, 192, 208].contains (x.op / 16 * 16) && onlyB x (regB x) true (!regB x))
  else rmemoryM x
def sixteen (n : Int) : Prop := n = 0 ∨ n = 1 ∨ n = 2 ∨ n = 3 ∨ n = 4 ∨ n = 5 ∨ n = 6 ∨ n = 7 ∨ n = 8 ∨ n = 9 ∨ n = 10 ∨ n = 11 ∨ n = 12 ∨ n = 13 ∨ n = 14 ∨ n = 15
theorem op_low {op : Int} (l g : Int) (hl : op % 16 = l) (hg : op / 16 = g) : op = 16 * g + l := by omega
set_option maxHeartbeats 40000000 in
set_option linter.unusedSimpArgs false in
theorem what_eq (x : Insn) (h : x.Ok) : norm (whatM x) = norm (rwhatM x) := by
  obtain ⟨h0, h1, -, -, -, -, -, -, -, -⟩ := h
  obtain ⟨op, dst, src, off, imm⟩ := x
  simp only at h0 h1
  have hg : sixteen (op / 16) := by unfold sixteen; omega
  have hl : sixteen (op % 16) := by unfold sixteen; omega
  unfold whatM rwhatM
  by_cases hd : 10 < dst ∨ 10 < src
  · rw [if_pos hd, if_pos hd]
  rw [if_neg hd, if_neg hd]
  clear hd
  rcases hg with hg | hg | hg | hg | hg | hg | hg | hg | hg | hg | hg | hg | hg | hg | hg | hg <;>
  rcases hl with hl | hl | hl | hl | hl | hl | hl | hl | hl | hl | hl | hl | hl | hl | hl | hl <;>
  (have hop := op_low _ _ hl hg
   simp only [Int.reduceMul, Int.reduceAdd] at hop
   subst hop
   clear h0 h1 hl hg
   first
   | (simp [norm, whatM, rwhatM, wideM, swapsM, arithM, jumpsM, movesM, rotherM, rarithM, rmemoryM, onlyB, zerosB, regB, sizeM, sizesM, branchG, atomI, kindW, bne, or_assoc]; done)
   | (by_cases e1 : dst = 10 <;> by_cases e2 : src = 0 <;> by_cases e3 : off = 0 <;> by_cases e4 : imm = 0 <;> simp [norm, whatM, rwhatM, wideM, swapsM, arithM, jumpsM, movesM, rotherM, rarithM, rmemoryM, onlyB, zerosB, regB, sizeM, sizesM, branchG, atomI, kindW, bne, or_assoc, *]; done)
   | (by_cases e2 : off = 0
      · subst e2
        by_cases e1 : dst = 10 <;> by_cases e3 : src = 0 <;> by_cases e4 : imm = 0 <;> simp [norm, whatM, rwhatM, wideM, swapsM, arithM, jumpsM, movesM, rotherM, rarithM, rmemoryM, onlyB, zerosB, regB, sizeM, sizesM, branchG, atomI, kindW, bne, or_assoc, *]; done
      · by_cases e5 : off = 1
        · subst e5
          by_cases e1 : dst = 10 <;> by_cases e3 : src = 0 <;> by_cases e4 : imm = 0 <;> simp [norm, whatM, rwhatM, wideM, swapsM, arithM, jumpsM, movesM, rotherM, rarithM, rmemoryM, onlyB, zerosB, regB, sizeM, sizesM, branchG, atomI, kindW, bne, or_assoc, *]; done
        · by_cases e1 : dst = 10 <;> by_cases e3 : src = 0 <;> by_cases e4 : imm = 0 <;> simp [norm, whatM, rwhatM, wideM, swapsM, arithM, jumpsM, movesM, rotherM, rarithM, rmemoryM, onlyB, zerosB, regB, sizeM, sizesM, branchG, atomI, kindW, bne, or_assoc, *]; done)
   | (by_cases e3 : src = 0
      · subst e3
        by_cases e1 : dst = 10 <;> by_cases e2 : off = 0 <;> simp [norm, whatM, rwhatM, wideM, swapsM, arithM, jumpsM, movesM, rotherM, rarithM, rmemoryM, onlyB, zerosB, regB, sizeM, sizesM, branchG, atomI, kindW, bne, or_assoc, *]; done
      · by_cases e4 : src = 1
        · subst e4
          by_cases e1 : dst = 10 <;> by_cases e2 : off = 0 <;> simp [norm, whatM, rwhatM, wideM, swapsM, arithM, jumpsM, movesM, rotherM, rarithM, rmemoryM, onlyB, zerosB, regB, sizeM, sizesM, branchG, atomI, kindW, bne, or_assoc, *]; done
        · by_cases e1 : dst = 10 <;> by_cases e2 : off = 0 <;> simp [norm, whatM, rwhatM, wideM, swapsM, arithM, jumpsM, movesM, rotherM, rarithM, rmemoryM, onlyB, zerosB, regB, sizeM, sizesM, branchG, atomI, kindW, bne, or_assoc, *]; done)
   | (by_cases e1 : dst = 10 <;> by_cases e4 : imm = 0 <;> by_cases e2 : off = 0 <;> by_cases e5 : off = 8 <;> by_cases e6 : off = 16 <;> simp [norm, whatM, rwhatM, wideM, swapsM, arithM, jumpsM, movesM, rotherM, rarithM, rmemoryM, onlyB, zerosB, regB, sizeM, sizesM, branchG, atomI, kindW, bne, or_assoc, *]))
def sem (x : Insn) : What × Bool := norm (whatM x)
theorem sem_ref (x : Insn) (h : x.Ok) : norm (rwhatM x) = sem x := (what_eq x h).symm
end Go.Proofs.YtncogaikiceidaaGreat
