/- Instructions in a row, in plain terms. No statement is proved here. -/
import Derived.Test.YtncogaikiceidaaGreatWhat
import Derived.Laws.BitsAllLaws

section
/- Lists of instructions: where they begin, whether they are a program, their bytes. No statement is proved here. -/
namespace Go.Proofs.YtncogaikiceidaaGreat
open Go.RowKit
/-- The instruction at a place. -/
def at' (l : List Insn) (i : Nat) : Insn := l.getD i Insn.zero
theorem at_get {l : List Insn} {i : Nat} (h : i < l.length) : at' l i = l[i] := by simp [at', List.getD_eq_getElem?_getD, h]
/-- Does an instruction begin at a place? -/
def SB (l : List Insn) : Nat → Bool
  | 0 => true
  | i + 1 => !(SB l i && (at' l i).op == 24)
def stepN (l : List Insn) (i : Nat) : Nat := if (at' l i).op = 24 then i + 2 else i + 1
theorem SB_wide {l : List Insn} {i : Nat} (h : SB l i = true) (hw : (at' l i).op = 24) : SB l (i + 1) = false ∧ SB l (i + 2) = true := by
  have h1 : SB l (i + 1) = false := by simp [SB, h, hw]
  exact ⟨h1, by rw [SB, h1]; simp⟩
theorem SB_short {l : List Insn} {i : Nat} (hw : ¬ (at' l i).op = 24) : SB l (i + 1) = true := by simp [SB, hw]
theorem SB_step {l : List Insn} {i : Nat} (h : SB l i = true) : SB l (stepN l i) = true := by
  unfold stepN
  split
  · exact (SB_wide h (by assumption)).2
  · exact SB_short (by assumption)
theorem step_gt (l : List Insn) (i : Nat) : i < stepN l i := by unfold stepN; split <;> omega
theorem step_le (l : List Insn) (i : Nat) : stepN l i ≤ i + 2 := by unfold stepN; split <;> omega
/-- Between a beginning and the next one there is none. -/
theorem SB_between {l : List Insn} {i k : Nat} (h : SB l i = true) (h1 : i < k) (h2 : k < stepN l i) : SB l k = false := by
  unfold stepN at h2
  split at h2
  · obtain rfl : k = i + 1 := by omega
    exact (SB_wide h (by assumption)).1
  · omega
def startsL (l : List Insn) : List Bool := (List.range l.length).map (SB l)
theorem startsL_length (l : List Insn) : (startsL l).length = l.length := by simp [startsL]
theorem startsL_get {l : List Insn} {i : Nat} (h : i < (startsL l).length) : (startsL l)[i] = SB l i := by simp [startsL]
def nextI (l : List Insn) (i : Int) : Int := if i < 0 ∨ (l.length : Int) ≤ i then -1 else (stepN l i.toNat : Int)
theorem nextI_at {l : List Insn} {i : Nat} (h : i < l.length) : nextI l i = stepN l i := by
  unfold nextI; rw [if_neg (by omega)]; simp
def toM (l : List Insn) (i : Nat) : Int × Bool :=
  if (sem (at' l i)).1.kind ≠ 9 ∧ (sem (at' l i)).1.kind ≠ 10 then (0, false)
  else if (at' l i).op = 6 then ((i : Int) + 1 + (at' l i).imm, true) else ((i : Int) + 1 + (at' l i).off, true)
def targetM (l : List Insn) (i : Int) : Int × Bool :=
  if i < 0 ∨ (l.length : Int) ≤ i then (0, false)
  else if (toM l i.toNat).2 = false ∨ (toM l i.toNat).1 < 0 ∨ (l.length : Int) ≤ (toM l i.toNat).1 then (0, false)
  else ((toM l i.toNat).1, true)
def noImm (y : Insn) : Insn := ⟨y.op, y.dst, y.src, y.off, 0⟩
def otherB (l : List Insn) (i : Nat) : Bool := decide ((if (sem (at' l i)).1.kind = 3 then noImm (at' l (i + 1)) else at' l (i + 1)) = Insn.zero)
def wholeB (l : List Insn) (i : Nat) : Bool := (sem (at' l i)).2 && (!((at' l i).op == 24) || decide (i + 1 < l.length) && otherB l i)
def badI (l : List Insn) (i : Nat) : Bool := SB l i && !wholeB l i
def badJ (l : List Insn) (i : Nat) : Bool := SB l i && ((toM l i).2 && !(decide (0 ≤ (toM l i).1) && (decide ((toM l i).1 < l.length) && SB l (toM l i).1.toNat)))
def firstB (p : Nat → Bool) (n : Nat) : Option Nat := (List.range n).find? p
theorem firstB_some {p : Nat → Bool} {n j : Nat} (hj : j < n) (h : p j = true) (hne : ∀ i, i < j → p i = false) : firstB p n = some j := by
  unfold firstB
  rw [List.find?_eq_some_iff_getElem]
  exact ⟨h, j, by simpa using hj, by simp, fun i hi => by simp [hne i hi]⟩
theorem firstB_none {p : Nat → Bool} {n : Nat} (h : ∀ i, i < n → p i = false) : firstB p n = none := by
  unfold firstB
  rw [List.find?_eq_none]
  intro i hi
  simp [h i (by simpa using hi)]
theorem firstB_of_some {p : Nat → Bool} {n j : Nat} (h : firstB p n = some j) : j < n ∧ p j = true ∧ ∀ i, i < j → p i = false := by
  unfold firstB at h
  rw [List.find?_eq_some_iff_getElem] at h
  obtain ⟨h1, k, hk, rfl, h3⟩ := h
  simp at hk
  refine ⟨by simpa using hk, h1, fun i hi => ?_⟩
  have := h3 i (by simpa using hi)
  simpa using this
theorem firstB_of_none {p : Nat → Bool} {n : Nat} (h : firstB p n = none) : ∀ i, i < n → p i = false := by
  unfold firstB at h
  rw [List.find?_eq_none] at h
  intro i hi
  simpa using h i (by simpa using hi)
/-- The last beginning. -/
def lastN (l : List Insn) : Nat := if SB l (l.length - 1) then l.length - 1 else l.length - 2
def endB (l : List Insn) : Bool := (sem (at' l (lastN l))).1.kind == 12 || (sem (at' l (lastN l))).1.kind == 9
def checkM (l : List Insn) : Int × Int :=
  if l.length < 1 ∨ 512 < l.length then (0, 70) else
  match firstB (badI l) l.length with
  | some i => (i, 71)
  | none => match firstB (badJ l) l.length with
    | some i => (i, 72)
    | none => if endB l then (0, 0) else (lastN l, 73)
/-- Of the beginnings below a place the last one. -/
def LastOf (l : List Insn) (j : Nat) (e : Nat) : Prop := (j = 0 ∧ e = 0) ∨ (e < j ∧ SB l e = true ∧ ∀ k, e < k → k < j → SB l k = false)
theorem lastOf_all {l : List Insn} {e : Nat} (h0 : 0 < l.length) (h : LastOf l l.length e) : e = lastN l := by
  rcases h with ⟨h, _⟩ | ⟨h1, h2, h3⟩
  · omega
  · unfold lastN
    split
    · rename_i hs
      rcases Nat.lt_or_ge e (l.length - 1) with hlt | hge
      · rw [h3 _ hlt (by omega)] at hs; cases hs
      · omega
    · rename_i hs
      rcases Nat.lt_or_ge e (l.length - 2) with hlt | hge
      · have e1 := h3 (l.length - 2) hlt (by omega)
        have e2 : SB l (l.length - 2 + 1) = true := by simp [SB, e1]
        rw [show l.length - 2 + 1 = l.length - 1 by omega] at e2
        rw [e2] at hs; cases hs rfl
      · rcases Nat.lt_or_ge e (l.length - 1) with h4 | h4
        · omega
        · obtain rfl : e = l.length - 1 := by omega
          exact absurd h2 hs
theorem lastOf_step {l : List Insn} {j e : Nat} (h : LastOf l j e) (hb : SB l j = false) : LastOf l (j + 1) e := by
  rcases h with ⟨rfl, rfl⟩ | ⟨h1, h2, h3⟩
  · cases hb
  · refine .inr ⟨by omega, h2, fun k hk hk' => ?_⟩
    rcases Nat.lt_or_ge k j with h4 | h4
    · exact h3 k hk h4
    · obtain rfl : k = j := by omega
      exact hb
theorem lastOf_here {l : List Insn} {j : Nat} (hb : SB l j = true) : LastOf l (j + 1) j := .inr ⟨by omega, hb, fun k h1 h2 => absurd h1 (by omega)⟩
/-! the bytes -/
def encL (l : List Insn) : List Int := (l.map Insn.bytes).flatten
theorem encL_length (l : List Insn) : (encL l).length = 8 * l.length := by
  induction l with
  | nil => rfl
  | cons x l ih => simp [encL, Insn.bytes] at ih ⊢; omega
/-! what is known of an instruction that is one -/
theorem norm_yes {r : What × Bool} (h : (norm r).2 = true) : r.2 = true ∧ (norm r).1 = r.1 := by
  unfold norm at *; split at h
  · rename_i hh; exact ⟨hh, by rw [if_pos hh]⟩
  · cases h
theorem sem_no {x : Insn} (h : (sem x).2 = false) : sem x = (What.zero, false) := by
  unfold sem norm at *
  split at h
  · cases h
  · rename_i hh
    rw [if_neg hh]
theorem sem_regs {x : Insn} (h : (sem x).2 = true) : x.dst ≤ 10 ∧ x.src ≤ 10 := by
  by_cases hd : 10 < x.dst ∨ 10 < x.src
  · simp [sem, norm, whatM, hd] at h
  · omega
theorem sem_wide {x : Insn} (h : (sem x).2 = true) (hw : x.op = 24) : x.src = 0 ∧ (sem x).1.kind = 3 ∨ x.src = 1 ∧ (sem x).1.kind = 4 := by
  have hd := sem_regs h
  have hd' : ¬ (10 < x.dst ∨ 10 < x.src) := by omega
  by_cases e0 : x.src = 0
  · have e : whatM x = wideM x := by simp [whatM, hd', hw]
    have hk := (norm_yes h).2
    rw [e] at hk
    exact .inl ⟨e0, by rw [sem, e, hk]; simp [wideM, e0]⟩
  · by_cases e1 : x.src = 1
    · have e : whatM x = wideM x := by simp [whatM, hd', hw]
      have hk := (norm_yes h).2
      rw [e] at hk
      exact .inr ⟨e1, by rw [sem, e, hk]; simp [wideM, e1]⟩
    · simp [sem, norm, whatM, hd', hw, wideM, e0, e1] at h
theorem arithM_kind (x : Insn) : (arithM x).1.kind = 1 := by
  simp only [arithM]
  repeat' split
  all_goals rfl
theorem norm_kind {r : What × Bool} {k : Int} (h : r.1.kind = k) : (norm r).1.kind = k ∨ (norm r).1.kind = 0 := by
  unfold norm; split
  · exact .inl h
  · exact .inr rfl
theorem sem_short {x : Insn} (hw : ¬ x.op = 24) : (sem x).1.kind ≠ 3 ∧ (sem x).1.kind ≠ 4 := by
  unfold sem whatM
  split
  · simp [norm, What.zero]
  split
  · rcases norm_kind (r := swapsM x) (k := 2) rfl with h | h <;> omega
  split
  · rcases norm_kind (arithM_kind x) with h | h <;> omega
  split
  · have : (jumpsM x).1.kind = 9 ∨ (jumpsM x).1.kind = 10 ∨ (jumpsM x).1.kind = 11 ∨ (jumpsM x).1.kind = 12 := by
      by_cases j5 : x.op = 5 <;> by_cases j6 : x.op = 6 <;> by_cases j7 : x.op = 133 <;> by_cases j8 : x.op = 149 <;> simp [jumpsM, kindW, j5, j6, j7, j8]
    rcases this with h | h | h | h <;> rcases norm_kind h with h | h <;> omega
  split
  · simp [norm, What.zero]
  · have : (movesM x).1.kind = 5 ∨ (movesM x).1.kind = 6 ∨ (movesM x).1.kind = 7 ∨ (movesM x).1.kind = 8 ∨ (movesM x).1.kind = 0 := by
      by_cases m1 : x.op % 8 = 1 <;> by_cases m2 : x.op % 8 = 2 <;> by_cases m3 : x.op % 8 = 3 <;> by_cases m4 : x.op / 32 * 32 = 96 <;> simp [movesM, m1, m2, m3, m4]
    rcases this with h | h | h | h | h <;> rcases norm_kind h with h | h <;> omega
/-- The number may be any other one. -/
theorem op_sub (x : Insn) (n : Int) : regB ⟨x.op, x.dst, x.src, x.off, n⟩ = regB x := rfl
def withImm (x : Insn) (n : Int) : Insn := ⟨x.op, x.dst, x.src, x.off, n⟩
def freeImm (w : What) : Bool := !w.reg && (w.kind == 1 && !(w.op == 128) || w.kind == 6 || w.kind == 10 || w.kind == 11)
theorem arithM_imm {x : Insn} (n : Int) (hr : regB x = false) (h8 : ¬ x.op / 16 = 8) : arithM (withImm x n) = arithM x := by
  simp [arithM, withImm, zerosB, hr, h8, op_sub]
theorem arithM_op (x : Insn) : (arithM x).1.op = x.op / 16 * 16 := by
  simp only [arithM]
  repeat' split
  all_goals rfl
theorem arithM_reg (x : Insn) : (arithM x).1.reg = regB x := by
  simp only [arithM]
  repeat' split
  all_goals rfl
theorem sem_imm {x : Insn} (n : Int) (h : (sem x).2 = true) (hf : freeImm (sem x).1 = true) : sem (withImm x n) = sem x := by
  have hd := sem_regs h
  have hd' : ¬ (10 < x.dst ∨ 10 < x.src) := by omega
  have e1 : (withImm x n).op = x.op := rfl
  have e2 : (withImm x n).dst = x.dst := rfl
  have e3 : (withImm x n).src = x.src := rfl
  unfold sem whatM at *
  rw [if_neg hd'] at *
  rw [e1, e2, e3, if_neg hd']
  by_cases c1 : x.op = 24
  · rw [if_pos c1] at *
    obtain ⟨-, hw⟩ := norm_yes h
    rw [hw] at hf
    have : (wideM x).1.kind = 3 ∨ (wideM x).1.kind = 4 ∨ (wideM x).1.kind = 0 := by
      by_cases e0 : x.src = 0 <;> by_cases e1 : x.src = 1 <;> simp [wideM, What.zero, e0, e1]
    simp [freeImm] at hf
    omega
  rw [if_neg c1] at *
  rw [if_neg c1]
  by_cases c2 : x.op = 212 ∨ x.op = 220 ∨ x.op = 215
  · rw [if_pos c2] at *
    obtain ⟨-, hw⟩ := norm_yes h
    rw [hw] at hf
    simp [freeImm, swapsM] at hf
  rw [if_neg c2] at *
  rw [if_neg c2]
  by_cases c3 : x.op % 8 = 4 ∨ x.op % 8 = 7
  · rw [if_pos c3] at *
    rw [if_pos c3]
    obtain ⟨-, hw⟩ := norm_yes h
    rw [hw] at hf
    simp only [freeImm, arithM_kind, arithM_op, arithM_reg] at hf
    simp at hf
    rw [arithM_imm n hf.1 (by omega)]
  rw [if_neg c3] at *
  rw [if_neg c3]
  by_cases c4 : x.op % 8 = 5 ∨ x.op % 8 = 6
  · rw [if_pos c4] at *
    rw [if_pos c4]
    obtain ⟨hy, hw⟩ := norm_yes h
    rw [hw] at hf
    by_cases j5 : x.op = 5
    · simp [jumpsM, j5, freeImm, kindW] at hf
    by_cases j6 : x.op = 6
    · simp [jumpsM, j6, freeImm, kindW] at hf
    by_cases j133 : x.op = 133
    · simp [jumpsM, j133, withImm, zerosB]
    by_cases j149 : x.op = 149
    · simp [jumpsM, j149, freeImm, kindW] at hf
    · simp [jumpsM, freeImm, j5, j6, j133, j149] at hf
      simp [jumpsM, withImm, zerosB, j5, j6, j133, j149, hf, op_sub]
  rw [if_neg c4] at *
  rw [if_neg c4]
  by_cases c5 : x.op % 8 = 0
  · rw [if_pos c5] at h; simp [norm] at h
  rw [if_neg c5] at *
  rw [if_neg c5]
  obtain ⟨hy, hw⟩ := norm_yes h
  rw [hw] at hf
  by_cases m1 : x.op % 8 = 1
  · simp [movesM, m1, freeImm] at hf
  by_cases m2 : x.op % 8 = 2
  · simp [movesM, m2, withImm]
  by_cases m3 : x.op % 8 = 3
  · simp only [movesM, m3] at hf
    simp at hf
    split at hf <;> simp [freeImm] at hf
  · simp [movesM, m1, m2, m3] at hy
/-! what is known of a program -/
structure Prog (l : List Insn) : Prop where
  pos : 1 ≤ l.length
  few : l.length ≤ 512
  whole : ∀ i, i < l.length → SB l i = true → wholeB l i = true
  jump : ∀ i, i < l.length → badJ l i = false
  ends : endB l = true
theorem check_prog {l : List Insn} (h : (checkM l).2 = 0) : Prog l := by
  unfold checkM at h
  split at h
  · simp at h
  rename_i hn
  split at h
  · simp at h
  rename_i h1
  split at h
  · simp at h
  rename_i h2
  split at h
  · rename_i h3
    refine ⟨by omega, by omega, fun i hi hs => ?_, firstB_of_none h2, h3⟩
    have := firstB_of_none h1 i hi
    simpa [badI, hs] using this
  · simp at h
theorem prog_check {l : List Insn} (h : Prog l) : checkM l = (0, 0) := by
  unfold checkM
  rw [if_neg (by have := h.pos; have := h.few; omega), firstB_none (p := badI l) (fun i hi => ?_)]
  · simp only
    rw [firstB_none (p := badJ l) h.jump]
    simp only
    rw [if_pos h.ends]
  · cases hs : SB l i
    · simp [badI, hs]
    · simp [badI, hs, h.whole i hi hs]
theorem check_zero {l : List Insn} (h : (checkM l).2 = 0) : checkM l = (0, 0) := prog_check (check_prog h)
theorem Prog.ok {l : List Insn} (h : Prog l) {i : Nat} (hi : i < l.length) (hs : SB l i = true) : (sem (at' l i)).2 = true := by
  have := h.whole i hi hs
  simp [wholeB] at this
  exact this.1
theorem Prog.half {l : List Insn} (h : Prog l) {i : Nat} (hi : i < l.length) (hs : SB l i = true) (hw : (at' l i).op = 24) : i + 1 < l.length ∧ otherB l i = true := by
  have := h.whole i hi hs
  simp [wholeB, hw] at this
  exact this.2
theorem Prog.step_le {l : List Insn} (h : Prog l) {i : Nat} (hi : i < l.length) (hs : SB l i = true) : stepN l i ≤ l.length := by
  unfold stepN
  split
  · have := (h.half hi hs (by assumption)).1; omega
  · omega
theorem Prog.next {l : List Insn} (h : Prog l) {i : Nat} (hi : i < l.length) (hs : SB l i = true) (hk : (sem (at' l i)).1.kind ≠ 12) (hk' : (sem (at' l i)).1.kind ≠ 9) : stepN l i < l.length ∧ SB l (stepN l i) = true := by
  refine ⟨?_, SB_step hs⟩
  rcases Nat.lt_or_ge (stepN l i) l.length with h1 | h1
  · exact h1
  exfalso
  have hlast : i = lastN l := by
    refine lastOf_all (by omega) (.inr ⟨hi, hs, fun k hk hk' => SB_between hs hk (by omega)⟩)
  have := h.ends
  unfold endB at this
  rw [← hlast] at this
  simp at this
  omega
theorem toM_jumps (l : List Insn) (i : Nat) : (toM l i).2 = ((sem (at' l i)).1.kind == 9 || (sem (at' l i)).1.kind == 10) := by
  unfold toM
  split
  · rename_i h; simp [h]
  · rename_i h
    have : (sem (at' l i)).1.kind = 9 ∨ (sem (at' l i)).1.kind = 10 := by omega
    split <;> simpa using this
theorem Prog.target {l : List Insn} (h : Prog l) {i : Nat} (hi : i < l.length) (hs : SB l i = true) (hj : (toM l i).2 = true) : ∃ t : Nat, t < l.length ∧ SB l t = true ∧ targetM l i = ((t : Int), true) := by
  have := h.jump i hi
  simp [badJ, hs, hj] at this
  obtain ⟨h1, h2, h3⟩ := this
  refine ⟨(toM l i).1.toNat, by omega, h3, ?_⟩
  unfold targetM
  rw [if_neg (by omega)]
  simp only [Int.toNat_natCast]
  rw [if_neg (by rw [hj]; simp; omega)]
  congr 1
  omega
theorem target_none {l : List Insn} {i : Nat} (hj : (toM l i).2 = false) : targetM l i = (0, false) := by
  unfold targetM
  split
  · rfl
  · simp [hj]
/-- All registers of a program are small. -/
theorem Prog.regs {l : List Insn} (h : Prog l) {i : Nat} (hi : i < l.length) : (at' l i).dst ≤ 10 ∧ (at' l i).src ≤ 10 := by
  cases hs : SB l i
  · match i, hs, hi with
    | i + 1, hs, hi =>
      have h1 : SB l i = true ∧ (at' l i).op = 24 := by simpa [SB] using hs
      have h2 := (h.half (by omega) h1.1 h1.2).2
      simp only [otherB, decide_eq_true_eq] at h2
      split at h2
      · have e1 := congrArg Insn.dst h2
        have e2 := congrArg Insn.src h2
        simp [noImm, Insn.zero] at e1 e2
        omega
      · rw [h2]; simp [Insn.zero]
  · exact sem_regs (h.ok hi hs)
/-! the number of a place -/
theorem at_set {l : List Insn} {i k : Nat} {x : Insn} (hi : i < l.length) : at' (l.set i x) k = if k = i then x else at' l k := by
  unfold at'
  simp only [List.getD_eq_getElem?_getD, List.getElem?_set]
  by_cases h : i = k
  · subst h; simp [hi]
  · rw [if_neg h, if_neg (fun e => h e.symm)]
theorem SB_congr {l m : List Insn} (h : ∀ k, (at' m k).op = (at' l k).op) : ∀ i, SB m i = SB l i
  | 0 => rfl
  | i + 1 => by rw [SB, SB, SB_congr h i, h i]
theorem free_op {x : Insn} (h : (sem x).2 = true) (hf : freeImm (sem x).1 = true) : ¬ x.op = 6 ∧ ¬ x.op = 24 := by
  have hd := sem_regs h
  have hd' : ¬ (10 < x.dst ∨ 10 < x.src) := by omega
  constructor
  · intro h6
    have e : whatM x = jumpsM x := by simp [whatM, hd', h6]
    have hk := (norm_yes h).2
    rw [e] at hk
    rw [sem, e, hk] at hf
    simp [jumpsM, h6, freeImm, kindW] at hf
  · intro h24
    rcases sem_wide h h24 with ⟨_, hk⟩ | ⟨_, hk⟩ <;> simp [freeImm, hk] at hf
theorem Prog.set {l : List Insn} (h : Prog l) {i : Nat} (hi : i < l.length) (hs : SB l i = true) (hf : freeImm (sem (at' l i)).1 = true) (n : Int) : Prog (l.set i (withImm (at' l i) n)) := by
  have hok := h.ok hi hs
  have hfo := free_op hok hf
  have hat : ∀ k, at' (l.set i (withImm (at' l i) n)) k = if k = i then withImm (at' l i) n else at' l k := fun k => at_set hi
  have hop : ∀ k, (at' (l.set i (withImm (at' l i) n)) k).op = (at' l k).op := fun k => by
    rw [hat]; split
    · subst_vars; rfl
    · rfl
  have hsem : ∀ k, sem (at' (l.set i (withImm (at' l i) n)) k) = sem (at' l k) := fun k => by
    rw [hat]; split
    · subst_vars; exact sem_imm n hok hf
    · rfl
  have hSB := SB_congr hop
  have hlen : (l.set i (withImm (at' l i) n)).length = l.length := by simp
  generalize l.set i (withImm (at' l i) n) = m at *
  have hto : ∀ k, toM m k = toM l k := fun k => by
    unfold toM
    rw [hsem, hop]
    by_cases hk : k = i
    · subst hk
      rw [if_neg hfo.1, if_neg hfo.1, hat, if_pos rfl]
      rfl
    · rw [hat, if_neg hk]
  refine ⟨by rw [hlen]; exact h.pos, by rw [hlen]; exact h.few, fun k hk hs' => ?_, fun k hk => ?_, ?_⟩
  · rw [hSB] at hs'
    rw [hlen] at hk
    have h1 := h.whole k hk hs'
    unfold wholeB at *
    rw [hsem, hop, hlen]
    by_cases hw : (at' l k).op = 24
    · have hne : ¬ k + 1 = i := by
        intro e
        subst e
        rw [(SB_wide hs' hw).1] at hs
        cases hs
      have ho : otherB m k = otherB l k := by unfold otherB; rw [hsem, hat (k + 1), if_neg hne]
      rw [ho]; exact h1
    · simp [hw] at h1 ⊢
      exact h1
  · rw [hlen] at hk
    have := h.jump k hk
    unfold badJ at *
    rw [hto, hSB, hSB, hlen]; exact this
  · have := h.ends
    unfold endB lastN at *
    rw [hSB, hlen, hsem]; exact this
/-! how many there are -/
def cntS (l : List Insn) : Nat → Nat
  | 0 => 0
  | i + 1 => cntS l i + (if SB l i then 1 else 0)
theorem cnt_step {l : List Insn} {i : Nat} (h : SB l i = true) : cntS l (stepN l i) = cntS l i + 1 := by
  unfold stepN
  split
  · have := (SB_wide h (by assumption)).1
    simp [cntS, this, h]
  · simp [cntS, h]
theorem cnt_le (l : List Insn) : ∀ i, cntS l i ≤ i
  | 0 => Nat.le_refl _
  | i + 1 => by have := cnt_le l i; unfold cntS; split <;> omega
theorem cnt_pos (l : List Insn) : ∀ i, 1 ≤ i → 1 ≤ cntS l i
  | 1, _ => by simp [cntS, SB]
  | i + 2, _ => by have := cnt_pos l (i + 1) (by omega); unfold cntS; omega
/-! eights of bytes -/
def insns : List Int → List Insn
  | b0 :: b1 :: b2 :: b3 :: b4 :: b5 :: b6 :: b7 :: r => takeI b0 b1 b2 b3 b4 b5 b6 b7 :: insns r
  | _ => []
theorem takeI_bytes {b0 b1 b2 b3 b4 b5 b6 b7 : Int} (h : ∀ b ∈ [b0, b1, b2, b3, b4, b5, b6, b7], isByte b) : (takeI b0 b1 b2 b3 b4 b5 b6 b7).bytes = [b0, b1, b2, b3, b4, b5, b6, b7] := by
  have h0 := h b0 (by simp); have h1 := h b1 (by simp); have h2 := h b2 (by simp); have h3 := h b3 (by simp); have h4 := h b4 (by simp); have h5 := h b5 (by simp); have h6 := h b6 (by simp); have h7 := h b7 (by simp)
  unfold isByte at *
  simp only [takeI, Insn.bytes, List.cons.injEq, and_true, true_and]
  omega
theorem takeI_of_bytes {x : Insn} (h : x.Ok) (hd : x.dst ≤ 15) (hs : x.src ≤ 15) : takeI x.op (x.dst + 16 * x.src) (x.off % 256) (x.off / 256 % 256) (x.imm % 256) (x.imm / 256 % 256) (x.imm / 65536 % 256) (x.imm / 16777216 % 256) = x := by
  obtain ⟨op, d, s, o, i⟩ := x
  obtain ⟨p1, p2, p3, p4, p5, p6, p7, p8, p9, p10⟩ := h
  simp only at *
  simp only [takeI, Insn.mk.injEq, true_and]
  omega
theorem insns_enc : ∀ {l : List Insn}, (∀ x ∈ l, x.Ok) → (∀ x ∈ l, x.dst ≤ 15 ∧ x.src ≤ 15) → insns (encL l) = l
  | [], _, _ => rfl
  | x :: l, h, h' => by
    have ih := insns_enc (l := l) (fun y hy => h y (by simp [hy])) (fun y hy => h' y (by simp [hy]))
    have hx := takeI_of_bytes (h x (by simp)) (h' x (by simp)).1 (h' x (by simp)).2
    show insns (x.bytes ++ encL l) = _
    show takeI x.op (x.dst + 16 * x.src) (x.off % 256) (x.off / 256 % 256) (x.imm % 256) (x.imm / 256 % 256) (x.imm / 65536 % 256) (x.imm / 16777216 % 256) :: insns (encL l) = _
    rw [hx, ih]
theorem enc_insns : ∀ {n : Nat} {b : List Int}, b.length = 8 * n → (∀ c ∈ b, isByte c) → encL (insns b) = b ∧ (insns b).length = n
  | 0, b, hn, _ => by
    have : b = [] := List.eq_nil_of_length_eq_zero (by omega)
    subst this; exact ⟨rfl, rfl⟩
  | n + 1, b, hn, hb => by
    match b, hn, hb with
    | b0 :: b1 :: b2 :: b3 :: b4 :: b5 :: b6 :: b7 :: r, hn, hb =>
      have ih := enc_insns (n := n) (b := r) (by simp at hn; omega) (fun c hc => hb c (by simp [hc]))
      refine ⟨?_, by simp [insns, ih.2]⟩
      show (takeI b0 b1 b2 b3 b4 b5 b6 b7).bytes ++ encL (insns r) = _
      rw [ih.1, takeI_bytes (fun c hc => hb c (by simp at hc ⊢; omega))]
      rfl
theorem takeI_okay {b0 b1 b2 b3 b4 b5 b6 b7 : Int} (h0 : isByte b0) (h1 : isByte b1) : (takeI b0 b1 b2 b3 b4 b5 b6 b7).Ok := by
  unfold isByte at *
  constructor <;> simp only [takeI] <;> omega
theorem insns_ok : ∀ {n : Nat} {b : List Int}, b.length = 8 * n → (∀ c ∈ b, isByte c) → ∀ x ∈ insns b, x.Ok
  | 0, b, hn, _ => by
    have : b = [] := List.eq_nil_of_length_eq_zero (by omega)
    subst this; intro x hx; cases hx
  | n + 1, b, hn, hb => by
    match b, hn, hb with
    | b0 :: b1 :: b2 :: b3 :: b4 :: b5 :: b6 :: b7 :: r, hn, hb =>
      have ih := insns_ok (n := n) (b := r) (by simp at hn; omega) (fun c hc => hb c (by simp [hc]))
      intro x hx
      simp only [insns, List.mem_cons] at hx
      rcases hx with rfl | hx
      · exact takeI_okay (hb _ (by simp)) (hb _ (by simp))
      · exact ih x hx
/-- The program that bytes are. -/
def decM (b : List Int) : List Insn × Int × Int :=
  if b.length % 8 ≠ 0 ∨ 4096 < b.length then ([], 0, 70)
  else if (checkM (insns b)).2 = 0 then (insns b, 0, 0) else ([], (checkM (insns b)).1, (checkM (insns b)).2)
/-- The bytes that a program is. -/
def encM (l : List Insn) : List Int × Int × Int := if (checkM l).2 = 0 then (encL l, 0, 0) else ([], (checkM l).1, (checkM l).2)
theorem Prog.all_regs {l : List Insn} (h : Prog l) : ∀ x ∈ l, x.dst ≤ 15 ∧ x.src ≤ 15 := by
  intro x hx
  obtain ⟨i, hi, rfl⟩ := List.getElem_of_mem hx
  have := h.regs hi
  rw [at_get hi] at this
  omega
theorem back_one {l : List Insn} (hl : ∀ x ∈ l, x.Ok) (h : (checkM l).2 = 0) : decM (encL l) = (l, 0, 0) := by
  have hp := check_prog h
  unfold decM
  have := hp.few
  rw [if_neg (by rw [encL_length]; omega), insns_enc hl hp.all_regs, if_pos h]
theorem dec_yes {b : List Int} (hb : ∀ c ∈ b, isByte c) (h : (decM b).2.2 = 0) : b.length % 8 = 0 ∧ b.length ≤ 4096 ∧ decM b = (insns b, 0, 0) ∧ (checkM (insns b)).2 = 0 ∧ encM (insns b) = (b, 0, 0) ∧ 8 * (insns b).length = b.length := by
  unfold decM at *
  split at h
  · simp at h
  rename_i hn
  split at h
  · rename_i hc
    have he := enc_insns (n := b.length / 8) (b := b) (by omega) hb
    refine ⟨by omega, by omega, by rw [if_neg hn, if_pos hc], hc, ?_, by omega⟩
    unfold encM
    rw [if_pos hc, he.1]
  · simp at h; contradiction
theorem dec_no {b : List Int} (h : (decM b).2.2 ≠ 0) : (decM b).1 = [] := by
  unfold decM at *
  split
  · rfl
  · rename_i hn
    rw [if_neg hn] at h
    split
    · rename_i hc; rw [if_pos hc] at h; exact absurd rfl h
    · rfl
end Go.Proofs.YtncogaikiceidaaGreat
end

section
/- Slices of instructions: their cells, and what is read of one. No statement is proved here. -/
namespace Go.Proofs.YtncogaikiceidaaGreat
open Go.RowKit
def insnsV (l : List Insn) : List Value := (l.map Insn.cells).flatten
theorem insnsV_length (l : List Insn) : (insnsV l).length = l.length * 5 := by
  induction l with
  | nil => rfl
  | cons x l ih =>
    show (x.cells ++ insnsV l).length = _
    rw [List.length_append, ih]
    simp [Insn.cells]
    omega
theorem insnsV_append (l m : List Insn) : insnsV (l ++ m) = insnsV l ++ insnsV m := by simp [insnsV]
theorem insnsV_get : ∀ {l : List Insn} {k j : Nat}, k < l.length → j < 5 → (insnsV l)[k * 5 + j]? = (at' l k).cells[j]?
  | x :: l, 0, j, _, hj => by
    show (x.cells ++ insnsV l)[0 * 5 + j]? = _
    rw [List.getElem?_append_left (by simp [Insn.cells]; omega)]
    simp [at']
  | x :: l, k + 1, j, hk, hj => by
    show (x.cells ++ insnsV l)[(k + 1) * 5 + j]? = _
    have h5 : x.cells.length = 5 := rfl
    rw [List.getElem?_append_right (by omega), h5, show (k + 1) * 5 + j - 5 = k * 5 + j by omega, insnsV_get (by simpa using hk) hj]
    simp [at']
theorem SAt.insn {W : World} {B : Nat} {A : Option Addr} {l : List Insn} (h : SAt W B 5 A l.length (insnsV l)) {k : Nat} (hk : k < l.length) :
    ∃ b o, A = some ⟨b, o, none⟩ ∧ b < B ∧ (∀ w', Below B W w' → w'.cell? ⟨b, o + k * 5, none⟩ = some (.int .u8 (at' l k).op)) ∧ (∀ w', Below B W w' → w'.cell? ⟨b, o + k * 5 + 1, none⟩ = some (.int .u8 (at' l k).dst)) ∧
     (∀ w', Below B W w' → w'.cell? ⟨b, o + k * 5 + 2, none⟩ = some (.int .u8 (at' l k).src)) ∧ (∀ w', Below B W w' → w'.cell? ⟨b, o + k * 5 + 3, none⟩ = some (.int .i16 (at' l k).off)) ∧ (∀ w', Below B W w' → w'.cell? ⟨b, o + k * 5 + 4, none⟩ = some (.int .i32 (at' l k).imm)) := by
  obtain ⟨b, o, rfl, hb, hc⟩ := h.2 (by omega)
  have hj : ∀ j u, j < 5 → (at' l k).cells[j]? = some u → ∀ w', Below B W w' → w'.cell? ⟨b, o + k * 5 + j, none⟩ = some u := by
    intro j u hj hu w' hw
    rw [Nat.add_assoc, hw.cell hb]
    exact hc _ _ (by rw [insnsV_get hk hj, hu])
  exact ⟨b, o, rfl, hb, hj 0 _ (by omega) rfl, hj 1 _ (by omega) rfl, hj 2 _ (by omega) rfl, hj 3 _ (by omega) rfl, hj 4 _ (by omega) rfl⟩
theorem at_ok {l : List Insn} (h : ∀ x ∈ l, x.Ok) (k : Nat) : (at' l k).Ok := by
  rcases Nat.lt_or_ge k l.length with hk | hk
  · rw [at_get hk]; exact h _ (List.getElem_mem hk)
  · rw [at', List.getD_eq_getElem?_getD, List.getElem?_eq_none hk]; exact Insn.zero_ok
theorem SAt.few {W : World} {B : Nat} {A : Option Addr} {l : List Insn} (h : SAt W B 5 A l.length (insnsV l)) (n : Nat) : SAt W B 5 A (l.take n).length (insnsV (l.take n)) := by
  have := h.cut (k := (l.take n).length) (by simp; omega)
  have e : (insnsV l).take ((l.take n).length * 5) = insnsV (l.take n) := by
    have e2 : insnsV l = insnsV (l.take n) ++ insnsV (l.drop n) := by rw [← insnsV_append, List.take_append_drop]
    rw [e2, List.take_append_of_le_length (by rw [insnsV_length]; exact Nat.le_refl _)]
    exact List.take_of_length_le (by rw [insnsV_length]; exact Nat.le_refl _)
  rwa [e] at this
end Go.Proofs.YtncogaikiceidaaGreat
end

section
/- Parts of rows of bytes, and what a byte that is changed comes to. No statement is proved here. -/
namespace Go.Proofs.YtncogaikiceidaaGreat
open Go.RowKit
theorem SAt.part {w : World} {B : Nat} {A : Option Addr} {n : Nat} {xs : List Value} (h : SAt w B 1 A n xs) {i m : Nat} (him : i + m ≤ n) (hm : 0 < m) :
    ∃ b o, A = some ⟨b, o, none⟩ ∧ b < B ∧ SAt w B 1 (some ⟨b, o + i, none⟩) m ((xs.drop i).take m) := by
  obtain ⟨b, o, rfl, hb, hc⟩ := h.2 (by omega)
  have hl := h.1
  refine ⟨b, o, rfl, hb, by rw [List.length_take, List.length_drop]; omega, fun _ => ⟨b, o + i, rfl, hb, fun j u hu => ?_⟩⟩
  rw [List.getElem?_take] at hu
  split at hu
  · rw [List.getElem?_drop] at hu
    rw [Nat.add_assoc]
    exact hc _ _ hu
  · cases hu
theorem insns_at : ∀ {j : Nat} {b : List Int}, 8 * j + 8 ≤ b.length → at' (insns b) j = (takeL ((b.drop (8 * j)).take 8)).1 ∧ (takeL ((b.drop (8 * j)).take 8)).2 = 0
  | 0, b, h => by
    match b, h with
    | b0 :: b1 :: b2 :: b3 :: b4 :: b5 :: b6 :: b7 :: r, h => exact ⟨rfl, rfl⟩
  | j + 1, b, h => by
    match b, h with
    | b0 :: b1 :: b2 :: b3 :: b4 :: b5 :: b6 :: b7 :: r, h =>
      have ih := insns_at (j := j) (b := r) (by simp at h; omega)
      have e : (b0 :: b1 :: b2 :: b3 :: b4 :: b5 :: b6 :: b7 :: r).drop (8 * (j + 1)) = r.drop (8 * j) := by
        rw [show 8 * (j + 1) = 8 * j + 8 by omega]
        rfl
      rw [e]
      exact ih
theorem insns_len {b : List Int} (h : b.length % 8 = 0) : 8 * (insns b).length = b.length := by
  have : ∀ {n : Nat} {b : List Int}, b.length = 8 * n → (insns b).length = n := by
    intro n
    induction n with
    | zero =>
      intro b hn
      have : b = [] := List.eq_nil_of_length_eq_zero (by omega)
      subst this; rfl
    | succ n ih =>
      intro b hn
      match b, hn with
      | b0 :: b1 :: b2 :: b3 :: b4 :: b5 :: b6 :: b7 :: r, hn =>
        simp only [insns, List.length_cons]
        rw [ih (by simp at hn; omega)]
  rw [this (n := b.length / 8) (by omega)]
  omega
theorem take_step {l : List Insn} {j : Nat} (hj : j < l.length) : l.take (j + 1) = l.take j ++ [at' l j] := by
  rw [at_get hj, List.take_add_one, List.getElem?_eq_getElem hj]; rfl
theorem encL_step {l : List Insn} {j : Nat} (hj : j < l.length) : encL (l.take (j + 1)) = encL (l.take j) ++ (at' l j).bytes := by
  rw [take_step hj]; simp [encL]
theorem insnsV_step {l : List Insn} {j : Nat} (hj : j < l.length) : insnsV (l.take (j + 1)) = insnsV (l.take j) ++ (at' l j).cells := by
  rw [take_step hj, insnsV_append]; simp [insnsV]
/-! a byte that is changed -/
theorem xor_byte {a b : Int} (ha : isByte a) (hb : isByte b) : isByte (bits .xor .u8 a b) ∧ (bits .xor .u8 a b = a ↔ b = 0) := by
  obtain ⟨n, rfl⟩ := Int.eq_ofNat_of_zero_le ha.1
  obtain ⟨m, rfl⟩ := Int.eq_ofNat_of_zero_le hb.1
  have h1 := ha.2
  have h2 := hb.2
  rw [u8_xor_nat n m (by omega) (by omega)]
  have h3 : n ^^^ m < 2 ^ 8 := Nat.xor_lt_two_pow (by omega) (by omega)
  refine ⟨⟨by omega, by omega⟩, ?_⟩
  constructor
  · intro h
    have e : n ^^^ m = n := by omega
    have : n ^^^ (n ^^^ m) = n ^^^ n := by rw [e]
    rw [← Nat.xor_assoc, Nat.xor_self, Nat.zero_xor] at this
    omega
  · intro h
    obtain rfl : m = 0 := by omega
    simp
theorem bytes_ok {x : Insn} (h : x.Ok) (hd : x.dst ≤ 15) (hs : x.src ≤ 15) : ∀ b ∈ x.bytes, isByte b := by
  obtain ⟨p1, p2, p3, p4, p5, p6, p7, p8, p9, p10⟩ := h
  intro b hb
  simp only [Insn.bytes, List.mem_cons, List.not_mem_nil, or_false] at hb
  unfold isByte
  rcases hb with rfl | rfl | rfl | rfl | rfl | rfl | rfl | rfl <;> omega
theorem encL_ok {l : List Insn} (hl : ∀ x ∈ l, x.Ok) (hr : ∀ x ∈ l, x.dst ≤ 15 ∧ x.src ≤ 15) : ∀ b ∈ encL l, isByte b := by
  intro b hb
  simp only [encL, List.mem_flatten, List.mem_map] at hb
  obtain ⟨_, ⟨x, hx, rfl⟩, hb⟩ := hb
  exact bytes_ok (hl x hx) (hr x hx).1 (hr x hx).2 b hb
theorem cut_law {l : List Insn} (hl : ∀ x ∈ l, x.Ok) (h : (checkM l).2 = 0) {k : Nat} (hk : k < (encL l).length) {y : Int} (hy : isByte y) (hd : (decM ((encL l).set k (bits .xor .u8 (encL l)[k] y))).2.2 = 0) :
    (decM ((encL l).set k (bits .xor .u8 (encL l)[k] y))).1 = l ↔ y = 0 := by
  have hp := check_prog h
  have hb := encL_ok hl hp.all_regs
  have hx := xor_byte (hb _ (List.getElem_mem hk)) hy
  have hq : ∀ b ∈ (encL l).set k (bits .xor .u8 (encL l)[k] y), isByte b := by
    intro b hb'
    rcases List.mem_or_eq_of_mem_set hb' with h1 | h1
    · exact hb b h1
    · rw [h1]; exact hx.1
  obtain ⟨h1, h2, h3, h4, h5, h6⟩ := dec_yes hq hd
  constructor
  · intro he
    rw [h3] at he
    simp only at he
    rw [he] at h5
    have h7 : encL l = (encL l).set k (bits .xor .u8 (encL l)[k] y) := by
      have := congrArg Prod.fst h5
      simpa [encM, h] using this
    have h8 := congrArg (fun m => m[k]?) h7
    simp only [List.getElem?_set_self hk, List.getElem?_eq_getElem hk, Option.some.injEq] at h8
    exact hx.2.1 h8.symm
  · intro h0
    rw [hx.2.2 h0, List.set_getElem_self, back_one hl h]
end Go.Proofs.YtncogaikiceidaaGreat
end
