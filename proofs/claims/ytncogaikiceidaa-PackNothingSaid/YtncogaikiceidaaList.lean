/- Instructions in a row, in plain terms. No statement is proved here. -/
import Derived.Test.YtncogaikiceidaaInsn1
import Derived.Laws.BitsAllLaws
section
/- Lists of instructions: where they begin, whether they are a program, their bytes. No statement is proved here. -/
namespace Go.Proofs.Ytncogaikiceidaa
open Go.RowKit
/-- The instruction at a place. -/
def at' (l : List Insn) (i : Nat) : Insn := l.getD i Insn.zero
theorem at_get {l : List Insn} {i : Nat} (h : i < l.length) : at' l i = l[i] := by simp [at', List.getD_eq_getElem?_getD, h]
/-- Does an instruction begin at a place? -/
def SB (l : List Insn) : Nat → Bool
  | 0 => true
  | i + 1 => !(SB l i && (at' l i).op == 24)
def stepN (l : List Insn) (i : Nat) : Nat := if (at' l i).op = 24 then i + 2 else i + 1
theorem SB_wide {l : List Insn} {i : Nat} (h : SB l i = true) (hw : (at' l i).op = 24) : SB l (i + 1) = false ∧ SB l (i + 2) = true := by
  have h1 : SB l (i + 1) = false := by simp [SB, h, hw]
  exact ⟨h1, by rw [SB, h1]; simp⟩
theorem SB_short {l : List Insn} {i : Nat} (hw : ¬ (at' l i).op = 24) : SB l (i + 1) = true := by simp [SB, hw]
theorem SB_step {l : List Insn} {i : Nat} (h : SB l i = true) : SB l (stepN l i) = true := by
  unfold stepN
  split
  · exact (SB_wide h (by assumption)).2
  · exact SB_short (by assumption)
theorem step_gt (l : List Insn) (i : Nat) : i < stepN l i := by unfold stepN; split <;> omega
theorem step_le (l : List Insn) (i : Nat) : stepN l i ≤ i + 2 := by unfold stepN; split <;> omega
/-- Between a beginning and the next one there is none. -/
theorem SB_between {l : List Insn} {i k : Nat} (h : SB l i = true) (h1 : i < k) (h2 : k < stepN l i) : SB l k = false := by
  unfold stepN at h2
  split at h2
  · obtain rfl : k = i + 1 := by omega
    exact (SB_wide h (by assumption)).1
  · omega
def startsL (l : List Insn) : List Bool := (List.range l.length).map (SB l)
def nextI (l : List Insn) (i : Int) : Int := if i < 0 ∨ (l.length : Int) ≤ i then -1 else (stepN l i.toNat : Int)
theorem nextI_at {l : List Insn} {i : Nat} (h : i < l.length) : nextI l i = stepN l i := by
  unfold nextI; rw [if_neg (by omega)]; simp
def toM (l : List Insn) (i : Nat) : Int × Bool :=
  if (sem (at' l i)).1.kind ≠ 9 ∧ (sem (at' l i)).1.kind ≠ 10 then (0, false)
  else if (at' l i).op = 6 then ((i : Int) + 1 + (at' l i).imm, true) else ((i : Int) + 1 + (at' l i).off, true)
def targetM (l : List Insn) (i : Int) : Int × Bool :=
  if i < 0 ∨ (l.length : Int) ≤ i then (0, false)
  else if (toM l i.toNat).2 = false ∨ (toM l i.toNat).1 < 0 ∨ (l.length : Int) ≤ (toM l i.toNat).1 then (0, false)
  else ((toM l i.toNat).1, true)
def noImm (y : Insn) : Insn := ⟨y.op, y.dst, y.src, y.off, 0⟩
def otherB (l : List Insn) (i : Nat) : Bool := decide ((if (sem (at' l i)).1.kind = 3 then noImm (at' l (i + 1)) else at' l (i + 1)) = Insn.zero)
def wholeB (l : List Insn) (i : Nat) : Bool := (sem (at' l i)).2 && (!((at' l i).op == 24) || decide (i + 1 < l.length) && otherB l i)
def badI (l : List Insn) (i : Nat) : Bool := SB l i && !wholeB l i
def badJ (l : List Insn) (i : Nat) : Bool := SB l i && ((toM l i).2 && !(decide (0 ≤ (toM l i).1) && (decide ((toM l i).1 < l.length) && SB l (toM l i).1.toNat)))
def firstB (p : Nat → Bool) (n : Nat) : Option Nat := (List.range n).find? p
theorem firstB_some {p : Nat → Bool} {n j : Nat} (hj : j < n) (h : p j = true) (hne : ∀ i, i < j → p i = false) : firstB p n = some j := by
  unfold firstB
  rw [List.find?_eq_some_iff_getElem]
  exact ⟨h, j, by simpa using hj, by simp, fun i hi => by simp [hne i hi]⟩
theorem firstB_none {p : Nat → Bool} {n : Nat} (h : ∀ i, i < n → p i = false) : firstB p n = none := by
  unfold firstB
  rw [List.find?_eq_none]
  intro i hi
  simp [h i (by simpa using hi)]
theorem firstB_of_none {p : Nat → Bool} {n : Nat} (h : firstB p n = none) : ∀ i, i < n → p i = false := by
  unfold firstB at h
  rw [List.find?_eq_none] at h
  intro i hi
  simpa using h i (by simpa using hi)
/-- The last beginning. -/
def lastN (l : List Insn) : Nat := if SB l (l.length - 1) then l.length - 1 else l.length - 2
def endB (l : List Insn) : Bool := (sem (at' l (lastN l))).1.kind == 12 || (sem (at' l (lastN l))).1.kind == 9
def checkM (l : List Insn) : Int × Int :=
  if l.length < 1 ∨ 512 < l.length then (0, 70) else
  match firstB (badI l) l.length with
  | some i => (i, 71)
  | none => match firstB (badJ l) l.length with
    | some i => (i, 72)
    | none => if endB l then (0, 0) else (lastN l, 73)
/-- Of the beginnings below a place the last one. -/
def LastOf (l : List Insn) (j : Nat) (e : Nat) : Prop := (j = 0 ∧ e = 0) ∨ (e < j ∧ SB l e = true ∧ ∀ k, e < k → k < j → SB l k = false)
theorem lastOf_all {l : List Insn} {e : Nat} (h0 : 0 < l.length) (h : LastOf l l.length e) : e = lastN l := by
  rcases h with ⟨h, _⟩ | ⟨h1, h2, h3⟩
  · omega
  · unfold lastN
    split
    · rename_i hs
      rcases Nat.lt_or_ge e (l.length - 1) with hlt | hge
      · rw [h3 _ hlt (by omega)] at hs; cases hs
      · omega
    · rename_i hs
      rcases Nat.lt_or_ge e (l.length - 2) with hlt | hge
      · have e1 := h3 (l.length - 2) hlt (by omega)
        have e2 : SB l (l.length - 2 + 1) = true := by simp [SB, e1]
        rw [show l.length - 2 + 1 = l.length - 1 by omega] at e2
        rw [e2] at hs; cases hs rfl
      · rcases Nat.lt_or_ge e (l.length - 1) with h4 | h4
        · omega
        · obtain rfl : e = l.length - 1 := by omega
          exact absurd h2 hs
theorem lastOf_step {l : List Insn} {j e : Nat} (h : LastOf l j e) (hb : SB l j = false) : LastOf l (j + 1) e := by
  rcases h with ⟨rfl, rfl⟩ | ⟨h1, h2, h3⟩
  · cases hb
  · refine .inr ⟨by omega, h2, fun k hk hk' => ?_⟩
    rcases Nat.lt_or_ge k j with h4 | h4
    · exact h3 k hk h4
    · obtain rfl : k = j := by omega
      exact hb
theorem lastOf_here {l : List Insn} {j : Nat} (hb : SB l j = true) : LastOf l (j + 1) j := .inr ⟨by omega, hb, fun k h1 h2 => absurd h1 (by omega)⟩
/-! the bytes -/
/-! what is known of an instruction that is one -/
theorem norm_yes {r : What × Bool} (h : (norm r).2 = true) : r.2 = true ∧ (norm r).1 = r.1 := by
  unfold norm at *; split at h
  · rename_i hh; exact ⟨hh, by rw [if_pos hh]⟩
  · cases h
theorem sem_no {x : Insn} (h : (sem x).2 = false) : sem x = (What.zero, false) := by
  unfold sem norm at *
  split at h
  · cases h
  · rename_i hh
    rw [if_neg hh]
theorem sem_regs {x : Insn} (h : (sem x).2 = true) : x.dst ≤ 10 ∧ x.src ≤ 10 := by
  by_cases hd : 10 < x.dst ∨ 10 < x.src
  · simp [sem, norm, whatM, hd] at h
  · omega
theorem sem_wide {x : Insn} (h : (sem x).2 = true) (hw : x.op = 24) : x.src = 0 ∧ (sem x).1.kind = 3 ∨ x.src = 1 ∧ (sem x).1.kind = 4 := by
  have hd := sem_regs h
  have hd' : ¬ (10 < x.dst ∨ 10 < x.src) := by omega
  by_cases e0 : x.src = 0
  · have e : whatM x = wideM x := by simp [whatM, hd', hw]
    have hk := (norm_yes h).2
    rw [e] at hk
    exact .inl ⟨e0, by rw [sem, e, hk]; simp [wideM, e0]⟩
  · by_cases e1 : x.src = 1
    · have e : whatM x = wideM x := by simp [whatM, hd', hw]
      have hk := (norm_yes h).2
      rw [e] at hk
      exact .inr ⟨e1, by rw [sem, e, hk]; simp [wideM, e1]⟩
    · simp [sem, norm, whatM, hd', hw, wideM, e0, e1] at h
theorem arithM_kind (x : Insn) : (arithM x).1.kind = 1 := by
  simp only [arithM]
  repeat' split
  all_goals rfl
theorem norm_kind {r : What × Bool} {k : Int} (h : r.1.kind = k) : (norm r).1.kind = k ∨ (norm r).1.kind = 0 := by
  unfold norm; split
  · exact .inl h
  · exact .inr rfl
theorem sem_short {x : Insn} (hw : ¬ x.op = 24) : (sem x).1.kind ≠ 3 ∧ (sem x).1.kind ≠ 4 := by
  unfold sem whatM
  split
  · simp [norm, What.zero]
  split
  · rcases norm_kind (r := swapsM x) (k := 2) rfl with h | h <;> omega
  split
  · rcases norm_kind (arithM_kind x) with h | h <;> omega
  split
  · have : (jumpsM x).1.kind = 9 ∨ (jumpsM x).1.kind = 10 ∨ (jumpsM x).1.kind = 11 ∨ (jumpsM x).1.kind = 12 := by
      by_cases j5 : x.op = 5 <;> by_cases j6 : x.op = 6 <;> by_cases j7 : x.op = 133 <;> by_cases j8 : x.op = 149 <;> simp [jumpsM, kindW, j5, j6, j7, j8]
    rcases this with h | h | h | h <;> rcases norm_kind h with h | h <;> omega
  split
  · simp [norm, What.zero]
  · have : (movesM x).1.kind = 5 ∨ (movesM x).1.kind = 6 ∨ (movesM x).1.kind = 7 ∨ (movesM x).1.kind = 8 ∨ (movesM x).1.kind = 0 := by
      by_cases m1 : x.op % 8 = 1 <;> by_cases m2 : x.op % 8 = 2 <;> by_cases m3 : x.op % 8 = 3 <;> by_cases m4 : x.op / 32 * 32 = 96 <;> simp [movesM, m1, m2, m3, m4]
    rcases this with h | h | h | h | h <;> rcases norm_kind h with h | h <;> omega
def withImm (x : Insn) (n : Int) : Insn := ⟨x.op, x.dst, x.src, x.off, n⟩
/-! what is known of a program -/
structure Prog (l : List Insn) : Prop where
  pos : 1 ≤ l.length
  few : l.length ≤ 512
  whole : ∀ i, i < l.length → SB l i = true → wholeB l i = true
  jump : ∀ i, i < l.length → badJ l i = false
  ends : endB l = true
theorem check_prog {l : List Insn} (h : (checkM l).2 = 0) : Prog l := by
  unfold checkM at h
  split at h
  · simp at h
  rename_i hn
  split at h
  · simp at h
  rename_i h1
  split at h
  · simp at h
  rename_i h2
  split at h
  · rename_i h3
    refine ⟨by omega, by omega, fun i hi hs => ?_, firstB_of_none h2, h3⟩
    have := firstB_of_none h1 i hi
    simpa [badI, hs] using this
  · simp at h
theorem prog_check {l : List Insn} (h : Prog l) : checkM l = (0, 0) := by
  unfold checkM
  rw [if_neg (by have := h.pos; have := h.few; omega), firstB_none (p := badI l) (fun i hi => ?_)]
  · simp only
    rw [firstB_none (p := badJ l) h.jump]
    simp only
    rw [if_pos h.ends]
  · cases hs : SB l i
    · simp [badI, hs]
    · simp [badI, hs, h.whole i hi hs]
theorem Prog.ok {l : List Insn} (h : Prog l) {i : Nat} (hi : i < l.length) (hs : SB l i = true) : (sem (at' l i)).2 = true := by
  have := h.whole i hi hs
  simp [wholeB] at this
  exact this.1
theorem Prog.half {l : List Insn} (h : Prog l) {i : Nat} (hi : i < l.length) (hs : SB l i = true) (hw : (at' l i).op = 24) : i + 1 < l.length ∧ otherB l i = true := by
  have := h.whole i hi hs
  simp [wholeB, hw] at this
  exact this.2
theorem Prog.step_le {l : List Insn} (h : Prog l) {i : Nat} (hi : i < l.length) (hs : SB l i = true) : stepN l i ≤ l.length := by
  unfold stepN
  split
  · have := (h.half hi hs (by assumption)).1; omega
  · omega
theorem Prog.next {l : List Insn} (h : Prog l) {i : Nat} (hi : i < l.length) (hs : SB l i = true) (hk : (sem (at' l i)).1.kind ≠ 12) (hk' : (sem (at' l i)).1.kind ≠ 9) : stepN l i < l.length ∧ SB l (stepN l i) = true := by
  refine ⟨?_, SB_step hs⟩
  rcases Nat.lt_or_ge (stepN l i) l.length with h1 | h1
  · exact h1
  exfalso
  have hlast : i = lastN l := by
    refine lastOf_all (by omega) (.inr ⟨hi, hs, fun k hk hk' => SB_between hs hk (by omega)⟩)
  have := h.ends
  unfold endB at this
  rw [← hlast] at this
  simp at this
  omega
theorem toM_jumps (l : List Insn) (i : Nat) : (toM l i).2 = ((sem (at' l i)).1.kind == 9 || (sem (at' l i)).1.kind == 10) := by
  unfold toM
  split
  · rename_i h; simp [h]
  · rename_i h
    have : (sem (at' l i)).1.kind = 9 ∨ (sem (at' l i)).1.kind = 10 := by omega
    split <;> simpa using this
theorem Prog.target {l : List Insn} (h : Prog l) {i : Nat} (hi : i < l.length) (hs : SB l i = true) (hj : (toM l i).2 = true) : ∃ t : Nat, t < l.length ∧ SB l t = true ∧ targetM l i = ((t : Int), true) := by
  have := h.jump i hi
  simp [badJ, hs, hj] at this
  obtain ⟨h1, h2, h3⟩ := this
  refine ⟨(toM l i).1.toNat, by omega, h3, ?_⟩
  unfold targetM
  rw [if_neg (by omega)]
  simp only [Int.toNat_natCast]
  rw [if_neg (by rw [hj]; simp; omega)]
  congr 1
  omega
/-- All registers of a program are small. -/
theorem Prog.regs {l : List Insn} (h : Prog l) {i : Nat} (hi : i < l.length) : (at' l i).dst ≤ 10 ∧ (at' l i).src ≤ 10 := by
  cases hs : SB l i
  · match i, hs, hi with
    | i + 1, hs, hi =>
      have h1 : SB l i = true ∧ (at' l i).op = 24 := by simpa [SB] using hs
      have h2 := (h.half (by omega) h1.1 h1.2).2
      simp only [otherB, decide_eq_true_eq] at h2
      split at h2
      · have e1 := congrArg Insn.dst h2
        have e2 := congrArg Insn.src h2
        simp [noImm, Insn.zero] at e1 e2
        omega
      · rw [h2]; simp [Insn.zero]
  · exact sem_regs (h.ok hi hs)
/-! the number of a place -/
/-! how many there are -/
/-! eights of bytes -/
end Go.Proofs.Ytncogaikiceidaa
end

section
/- Slices of instructions: their cells, and what is read of one. No statement is proved here. -/
namespace Go.Proofs.Ytncogaikiceidaa
open Go.RowKit
def insnsV (l : List Insn) : List Value := (l.map Insn.cells).flatten
theorem insnsV_length (l : List Insn) : (insnsV l).length = l.length * 5 := by
  induction l with
  | nil => rfl
  | cons x l ih =>
    show (x.cells ++ insnsV l).length = _
    rw [List.length_append, ih]
    simp [Insn.cells]
    omega
theorem insnsV_append (l m : List Insn) : insnsV (l ++ m) = insnsV l ++ insnsV m := by simp [insnsV]
theorem insnsV_get : ∀ {l : List Insn} {k j : Nat}, k < l.length → j < 5 → (insnsV l)[k * 5 + j]? = (at' l k).cells[j]?
  | x :: l, 0, j, _, hj => by
    show (x.cells ++ insnsV l)[0 * 5 + j]? = _
    rw [List.getElem?_append_left (by simp [Insn.cells]; omega)]
    simp [at']
  | x :: l, k + 1, j, hk, hj => by
    show (x.cells ++ insnsV l)[(k + 1) * 5 + j]? = _
    have h5 : x.cells.length = 5 := rfl
    rw [List.getElem?_append_right (by omega), h5, show (k + 1) * 5 + j - 5 = k * 5 + j by omega, insnsV_get (by simpa using hk) hj]
    simp [at']
theorem SAt.insn {W : World} {B : Nat} {A : Option Addr} {l : List Insn} (h : SAt W B 5 A l.length (insnsV l)) {k : Nat} (hk : k < l.length) :
    ∃ b o, A = some ⟨b, o, none⟩ ∧ b < B ∧ (∀ w', Below B W w' → w'.cell? ⟨b, o + k * 5, none⟩ = some (.int .u8 (at' l k).op)) ∧ (∀ w', Below B W w' → w'.cell? ⟨b, o + k * 5 + 1, none⟩ = some (.int .u8 (at' l k).dst)) ∧
     (∀ w', Below B W w' → w'.cell? ⟨b, o + k * 5 + 2, none⟩ = some (.int .u8 (at' l k).src)) ∧ (∀ w', Below B W w' → w'.cell? ⟨b, o + k * 5 + 3, none⟩ = some (.int .i16 (at' l k).off)) ∧ (∀ w', Below B W w' → w'.cell? ⟨b, o + k * 5 + 4, none⟩ = some (.int .i32 (at' l k).imm)) := by
  obtain ⟨b, o, rfl, hb, hc⟩ := h.2 (by omega)
  have hj : ∀ j u, j < 5 → (at' l k).cells[j]? = some u → ∀ w', Below B W w' → w'.cell? ⟨b, o + k * 5 + j, none⟩ = some u := by
    intro j u hj hu w' hw
    rw [Nat.add_assoc, hw.cell hb]
    exact hc _ _ (by rw [insnsV_get hk hj, hu])
  exact ⟨b, o, rfl, hb, hj 0 _ (by omega) rfl, hj 1 _ (by omega) rfl, hj 2 _ (by omega) rfl, hj 3 _ (by omega) rfl, hj 4 _ (by omega) rfl⟩
theorem at_ok {l : List Insn} (h : ∀ x ∈ l, x.Ok) (k : Nat) : (at' l k).Ok := by
  rcases Nat.lt_or_ge k l.length with hk | hk
  · rw [at_get hk]; exact h _ (List.getElem_mem hk)
  · rw [at', List.getD_eq_getElem?_getD, List.getElem?_eq_none hk]; exact Insn.zero_ok
theorem SAt.few {W : World} {B : Nat} {A : Option Addr} {l : List Insn} (h : SAt W B 5 A l.length (insnsV l)) (n : Nat) : SAt W B 5 A (l.take n).length (insnsV (l.take n)) := by
  have := h.cut (k := (l.take n).length) (by simp; omega)
  have e : (insnsV l).take ((l.take n).length * 5) = insnsV (l.take n) := by
    have e2 : insnsV l = insnsV (l.take n) ++ insnsV (l.drop n) := by rw [← insnsV_append, List.take_append_drop]
    rw [e2, List.take_append_of_le_length (by rw [insnsV_length]; exact Nat.le_refl _)]
    exact List.take_of_length_le (by rw [insnsV_length]; exact Nat.le_refl _)
  rwa [e] at this
end Go.Proofs.Ytncogaikiceidaa
end

section
/- Parts of rows of bytes, and what a byte that is changed comes to. No statement is proved here. -/
namespace Go.Proofs.Ytncogaikiceidaa
open Go.RowKit
/-! a byte that is changed -/
end Go.Proofs.Ytncogaikiceidaa
end
