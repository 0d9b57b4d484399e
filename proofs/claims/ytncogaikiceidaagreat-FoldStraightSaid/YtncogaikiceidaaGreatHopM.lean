/- Where one comes by jumps alone, and what becomes of instructions: in plain terms. No statement is proved here. -/
import Derived.Test.YtncogaikiceidaaGreatList
namespace Go.Proofs.YtncogaikiceidaaGreat
open Go.RowKit
structure Edit where
  kind : Int
  x : Insn
  to : Int
deriving DecidableEq
def Edit.none : Edit := ⟨0, Insn.zero, 0⟩
def Edit.drop : Edit := ⟨1, Insn.zero, 0⟩
def kindM (l : List Insn) (i : Nat) : Int := (sem (at' l i)).1.kind
def hopN (l : List Insn) : Nat → Nat → Nat
  | 0, i => i
  | n + 1, i => if kindM l i = 9 then hopN l n (targetM l i).1.toNat else i
def followM (l : List Insn) (i : Nat) : Nat := hopN l l.length i
def followI (l : List Insn) (i : Int) : Int := if (checkM l).2 ≠ 0 ∨ i < 0 ∨ (l.length : Int) ≤ i ∨ SB l i.toNat = false then -1 else followM l i.toNat
def jumpE (l : List Insn) (i to : Nat) : Edit :=
  if followM l to = stepN l i then Edit.drop
  else if kindM l (followM l to) = 12 then ⟨2, ⟨149, 0, 0, 0, 0⟩, 0⟩
  else if followM l to ≠ to then ⟨2, ⟨5, 0, 0, 0, 0⟩, followM l to⟩ else Edit.none
def branchE (l : List Insn) (i to : Nat) : Edit :=
  if followM l to = followM l (stepN l i) then Edit.drop
  else if followM l to ≠ to then ⟨2, at' l i, followM l to⟩ else Edit.none
def hopE (l : List Insn) (i : Nat) : Edit :=
  if SB l i = true ∧ kindM l i = 9 then jumpE l i (targetM l i).1.toNat
  else if SB l i = true ∧ kindM l i = 10 then branchE l i (targetM l i).1.toNat
  else Edit.none
def editsM (l : List Insn) : List Edit := if (checkM l).2 ≠ 0 then [] else (List.range l.length).map (hopE l)
/-- A jump's, or a branch's, target is a beginning. -/
theorem Prog.goes {l : List Insn} (h : Prog l) {i : Nat} (hi : i < l.length) (hs : SB l i = true) (hk : kindM l i = 9 ∨ kindM l i = 10) : (targetM l i).2 = true ∧ (targetM l i).1.toNat < l.length ∧ SB l (targetM l i).1.toNat = true ∧ ((targetM l i).1.toNat : Int) = (targetM l i).1 := by
  have hj : (toM l i).2 = true := by
    rw [toM_jumps]
    unfold kindM at hk
    simpa using hk
  obtain ⟨t, h1, h2, h3⟩ := h.target hi hs hj
  rw [h3]
  simp [h1, h2]
theorem Prog.hop_in {l : List Insn} (h : Prog l) : ∀ (n : Nat) {i : Nat}, i < l.length → SB l i = true → hopN l n i < l.length ∧ SB l (hopN l n i) = true
  | 0, i, hi, hs => ⟨hi, hs⟩
  | n + 1, i, hi, hs => by
    unfold hopN
    split
    · obtain ⟨_, h1, h2, _⟩ := h.goes hi hs (.inl (by assumption))
      exact h.hop_in n h1 h2
    · exact ⟨hi, hs⟩
theorem hop_stays {l : List Insn} {i : Nat} (hk : kindM l i ≠ 9) : ∀ n, hopN l n i = i
  | 0 => rfl
  | n + 1 => by simp [hopN, hk]
theorem hop_more {l : List Insn} : ∀ (n : Nat) {i : Nat}, kindM l (hopN l n i) ≠ 9 → hopN l (n + 1) i = hopN l n i
  | 0, i, h => by simp [hopN] at h ⊢; simp [h]
  | n + 1, i, h => by
    by_cases hk : kindM l i = 9
    · have e : ∀ m, hopN l (m + 1) i = hopN l m (targetM l i).1.toNat := fun m => by simp only [hopN]; rw [if_pos hk]
      rw [e] at h
      rw [e, e, hop_more n h]
    · exact (hop_stays hk _).trans (hop_stays hk _).symm
/-- Behind a jump that leads to no Jump one comes to the same from its target. -/
theorem follow_next {l : List Insn} {i : Nat} (hn : 0 < l.length) (hk : kindM l i = 9) (hf : kindM l (followM l i) ≠ 9) : followM l (targetM l i).1.toNat = followM l i := by
  unfold followM at *
  obtain ⟨n, hl⟩ : ∃ n, l.length = n + 1 := ⟨l.length - 1, by omega⟩
  rw [hl] at hf ⊢
  have e : ∀ m, hopN l (m + 1) i = hopN l m (targetM l i).1.toNat := fun m => by simp only [hopN]; rw [if_pos hk]
  rw [e] at hf ⊢
  exact hop_more n hf
theorem follow_stop {l : List Insn} {i : Nat} (hk : kindM l i ≠ 9) : followM l i = i := hop_stays hk _
/-- The places on the way. -/
def wayN (l : List Insn) (i : Nat) : Nat → Nat
  | 0 => i
  | n + 1 => (targetM l (wayN l i n)).1.toNat
theorem hop_way {l : List Insn} : ∀ (n : Nat) {i : Nat}, kindM l (hopN l n i) = 9 → ∀ k, k ≤ n → kindM l (wayN l i k) = 9
  | n, i, h, 0, _ => by
    by_cases hk : kindM l i = 9
    · exact hk
    · rw [hop_stays hk] at h; exact h
  | n + 1, i, h, k + 1, hle => by
    have hk : kindM l i = 9 := by
      by_cases hk : kindM l i = 9
      · exact hk
      · rw [hop_stays hk] at h; exact h
    rw [hopN, if_pos hk] at h
    have e : ∀ k, wayN l i (k + 1) = wayN l (targetM l i).1.toNat k := by
      intro k
      induction k with
      | zero => rfl
      | succ k ih => rw [wayN, ih]; rfl
    rw [e k]
    exact hop_way n h k (by omega)
theorem Prog.way_in {l : List Insn} (h : Prog l) {i : Nat} (hi : i < l.length) (hs : SB l i = true) (hj : ∀ k, k ≤ l.length → kindM l (wayN l i k) = 9) : ∀ k, k ≤ l.length → wayN l i k < l.length ∧ SB l (wayN l i k) = true
  | 0, _ => ⟨hi, hs⟩
  | k + 1, hk => by
    obtain ⟨h1, h2⟩ := h.way_in hi hs hj k (by omega)
    obtain ⟨_, h3, h4, _⟩ := h.goes h1 h2 (.inl (hj k (by omega)))
    exact ⟨h3, h4⟩
theorem Prog.follow_in {l : List Insn} (h : Prog l) {i : Nat} (hi : i < l.length) (hs : SB l i = true) : followM l i < l.length ∧ SB l (followM l i) = true := h.hop_in _ hi hs
/-- What becomes of a place. -/
theorem hopE_cases (l : List Insn) (i : Nat) : hopE l i = Edit.none ∨ (hopE l i = Edit.drop ∧ (kindM l i = 9 ∨ kindM l i = 10)) ∨ (∃ t, hopE l i = ⟨2, ⟨5, 0, 0, 0, 0⟩, t⟩ ∧ kindM l i = 9) ∨ (hopE l i = ⟨2, ⟨149, 0, 0, 0, 0⟩, 0⟩ ∧ kindM l i = 9) ∨ (∃ t, hopE l i = ⟨2, at' l i, t⟩ ∧ kindM l i = 10) := by
  unfold hopE
  split
  · rename_i h
    unfold jumpE
    split
    · exact .inr (.inl ⟨rfl, .inl h.2⟩)
    split
    · exact .inr (.inr (.inr (.inl ⟨rfl, h.2⟩)))
    split
    · exact .inr (.inr (.inl ⟨_, rfl, h.2⟩))
    · exact .inl rfl
  split
  · rename_i h
    unfold branchE
    split
    · exact .inr (.inl ⟨rfl, .inr h.2⟩)
    split
    · exact .inr (.inr (.inr (.inr ⟨_, rfl, h.2⟩)))
    · exact .inl rfl
  · exact .inl rfl
end Go.Proofs.YtncogaikiceidaaGreat
