/- Circles of jumps, in plain terms. No statement is proved here. -/
import Derived.Test.YtncogaikiceidaaGreatHopM
namespace Go.Proofs.YtncogaikiceidaaGreat
open Go.RowKit
/-- More numbers than places: two are alike. -/
theorem php : ∀ (n : Nat) (f : Nat → Nat), (∀ k, k ≤ n → f k < n) → ∃ i j, i < j ∧ j ≤ n ∧ f i = f j
  | 0, f, h => absurd (h 0 (Nat.le_refl _)) (by omega)
  | n + 1, f, h => by
    by_cases hv : ∃ i, i ≤ n ∧ f i = f (n + 1)
    · obtain ⟨i, hi, he⟩ := hv
      exact ⟨i, n + 1, by omega, Nat.le_refl _, he⟩
    · have hv' : ∀ i, i ≤ n → f i ≠ f (n + 1) := fun i hi he => hv ⟨i, hi, he⟩
      have hg : ∀ k, k ≤ n → (if f k = n then f (n + 1) else f k) < n := by
        intro k hk
        have h1 := h k (by omega)
        have h2 := h (n + 1) (by omega)
        have h3 := hv' k hk
        split <;> omega
      obtain ⟨i, j, hij, hj, he⟩ := php n (fun k => if f k = n then f (n + 1) else f k) hg
      have h3 := hv' i (by omega)
      have h4 := hv' j hj
      refine ⟨i, j, hij, by omega, ?_⟩
      have he : (if f i = n then f (n + 1) else f i) = (if f j = n then f (n + 1) else f j) := he
      split at he <;> split at he <;> omega
theorem wayN_next (l : List Insn) (i : Nat) : ∀ k, wayN l i (k + 1) = wayN l (targetM l i).1.toNat k
  | 0 => rfl
  | k + 1 => by rw [wayN, wayN_next l i k]; rfl
theorem wayN_more (l : List Insn) (i a : Nat) : ∀ k, wayN l i (a + k) = wayN l (wayN l i a) k
  | 0 => rfl
  | k + 1 => by rw [← Nat.add_assoc, wayN, wayN_more l i a k]; rfl
theorem hopN_way {l : List Insn} : ∀ (n : Nat) {i : Nat}, (∀ k, k < n → kindM l (wayN l i k) = 9) → hopN l n i = wayN l i n
  | 0, _, _ => rfl
  | n + 1, i, h => by
    have h0 : kindM l i = 9 := h 0 (by omega)
    rw [hopN, if_pos h0, wayN_next]
    exact hopN_way n (fun k hk => by rw [← wayN_next]; exact h (k + 1) (by omega))
/-- Jumps all the way: a circle. -/
theorem Prog.circle {l : List Insn} (h : Prog l) {i : Nat} (hi : i < l.length) (hs : SB l i = true) (hk : kindM l (followM l i) = 9) : ∀ m, kindM l (wayN l i m) = 9 := by
  have hj := hop_way l.length hk
  have hin := h.way_in hi hs hj
  obtain ⟨a, b, hab, hb, he⟩ := php l.length (wayN l i) (fun k hk => (hin k hk).1)
  have hall : ∀ m, ∃ k, k < b ∧ wayN l i m = wayN l i k := by
    intro m
    induction m with
    | zero => exact ⟨0, by omega, rfl⟩
    | succ m ih =>
      obtain ⟨k, hk, hm⟩ := ih
      have e : wayN l i (m + 1) = wayN l i (k + 1) := by rw [wayN, wayN, hm]
      by_cases hkb : k + 1 = b
      · exact ⟨a, hab, by rw [e, hkb, he]⟩
      · exact ⟨k + 1, by omega, e⟩
  intro m
  obtain ⟨k, hk, hm⟩ := hall m
  rw [hm]
  exact hj k (by omega)
/-- From where one comes one comes to itself, or to a Jump. -/
theorem Prog.follow_again {l : List Insn} (h : Prog l) {i : Nat} (hi : i < l.length) (hs : SB l i = true) : followM l (followM l i) = followM l i ∨ kindM l (followM l (followM l i)) = 9 := by
  by_cases hk : kindM l (followM l i) = 9
  · have hc := h.circle hi hs hk
    right
    have e1 : followM l i = wayN l i l.length := hopN_way _ (fun k _ => hc k)
    have e2 : followM l (followM l i) = wayN l i (l.length + l.length) := by
      rw [e1, wayN_more]
      exact hopN_way _ (fun k _ => by rw [← wayN_more]; exact hc _)
    rw [e2]
    exact hc _
  · exact .inl (follow_stop hk)
theorem hopN_jump {l : List Insn} {n i : Nat} (h : kindM l i = 9) : hopN l (n + 1) i = hopN l n (targetM l i).1.toNat := by rw [hopN, if_pos h]
theorem hopN_zero {l : List Insn} {i : Nat} : hopN l 0 i = i := rfl
/-- The target of a jump, told where one begins. -/
theorem Prog.goes_at {l : List Insn} (h : Prog l) {i : Nat} (hi : i < l.length) (hs : SB l i = true) (hk : kindM l i = 9 ∨ kindM l i = 10) : ∃ t : Nat, t < l.length ∧ SB l t = true ∧ targetM l i = ((t : Int), true) ∧ (targetM l i).1.toNat = t := by
  obtain ⟨h1, h2, h3, h4⟩ := h.goes hi hs hk
  refine ⟨(targetM l i).1.toNat, h2, h3, ?_, rfl⟩
  rw [h4, ← h1]
end Go.Proofs.YtncogaikiceidaaGreat
