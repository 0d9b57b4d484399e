/- A quotient by 8. No statement is proved here. -/
import Derived.Test.YtncogaikiceidaaGreatRefIn
namespace Go.Proofs.YtncogaikiceidaaGreat
open Go.RowKit
set_option linter.unusedSimpArgs false
set_option linter.unusedVariables false
set_option linter.unnecessarySimpa false
theorem tdiv8b (n : Int) (h0 : -2147483648 ≤ n) (h1 : n ≤ 2147483647) : wrap64 (n.tdiv 8) = n.tdiv 8 := by
  have h : -2147483648 ≤ n.tdiv 8 ∧ n.tdiv 8 ≤ 2147483647 := by
    rcases Int.le_total 0 n with h | h
    · rw [Int.tdiv_eq_ediv_of_nonneg h]; omega
    · obtain ⟨m, rfl⟩ : ∃ m, n = -m := ⟨-n, by omega⟩
      rw [Int.neg_tdiv, Int.tdiv_eq_ediv_of_nonneg (by omega)]; omega
  unfold wrap64
  omega
theorem sizesM_le : ∀ (l : List Int) (y : Int), 0 ≤ sizesM l [4, 2, 1, 8] y ∧ sizesM l [4, 2, 1, 8] y ≤ 8 := by
  have h : ∀ (ss l : List Int) (y : Int), (∀ s ∈ ss, 0 ≤ s ∧ s ≤ 8) → 0 ≤ sizesM l ss y ∧ sizesM l ss y ≤ 8 := by
    intro ss
    induction ss with
    | nil => intro l y _; cases l <;> simp [sizesM]
    | cons s ss ih =>
      intro l y hs
      cases l with
      | nil => simp [sizesM]
      | cons a l =>
        simp only [sizesM]
        split
        · exact hs s (by simp)
        · exact ih l y (fun s' h' => hs s' (by simp [h']))
  exact fun l y => h _ l y (by simp)
end Go.Proofs.YtncogaikiceidaaGreat
