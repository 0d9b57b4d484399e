/- The reference's in and sizes, with the world behind them. No statement is proved here. -/
import Derived.Test.YtncogaikiceidaaInsn1
section
namespace Go.Proofs.Ytncogaikiceidaa
set_option maxRecDepth 100000
open Go.RowKit
set_option linter.unusedSimpArgs false
set_option linter.unusedVariables false
set_option linter.unnecessarySimpa false
theorem in_is (l : List Int) (y : Int) (A : Option Addr) (c : Nat) (hn : l.length < 1000000) (w : World) (h : SAt w w.heap.size 1 A l.length (bytesV l)) :
    Calls Try.prog 40 #[.slice A l.length c, .int .u8 y] w fun e w' => e = .returned (.bool (l.contains y)) ∧ w' = w := by
  go_enter Try.func40, Try.ntmps40
  go_wp2_with fail
  go_loopw [5] (fun k wr => ∃ j : Nat, j ≤ l.length ∧ k = .int .i64 j ∧ wr = w ∧ ∀ (i : Nat) (hi : i < l.length), i < j → l[i] ≠ y) (fun k _ => l.length - (intOf k).toNat)
  case atStart => exact ⟨0, by omega, rfl, rfl, fun i _ h => absurd h (by omega)⟩
  case round =>
    obtain ⟨j, hj, rfl, rfl, hne⟩ := hrel
    rcases Nat.lt_or_ge j l.length with hlt | hge
    · obtain ⟨b, o, rfl, hb, hcell⟩ := h.byte hlt
      by_cases hy : l[j] = y
      · go_wp2
        · go_ret
          exact ⟨by rw [contains_at hlt hy]; rfl, rfl⟩
      · go_wp2
        go_roundw
        case rel => exact ⟨j + 1, by omega, by go_num, by first | rfl | trivial, ne_step hlt hne hy⟩
        case measure => simp [intOf]; omega
    · go_wp2
      go_ret
      exact ⟨by rw [contains_not (fun i hi => hne i hi (by omega))]; rfl, rfl⟩
theorem sizes_is (l : List Int) (y : Int) (A : Option Addr) (c : Nat) (hn : l.length ≤ 4) (w : World) (h : SAt w w.heap.size 1 A l.length (bytesV l)) :
    Calls Try.prog 54 #[.slice A l.length c, .int .u8 y] w fun e w' => e = .returned (.int .i64 (sizesM l [4, 2, 1, 8] y)) ∧ w' = w.alloc (.cells #[.int .i64 4, .int .i64 2, .int .i64 1, .int .i64 8] 3) := by
  go_enter Try.func54, Try.ntmps54
  go_wp2_with fail
  go_loopw [6] (fun k wr => ∃ j : Nat, j ≤ l.length ∧ k = .int .i64 j ∧ wr = w.alloc (.cells #[.int .i64 4, .int .i64 2, .int .i64 1, .int .i64 8] 3) ∧ ∀ (i : Nat) (hi : i < l.length), i < j → l[i] ≠ y) (fun k _ => l.length - (intOf k).toNat)
  case atStart => exact ⟨0, by omega, rfl, rfl, fun i _ h => absurd h (by omega)⟩
  case round =>
    obtain ⟨j, hj, rfl, rfl, hne⟩ := hrel
    have hB := (Below.refl w.heap.size w).alloc (Nat.le_refl _) (.cells #[.int .i64 4, .int .i64 2, .int .i64 1, .int .i64 8] 3)
    rcases Nat.lt_or_ge j l.length with hlt | hge
    · obtain ⟨b, o, rfl, hb, hcell⟩ := h.byte hlt
      have hcell' : (w.alloc (.cells #[.int .i64 4, .int .i64 2, .int .i64 1, .int .i64 8] 3)).cell? ⟨b, o + j, none⟩ = some (.int .u8 l[j]) := by rw [← hcell]; exact hB.cell hb
      by_cases hy : l[j] = y
      · have hj4 : j = 0 ∨ j = 1 ∨ j = 2 ∨ j = 3 := by omega
        have hm := sizesM_at (ss := [4, 2, 1, 8]) hlt (by simp; omega) hne hy
        clear hne
        rcases hj4 with rfl | rfl | rfl | rfl
        all_goals try simp only [Nat.add_zero] at hcell'
        all_goals go_wp2
        all_goals go_ret
        all_goals exact ⟨by rw [hm]; rfl, rfl⟩
      · go_wp2
        go_roundw
        case rel => exact ⟨j + 1, by omega, by go_num, by first | rfl | trivial, ne_step hlt hne hy⟩
        case measure => simp [intOf]; omega
    · go_wp2
      go_ret
      exact ⟨by rw [sizesM_not (fun i hi => hne i hi (by omega))]; rfl, rfl⟩
end Go.Proofs.Ytncogaikiceidaa
end
section
namespace Go.Proofs.Ytncogaikiceidaa
open Go.RowKit
set_option linter.unusedSimpArgs false
set_option linter.unusedVariables false
set_option linter.unnecessarySimpa false
theorem tdiv8b (n : Int) (h0 : -2147483648 ≤ n) (h1 : n ≤ 2147483647) : wrap64 (n.tdiv 8) = n.tdiv 8 := by
  have h : -2147483648 ≤ n.tdiv 8 ∧ n.tdiv 8 ≤ 2147483647 := by
    rcases Int.le_total 0 n with h | h
    · rw [Int.tdiv_eq_ediv_of_nonneg h]; omega
    · obtain ⟨m, rfl⟩ : ∃ m, n = -m := ⟨-n, by omega⟩
      rw [Int.neg_tdiv, Int.tdiv_eq_ediv_of_nonneg (by omega)]; omega
  unfold wrap64
  omega
theorem sizesM_le : ∀ (l : List Int) (y : Int), 0 ≤ sizesM l [4, 2, 1, 8] y ∧ sizesM l [4, 2, 1, 8] y ≤ 8 := by
  have h : ∀ (ss l : List Int) (y : Int), (∀ s ∈ ss, 0 ≤ s ∧ s ≤ 8) → 0 ≤ sizesM l ss y ∧ sizesM l ss y ≤ 8 := by
    intro ss
    induction ss with
    | nil => intro l y _; cases l <;> simp [sizesM]
    | cons s ss ih =>
      intro l y hs
      cases l with
      | nil => simp [sizesM]
      | cons a l =>
        simp only [sizesM]
        split
        · exact hs s (by simp)
        · exact ih l y (fun s' h' => hs s' (by simp [h']))
  exact fun l y => h _ l y (by simp)
end Go.Proofs.Ytncogaikiceidaa
end
