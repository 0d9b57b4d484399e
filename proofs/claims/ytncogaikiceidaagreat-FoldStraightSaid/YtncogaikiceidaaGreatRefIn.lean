/- The reference's in and sizes, with the world behind them. No statement is proved here. -/
import Derived.Test.YtncogaikiceidaaGreatCode5
namespace Go.Proofs.YtncogaikiceidaaGreat
open Go.RowKit
set_option linter.unusedSimpArgs false
set_option linter.unusedVariables false
set_option linter.unnecessarySimpa false
set_option maxRecDepth 100000 in
theorem in_is (l : List Int) (y : Int) (A : Option Addr) (c : Nat) (hn : l.length < 1000000) (w : World) (h : SAt w w.heap.size 1 A l.length (bytesV l)) :
    Calls Tryz.prog 61 #[.slice A l.length c, .int .u8 y] w fun e w' => e = .returned (.bool (l.contains y)) ∧ w' = w := by
  go_enter Tryz.func61, Tryz.ntmps61
  go_wp2_with fail
  go_loopw [5] (fun k wr => ∃ j : Nat, j ≤ l.length ∧ k = .int .i64 j ∧ wr = w ∧ ∀ (i : Nat) (hi : i < l.length), i < j → l[i] ≠ y) (fun k _ => l.length - (intOf k).toNat)
  case atStart => exact ⟨0, by omega, rfl, rfl, fun i _ h => absurd h (by omega)⟩
  case round =>
    obtain ⟨j, hj, rfl, rfl, hne⟩ := hrel
    rcases Nat.lt_or_ge j l.length with hlt | hge
    · obtain ⟨b, o, rfl, hb, hcell⟩ := h.byte hlt
      by_cases hy : l[j] = y
      · go_wp2
        · go_ret
          exact ⟨by rw [contains_at hlt hy]; rfl, rfl⟩
      · go_wp2
        go_roundw
        case rel => exact ⟨j + 1, by omega, by go_num, by first | rfl | trivial, ne_step hlt hne hy⟩
        case measure => simp [intOf]; omega
    · go_wp2
      go_ret
      exact ⟨by rw [contains_not (fun i hi => hne i hi (by omega))]; rfl, rfl⟩
set_option maxRecDepth 100000 in
theorem sizes_is (l : List Int) (y : Int) (A : Option Addr) (c : Nat) (hn : l.length ≤ 4) (w : World) (h : SAt w w.heap.size 1 A l.length (bytesV l)) :
    Calls Tryz.prog 94 #[.slice A l.length c, .int .u8 y] w fun e w' => e = .returned (.int .i64 (sizesM l [4, 2, 1, 8] y)) ∧ w' = w.alloc (.cells #[.int .i64 4, .int .i64 2, .int .i64 1, .int .i64 8] 3) := by
  go_enter Tryz.func94, Tryz.ntmps94
  go_wp2_with fail
  go_loopw [6] (fun k wr => ∃ j : Nat, j ≤ l.length ∧ k = .int .i64 j ∧ wr = w.alloc (.cells #[.int .i64 4, .int .i64 2, .int .i64 1, .int .i64 8] 3) ∧ ∀ (i : Nat) (hi : i < l.length), i < j → l[i] ≠ y) (fun k _ => l.length - (intOf k).toNat)
  case atStart => exact ⟨0, by omega, rfl, rfl, fun i _ h => absurd h (by omega)⟩
  case round =>
    obtain ⟨j, hj, rfl, rfl, hne⟩ := hrel
    have hB := (Below.refl w.heap.size w).alloc (Nat.le_refl _) (.cells #[.int .i64 4, .int .i64 2, .int .i64 1, .int .i64 8] 3)
    rcases Nat.lt_or_ge j l.length with hlt | hge
    · obtain ⟨b, o, rfl, hb, hcell⟩ := h.byte hlt
      have hcell' : (w.alloc (.cells #[.int .i64 4, .int .i64 2, .int .i64 1, .int .i64 8] 3)).cell? ⟨b, o + j, none⟩ = some (.int .u8 l[j]) := by rw [← hcell]; exact hB.cell hb
      by_cases hy : l[j] = y
      · have hj4 : j = 0 ∨ j = 1 ∨ j = 2 ∨ j = 3 := by omega
        have hm := sizesM_at (ss := [4, 2, 1, 8]) hlt (by simp; omega) hne hy
        clear hne
        rcases hj4 with rfl | rfl | rfl | rfl
        all_goals try simp only [Nat.add_zero] at hcell'
        all_goals go_wp2
        all_goals go_ret
        all_goals exact ⟨by rw [hm]; rfl, rfl⟩
      · go_wp2
        go_roundw
        case rel => exact ⟨j + 1, by omega, by go_num, by first | rfl | trivial, ne_step hlt hne hy⟩
        case measure => simp [intOf]; omega
    · go_wp2
      go_ret
      exact ⟨by rw [sizesM_not (fun i hi => hne i hi (by omega))]; rfl, rfl⟩
end Go.Proofs.YtncogaikiceidaaGreat
