/- size and Contains, with the world behind them. No statement is proved here. -/
import Derived.Test.YtncogaikiceidaaGreatCode4
namespace Go.Proofs.YtncogaikiceidaaGreat
open Go.RowKit
set_option linter.unusedSimpArgs false
set_option linter.unusedVariables false
theorem size_is (op : Int) (h0 : 0 ≤ op) (h1 : op ≤ 255) (w : World) : Calls Tryz.prog 113 #[.int .u8 op] w fun e w' => e = .returned (.int .i64 (sizeM op)) ∧ w' = w := by
  have e := and24 op h0 h1
  have hc : op / 8 % 4 = 0 ∨ op / 8 % 4 = 1 ∨ op / 8 % 4 = 2 ∨ op / 8 % 4 = 3 := by omega
  rcases hc with hc | hc | hc | hc <;> rw [hc] at e <;> simp only [Int.reduceMul] at e <;>
  (go_enter Tryz.func113, Tryz.ntmps113
   go_wp2
   go_ret
   exact ⟨by simp [sizeM, *], rfl⟩)
set_option maxRecDepth 100000 in
theorem index_is (l : List Int) (y : Int) (A : Option Addr) (c : Nat) (hn : l.length < 1000000) (w : World) (h : SAt w w.heap.size 1 A l.length (int32V l)) :
    Calls Tryz.prog 148 #[.slice A l.length c, .int .i32 y] w fun e w' => (∃ k, e = .returned (.int .i64 k) ∧ IdxOf l y k) ∧ w' = w := by
  go_enter Tryz.func148, Tryz.ntmps148
  go_wp2_with fail
  go_loopw [8, 5] (fun k _ wr => ∃ j : Nat, j ≤ l.length ∧ k = .int .i64 j ∧ wr = w ∧ ∀ (i : Nat) (hi : i < l.length), i < j → l[i] ≠ y) (fun k _ _ => l.length - (intOf k).toNat)
  case atStart => exact ⟨0, by omega, rfl, rfl, fun i _ h => absurd h (by omega)⟩
  case round =>
    obtain ⟨j, hj, rfl, rfl, hne⟩ := hrel
    rcases Nat.lt_or_ge j l.length with hlt | hge
    · obtain ⟨b, o, rfl, hb, hcell⟩ := h.i32 hlt
      by_cases hy : l[j] = y
      · go_wp2
        · go_ret
          exact ⟨⟨j, rfl, .inl ⟨by omega, contains_at hlt hy⟩⟩, rfl⟩
      · have hy' : ¬ y = l[j] := fun h => hy h.symm
        go_wp2
        go_roundw
        case rel => exact ⟨j + 1, by omega, by go_num, by first | rfl | trivial, ne_step hlt hne hy⟩
        case measure => simp [intOf]; omega
    · go_wp2
      go_ret
      exact ⟨⟨-1, rfl, .inr ⟨rfl, contains_not (fun i hi => hne i hi (by omega))⟩⟩, rfl⟩
theorem has_is (l : List Int) (y : Int) (A : Option Addr) (c : Nat) (hn : l.length < 1000000) (w : World) (h : SAt w w.heap.size 1 A l.length (int32V l)) :
    Calls Tryz.prog 114 #[.slice A l.length c, .int .i32 y] w fun e w' => e = .returned (.bool (l.contains y)) ∧ w' = w := by
  go_enter Tryz.func114, Tryz.ntmps114
  go_wp2_with fail
  refine (index_is l y A c hn w h).mono ?_
  rintro e w' ⟨⟨k, rfl, hk⟩, rfl⟩
  rcases hk with ⟨h0, h1⟩ | ⟨rfl, h1⟩
  all_goals go_wp2
  all_goals go_ret
  all_goals exact ⟨by rw [h1]; rfl, rfl⟩
theorem heap_four (W : World) (o : Obj) {k : Nat} {u : Obj} (h : W.heap[k]? = some u) : (W.alloc o).heap[k]? = some u := by
  rw [Below.heap_alloc _ _ _ (Array.getElem?_eq_some_iff.1 h).1, h]
end Go.Proofs.YtncogaikiceidaaGreat
