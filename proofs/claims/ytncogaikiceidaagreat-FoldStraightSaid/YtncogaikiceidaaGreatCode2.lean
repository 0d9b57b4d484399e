/- Layer 7's small functions: sizes, Index and Contains of Go's slices. No statement is proved here. -/
import Derived.Test.YtncogaikiceidaaGreatCode1
namespace Go.Proofs.YtncogaikiceidaaGreat
open Go.RowKit
/-- What stands in a second list where one stands in the first, or 0. -/
def sizesM : List Int → List Int → Int → Int
  | a :: l, s :: ss, op => if a = op then s else sizesM l ss op
  | _, _, _ => 0
theorem sizesM_at : ∀ {l ss : List Int} {op : Int} {j : Nat} (hj : j < l.length) (hs : j < ss.length), (∀ (i : Nat) (hi : i < l.length), i < j → l[i] ≠ op) → l[j] = op → sizesM l ss op = ss[j]
  | a :: l, s :: ss, op, 0, _, _, _, h => by simp at h; simp [sizesM, h]
  | a :: l, s :: ss, op, j + 1, hj, hs, hne, h => by
    have h0 := hne 0 (by simp) (by omega)
    simp at h0 h
    simp only [sizesM, if_neg h0, List.getElem_cons_succ]
    exact sizesM_at (by simpa using hj) (by simpa using hs) (fun i hi hlt => hne (i + 1) (Nat.succ_lt_succ hi) (Nat.succ_lt_succ hlt)) h
theorem sizesM_not : ∀ {l ss : List Int} {op : Int}, (∀ (i : Nat) (hi : i < l.length), l[i] ≠ op) → sizesM l ss op = 0
  | [], _, _, _ => by simp [sizesM]
  | a :: l, [], op, _ => by simp [sizesM]
  | a :: l, s :: ss, op, hne => by
    have h0 := hne 0 (by simp)
    simp at h0
    simp only [sizesM, if_neg h0]
    exact sizesM_not (fun i hi => hne (i + 1) (Nat.succ_lt_succ hi))
set_option maxRecDepth 100000 in
theorem sizes_any (l : List Int) (y : Int) (A : Option Addr) (c : Nat) (hn : l.length ≤ 4) (w : World) (h : SAt w w.heap.size 1 A l.length (bytesV l)) :
    Calls Tryz.prog 94 #[.slice A l.length c, .int .u8 y] w fun e w' => e = .returned (.int .i64 (sizesM l [4, 2, 1, 8] y)) ∧ Below w.heap.size w w' := by
  go_enter Tryz.func94, Tryz.ntmps94
  go_wp2_with fail
  go_loopw [6] (fun k wr => ∃ j : Nat, j ≤ l.length ∧ k = .int .i64 j ∧ wr = w.alloc (.cells #[.int .i64 4, .int .i64 2, .int .i64 1, .int .i64 8] 3) ∧ ∀ (i : Nat) (hi : i < l.length), i < j → l[i] ≠ y) (fun k _ => l.length - (intOf k).toNat)
  case atStart => exact ⟨0, by omega, rfl, rfl, fun i _ h => absurd h (by omega)⟩
  case round =>
    obtain ⟨j, hj, rfl, rfl, hne⟩ := hrel
    have hB := (Below.refl w.heap.size w).alloc (Nat.le_refl _) (.cells #[.int .i64 4, .int .i64 2, .int .i64 1, .int .i64 8] 3)
    rcases Nat.lt_or_ge j l.length with hlt | hge
    · obtain ⟨b, o, rfl, hb, hcell⟩ := h.byte hlt
      have hcell' : (w.alloc (.cells #[.int .i64 4, .int .i64 2, .int .i64 1, .int .i64 8] 3)).cell? ⟨b, o + j, none⟩ = some (.int .u8 l[j]) := by rw [← hcell]; exact hB.cell hb
      by_cases hy : l[j] = y
      · have hj4 : j = 0 ∨ j = 1 ∨ j = 2 ∨ j = 3 := by omega
        have hm := sizesM_at (ss := [4, 2, 1, 8]) hlt (by simp; omega) hne hy
        clear hne
        rcases hj4 with rfl | rfl | rfl | rfl
        all_goals try simp only [Nat.add_zero] at hcell'
        all_goals go_wp2
        all_goals go_ret
        all_goals exact ⟨by rw [hm]; rfl, hB⟩
      · go_wp2
        go_roundw
        case rel => exact ⟨j + 1, by omega, by go_num, by first | rfl | trivial, ne_step hlt hne hy⟩
        case measure => simp [intOf]; omega
    · go_wp2
      go_ret
      exact ⟨by rw [sizesM_not (fun i hi => hne i hi (by omega))]; rfl, hB⟩
def int32V (l : List Int) : List Value := l.map (Value.int .i32)
theorem SAt.i32 {w : World} {B : Nat} {A : Option Addr} {l : List Int} (h : SAt w B 1 A l.length (int32V l)) {k : Nat} (hk : k < l.length) :
    ∃ b o, A = some ⟨b, o, none⟩ ∧ b < B ∧ w.cell? ⟨b, o + k, none⟩ = some (.int .i32 l[k]) := by
  obtain ⟨b, o, rfl, hb, hc⟩ := h.2 (by omega)
  exact ⟨b, o, rfl, hb, hc k _ (by simp [int32V, List.getElem?_eq_getElem hk])⟩
/-- The place at which one stands, or -1. -/
def IdxOf (l : List Int) (y k : Int) : Prop := (0 ≤ k ∧ l.contains y = true) ∨ (k = -1 ∧ l.contains y = false)
set_option maxRecDepth 100000 in
theorem index_any (l : List Int) (y : Int) (A : Option Addr) (c : Nat) (hn : l.length < 1000000) (w : World) (h : SAt w w.heap.size 1 A l.length (int32V l)) :
    Calls Tryz.prog 148 #[.slice A l.length c, .int .i32 y] w fun e w' => (∃ k, e = .returned (.int .i64 k) ∧ IdxOf l y k) ∧ Below w.heap.size w w' := by
  go_enter Tryz.func148, Tryz.ntmps148
  go_wp2_with fail
  go_loopw [8, 5] (fun k _ wr => ∃ j : Nat, j ≤ l.length ∧ k = .int .i64 j ∧ wr = w ∧ ∀ (i : Nat) (hi : i < l.length), i < j → l[i] ≠ y) (fun k _ _ => l.length - (intOf k).toNat)
  case atStart => exact ⟨0, by omega, rfl, rfl, fun i _ h => absurd h (by omega)⟩
  case round =>
    obtain ⟨j, hj, rfl, rfl, hne⟩ := hrel
    rcases Nat.lt_or_ge j l.length with hlt | hge
    · obtain ⟨b, o, rfl, hb, hcell⟩ := h.i32 hlt
      by_cases hy : l[j] = y
      · go_wp2
        · go_ret
          exact ⟨⟨j, rfl, .inl ⟨by omega, contains_at hlt hy⟩⟩, Below.refl _ _⟩
      · have hy' : ¬ y = l[j] := fun h => hy h.symm
        go_wp2
        go_roundw
        case rel => exact ⟨j + 1, by omega, by go_num, by first | rfl | trivial, ne_step hlt hne hy⟩
        case measure => simp [intOf]; omega
    · go_wp2
      go_ret
      exact ⟨⟨-1, rfl, .inr ⟨rfl, contains_not (fun i hi => hne i hi (by omega))⟩⟩, Below.refl _ _⟩
theorem has_any (l : List Int) (y : Int) (A : Option Addr) (c : Nat) (hn : l.length < 1000000) (w : World) (h : SAt w w.heap.size 1 A l.length (int32V l)) :
    Calls Tryz.prog 114 #[.slice A l.length c, .int .i32 y] w fun e w' => e = .returned (.bool (l.contains y)) ∧ Below w.heap.size w w' := by
  go_enter Tryz.func114, Tryz.ntmps114
  go_wp2_with fail
  refine (index_any l y A c hn w h).mono ?_
  rintro e w' ⟨⟨k, rfl, hk⟩, hb⟩
  rcases hk with ⟨h0, h1⟩ | ⟨rfl, h1⟩
  all_goals go_wp2
  all_goals go_ret
  all_goals exact ⟨by rw [h1]; rfl, hb⟩
end Go.Proofs.YtncogaikiceidaaGreat
