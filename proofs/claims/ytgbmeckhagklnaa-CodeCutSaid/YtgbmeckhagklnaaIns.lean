/- Slices of instructions: their cells, and what is read of one. No statement is proved here. -/
import Derived.Test.YtgbmeckhagklnaaList
namespace Go.Proofs.Ytgbmeckhagklnaa
open Go.RowKit
def insnsV (l : List Insn) : List Value := (l.map Insn.cells).flatten
theorem insnsV_length (l : List Insn) : (insnsV l).length = l.length * 5 := by
  induction l with
  | nil => rfl
  | cons x l ih =>
    show (x.cells ++ insnsV l).length = _
    rw [List.length_append, ih]
    simp [Insn.cells]
    omega
theorem insnsV_append (l m : List Insn) : insnsV (l ++ m) = insnsV l ++ insnsV m := by simp [insnsV]
theorem insnsV_get : ∀ {l : List Insn} {k j : Nat}, k < l.length → j < 5 → (insnsV l)[k * 5 + j]? = (at' l k).cells[j]?
  | x :: l, 0, j, _, hj => by
    show (x.cells ++ insnsV l)[0 * 5 + j]? = _
    rw [List.getElem?_append_left (by simp [Insn.cells]; omega)]
    simp [at']
  | x :: l, k + 1, j, hk, hj => by
    show (x.cells ++ insnsV l)[(k + 1) * 5 + j]? = _
    have h5 : x.cells.length = 5 := rfl
    rw [List.getElem?_append_right (by omega), h5, show (k + 1) * 5 + j - 5 = k * 5 + j by omega, insnsV_get (by simpa using hk) hj]
    simp [at']
theorem SAt.insn {W : World} {B : Nat} {A : Option Addr} {l : List Insn} (h : SAt W B 5 A l.length (insnsV l)) {k : Nat} (hk : k < l.length) :
    ∃ b o, A = some ⟨b, o, none⟩ ∧ b < B ∧ (∀ w', Below B W w' → w'.cell? ⟨b, o + k * 5, none⟩ = some (.int .u8 (at' l k).op)) ∧ (∀ w', Below B W w' → w'.cell? ⟨b, o + k * 5 + 1, none⟩ = some (.int .u8 (at' l k).dst)) ∧
     (∀ w', Below B W w' → w'.cell? ⟨b, o + k * 5 + 2, none⟩ = some (.int .u8 (at' l k).src)) ∧ (∀ w', Below B W w' → w'.cell? ⟨b, o + k * 5 + 3, none⟩ = some (.int .i16 (at' l k).off)) ∧ (∀ w', Below B W w' → w'.cell? ⟨b, o + k * 5 + 4, none⟩ = some (.int .i32 (at' l k).imm)) := by
  obtain ⟨b, o, rfl, hb, hc⟩ := h.2 (by omega)
  have hj : ∀ j u, j < 5 → (at' l k).cells[j]? = some u → ∀ w', Below B W w' → w'.cell? ⟨b, o + k * 5 + j, none⟩ = some u := by
    intro j u hj hu w' hw
    rw [Nat.add_assoc, hw.cell hb]
    exact hc _ _ (by rw [insnsV_get hk hj, hu])
  exact ⟨b, o, rfl, hb, hj 0 _ (by omega) rfl, hj 1 _ (by omega) rfl, hj 2 _ (by omega) rfl, hj 3 _ (by omega) rfl, hj 4 _ (by omega) rfl⟩
theorem at_ok {l : List Insn} (h : ∀ x ∈ l, x.Ok) (k : Nat) : (at' l k).Ok := by
  rcases Nat.lt_or_ge k l.length with hk | hk
  · rw [at_get hk]; exact h _ (List.getElem_mem hk)
  · rw [at', List.getD_eq_getElem?_getD, List.getElem?_eq_none hk]; exact Insn.zero_ok
theorem SAt.few {W : World} {B : Nat} {A : Option Addr} {l : List Insn} (h : SAt W B 5 A l.length (insnsV l)) (n : Nat) : SAt W B 5 A (l.take n).length (insnsV (l.take n)) := by
  have := h.cut (k := (l.take n).length) (by simp; omega)
  have e : (insnsV l).take ((l.take n).length * 5) = insnsV (l.take n) := by
    have e2 : insnsV l = insnsV (l.take n) ++ insnsV (l.drop n) := by rw [← insnsV_append, List.take_append_drop]
    rw [e2, List.take_append_of_le_length (by rw [insnsV_length]; exact Nat.le_refl _)]
    exact List.take_of_length_le (by rw [insnsV_length]; exact Nat.le_refl _)
  rwa [e] at this
end Go.Proofs.Ytgbmeckhagklnaa
