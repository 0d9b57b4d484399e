/- What becomes of instructions, as the model has it. No statement is proved here. -/
import Derived.Test.YtncogaikiceidaaGreatHopP
import Derived.Laws.MakeOwn
namespace Go.Proofs.YtncogaikiceidaaGreat
open Go.RowKit
set_option linter.unusedSimpArgs false
set_option linter.unusedVariables false
set_option linter.unnecessarySimpa false
/-- What becomes of an instruction, as the model has it. -/
def Edit.cells (e : Edit) : List Value := [.int .u8 e.kind, .int .u8 e.x.op, .int .u8 e.x.dst, .int .u8 e.x.src, .int .i16 e.x.off, .int .i32 e.x.imm, .int .i64 e.to]
def Edit.val (e : Edit) : Value := .agg #[.int .u8 e.kind, .int .u8 e.x.op, .int .u8 e.x.dst, .int .u8 e.x.src, .int .i16 e.x.off, .int .i32 e.x.imm, .int .i64 e.to]
def Edit.obj (e : Edit) : Obj := .cells #[.int .u8 e.kind, .int .u8 e.x.op, .int .u8 e.x.dst, .int .u8 e.x.src, .int .i16 e.x.off, .int .i32 e.x.imm, .int .i64 e.to] 71
def Edit.Ok (e : Edit) : Prop := e.x.Ok
def editsV (l : List Edit) : List Value := (l.map Edit.cells).flatten
def edAt (l : List Edit) (i : Nat) : Edit := l.getD i Edit.none
theorem edAt_get {l : List Edit} {i : Nat} (h : i < l.length) : edAt l i = l[i] := by simp [edAt, List.getD_eq_getElem?_getD, h]
theorem editsV_length (l : List Edit) : (editsV l).length = l.length * 7 := by
  induction l with
  | nil => rfl
  | cons x l ih =>
    show (x.cells ++ editsV l).length = _
    rw [List.length_append, ih]
    simp [Edit.cells]
    omega
theorem editsV_append (l m : List Edit) : editsV (l ++ m) = editsV l ++ editsV m := by simp [editsV]
theorem editsV_get : ∀ {l : List Edit} {k j : Nat}, k < l.length → j < 7 → (editsV l)[k * 7 + j]? = (edAt l k).cells[j]?
  | x :: l, 0, j, _, hj => by
    show (x.cells ++ editsV l)[0 * 7 + j]? = _
    rw [List.getElem?_append_left (by simp [Edit.cells]; omega)]
    simp [edAt]
  | x :: l, k + 1, j, hk, hj => by
    show (x.cells ++ editsV l)[(k + 1) * 7 + j]? = _
    have h5 : x.cells.length = 7 := rfl
    rw [List.getElem?_append_right (by omega), h5, show (k + 1) * 7 + j - 7 = k * 7 + j by omega, editsV_get (by simpa using hk) hj]
    simp [edAt]
theorem edAt_set {l : List Edit} {i k : Nat} {x : Edit} (hi : i < l.length) : edAt (l.set i x) k = if k = i then x else edAt l k := by
  unfold edAt
  rw [List.getD_eq_getElem?_getD, List.getD_eq_getElem?_getD, List.getElem?_set]
  by_cases h : i = k
  · subst h; simp [hi]
  · rw [if_neg h, if_neg (fun e => h e.symm)]
theorem editsV_set {l : List Edit} {i : Nat} (hi : i < l.length) (e : Edit) :
    ((((((((editsV l).set (i * 7) (.int .u8 e.kind)).set (i * 7 + 1) (.int .u8 e.x.op)).set (i * 7 + 2) (.int .u8 e.x.dst)).set (i * 7 + 3) (.int .u8 e.x.src)).set (i * 7 + 4) (.int .i16 e.x.off)).set (i * 7 + 5) (.int .i32 e.x.imm)).set (i * 7 + 6) (.int .i64 e.to)) = editsV (l.set i e) := by
  apply List.ext_getElem?
  intro k
  rcases Nat.lt_or_ge k (l.length * 7) with hk | hk
  · have e0 : k = k / 7 * 7 + k % 7 := by omega
    have h1 : (editsV l)[k]? = (edAt l (k / 7)).cells[k % 7]? := by
      conv => lhs; rw [e0]
      exact editsV_get (by omega) (by omega)
    have h2 : (editsV (l.set i e))[k]? = (edAt (l.set i e) (k / 7)).cells[k % 7]? := by
      conv => lhs; rw [e0]
      exact editsV_get (by rw [List.length_set]; omega) (by omega)
    rw [h2, edAt_set hi]
    simp only [List.getElem?_set, List.length_set, editsV_length]
    by_cases hk1 : k / 7 = i
    · rw [if_pos hk1]
      have hm : k % 7 = 0 ∨ k % 7 = 1 ∨ k % 7 = 2 ∨ k % 7 = 3 ∨ k % 7 = 4 ∨ k % 7 = 5 ∨ k % 7 = 6 := by omega
      rcases hm with hm | hm | hm | hm | hm | hm | hm
      all_goals
        repeat (first | rw [if_neg (show ¬ i * 7 + 6 = k by omega)] | rw [if_neg (show ¬ i * 7 + 5 = k by omega)] | rw [if_neg (show ¬ i * 7 + 4 = k by omega)] | rw [if_neg (show ¬ i * 7 + 3 = k by omega)] | rw [if_neg (show ¬ i * 7 + 2 = k by omega)] | rw [if_neg (show ¬ i * 7 + 1 = k by omega)])
        rw [if_pos (by omega), if_pos (by omega), hm]
        rfl
    · rw [if_neg hk1, if_neg (by omega), if_neg (by omega), if_neg (by omega), if_neg (by omega), if_neg (by omega), if_neg (by omega), if_neg (by omega), h1]
  · rw [List.getElem?_eq_none (by simp [editsV_length]; exact hk), List.getElem?_eq_none (by rw [editsV_length, List.length_set]; exact hk)]
theorem editsV_none : ∀ n, editsV (List.replicate n Edit.none) = (List.replicate n Edit.none.cells).flatten := fun n => by simp [editsV]
theorem edits_made (n : Nat) : (madeCells Edit.none.val.cells (n * 7)).toList = editsV (List.replicate n Edit.none) := by
  apply List.ext_getElem?
  intro k
  rcases Nat.lt_or_ge k (n * 7) with hk | hk
  · have e0 : k = k / 7 * 7 + k % 7 := by omega
    have h2 : (editsV (List.replicate n Edit.none))[k]? = (edAt (List.replicate n Edit.none) (k / 7)).cells[k % 7]? := by
      conv => lhs; rw [e0]
      exact editsV_get (by simp; omega) (by omega)
    have h3 : edAt (List.replicate n Edit.none) (k / 7) = Edit.none := by
      rw [edAt_get (by simp; omega)]; simp
    rw [h2, h3]
    have h4 : Edit.none.val.cells.size = 7 := rfl
    simp only [madeCells, Array.toList_map, Array.toList_range, List.getElem?_map, List.getElem?_range hk, h4, Option.map_some]
    have hm : k % 7 = 0 ∨ k % 7 = 1 ∨ k % 7 = 2 ∨ k % 7 = 3 ∨ k % 7 = 4 ∨ k % 7 = 5 ∨ k % 7 = 6 := by omega
    rcases hm with hm | hm | hm | hm | hm | hm | hm <;> rw [hm] <;> rfl
  · rw [List.getElem?_eq_none (by simp [madeCells]; omega), List.getElem?_eq_none (by rw [editsV_length]; simpa using hk)]
/-- The first j of what becomes of the instructions. -/
def partE (l : List Insn) (j : Nat) : List Edit := (List.range l.length).map fun k => if k < j then hopE l k else Edit.none
theorem partE_length (l : List Insn) (j : Nat) : (partE l j).length = l.length := by simp [partE]
theorem partE_get {l : List Insn} {j k : Nat} (h : k < l.length) : (partE l j)[k]? = some (if k < j then hopE l k else Edit.none) := by
  simp [partE, List.getElem?_map, List.getElem?_range h]
theorem partE_zero (l : List Insn) : partE l 0 = List.replicate l.length Edit.none := by
  apply List.ext_getElem?
  intro k
  rcases Nat.lt_or_ge k l.length with hk | hk
  · rw [partE_get hk]; simp [hk]
  · rw [List.getElem?_eq_none (by rw [partE_length]; exact hk), List.getElem?_eq_none (by simpa using hk)]
theorem partE_all {l : List Insn} {j : Nat} (h : l.length ≤ j) : partE l j = (List.range l.length).map (hopE l) := by
  apply List.ext_getElem?
  intro k
  rcases Nat.lt_or_ge k l.length with hk | hk
  · rw [partE_get hk, if_pos (by omega)]; simp [List.getElem?_range hk]
  · rw [List.getElem?_eq_none (by rw [partE_length]; exact hk), List.getElem?_eq_none (by simpa using hk)]
theorem partE_set {l : List Insn} {j : Nat} (hj : j < l.length) : (partE l j).set j (hopE l j) = partE l (j + 1) := by
  apply List.ext_getElem?
  intro k
  rcases Nat.lt_or_ge k l.length with hk | hk
  · rw [partE_get hk, List.getElem?_set]
    split
    · rename_i e
      subst e
      rw [if_pos (by rw [partE_length]; exact hj), if_pos (by omega)]
    · rw [partE_get hk]
      congr 1
      by_cases h1 : k < j
      · rw [if_pos h1, if_pos (by omega)]
      · rw [if_neg h1, if_neg (by omega)]
  · rw [List.getElem?_eq_none (by rw [List.length_set, partE_length]; exact hk), List.getElem?_eq_none (by rw [partE_length]; exact hk)]
theorem partE_same {l : List Insn} {j : Nat} (h : hopE l j = Edit.none) : partE l (j + 1) = partE l j := by
  apply List.ext_getElem?
  intro k
  rcases Nat.lt_or_ge k l.length with hk | hk
  · rw [partE_get hk, partE_get hk]
    congr 1
    by_cases h1 : k < j
    · rw [if_pos h1, if_pos (by omega)]
    · rw [if_neg h1]
      split
      · have e : k = j := by omega
        subst e; exact h
      · rfl
  · rw [List.getElem?_eq_none (by rw [partE_length]; exact hk), List.getElem?_eq_none (by rw [partE_length]; exact hk)]
/-- What becomes of the instructions, from a slice of it. -/
theorem SAt.edit {W : World} {B : Nat} {A : Option Addr} {l : List Edit} (h : SAt W B 7 A l.length (editsV l)) {k : Nat} (hk : k < l.length) :
    ∃ b o, A = some ⟨b, o, none⟩ ∧ b < B ∧ (∀ w', Below B W w' → w'.cell? ⟨b, o + k * 7, none⟩ = some (.int .u8 (edAt l k).kind)) ∧ (∀ w', Below B W w' → w'.cell? ⟨b, o + k * 7 + 1, none⟩ = some (.int .u8 (edAt l k).x.op)) ∧
     (∀ w', Below B W w' → w'.cell? ⟨b, o + k * 7 + 2, none⟩ = some (.int .u8 (edAt l k).x.dst)) ∧ (∀ w', Below B W w' → w'.cell? ⟨b, o + k * 7 + 3, none⟩ = some (.int .u8 (edAt l k).x.src)) ∧
     (∀ w', Below B W w' → w'.cell? ⟨b, o + k * 7 + 4, none⟩ = some (.int .i16 (edAt l k).x.off)) ∧ (∀ w', Below B W w' → w'.cell? ⟨b, o + k * 7 + 5, none⟩ = some (.int .i32 (edAt l k).x.imm)) ∧ (∀ w', Below B W w' → w'.cell? ⟨b, o + k * 7 + 6, none⟩ = some (.int .i64 (edAt l k).to)) := by
  obtain ⟨b, o, rfl, hb, hc⟩ := h.2 (by omega)
  have hj : ∀ j u, j < 7 → (edAt l k).cells[j]? = some u → ∀ w', Below B W w' → w'.cell? ⟨b, o + k * 7 + j, none⟩ = some u := by
    intro j u hj hu w' hw
    rw [Nat.add_assoc, hw.cell hb]
    exact hc _ _ (by rw [editsV_get hk hj, hu])
  exact ⟨b, o, rfl, hb, hj 0 _ (by omega) rfl, hj 1 _ (by omega) rfl, hj 2 _ (by omega) rfl, hj 3 _ (by omega) rfl, hj 4 _ (by omega) rfl, hj 5 _ (by omega) rfl, hj 6 _ (by omega) rfl⟩
end Go.Proofs.YtncogaikiceidaaGreat
