/- Where one comes by jumps alone, and what becomes of instructions, by the program and by the reference. No statement is proved here. -/
import Derived.Test.YtncogaikiceidaaGreatHopE
import Derived.Test.YtncogaikiceidaaGreatRLists
namespace Go.Proofs.YtncogaikiceidaaGreat
open Go.RowKit
set_option linter.unusedSimpArgs false
set_option linter.unusedVariables false
set_option linter.unnecessarySimpa false
theorem below_on {B : Nat} {W w w' : World} (h : Below B W w) (hn : B ≤ W.heap.size) (hb : Below w.heap.size w w') : Below B W w' := h.trans (hb.mono (Nat.le_trans hn h.size))
theorem followI_no {l : List Insn} {i : Int} (h : (checkM l).2 ≠ 0 ∨ i < 0 ∨ (l.length : Int) ≤ i ∨ SB l i.toNat = false) : followI l i = -1 := by unfold followI; rw [if_pos h]
theorem followI_yes {l : List Insn} (hp : (checkM l).2 = 0) {i : Nat} (hi : i < l.length) (hs : SB l i = true) : followI l i = followM l i := by
  unfold followI
  rw [if_neg]
  · rfl
  · rintro (h | h | h | h)
    · exact h hp
    · omega
    · omega
    · rw [Int.toNat_natCast, hs] at h; cases h
theorem box71 {W : World} {g B : Nat} (e : Edit) (hg : g < B) (h : W.heap[g]? = some e.obj) :
    (∀ w', Below B W w' → w'.cell? ⟨g, 0, none⟩ = some (.int .u8 e.kind)) ∧ (∀ w', Below B W w' → w'.cell? ⟨g, 1, none⟩ = some (.int .u8 e.x.op)) ∧ (∀ w', Below B W w' → w'.cell? ⟨g, 2, none⟩ = some (.int .u8 e.x.dst)) ∧
    (∀ w', Below B W w' → w'.cell? ⟨g, 3, none⟩ = some (.int .u8 e.x.src)) ∧ (∀ w', Below B W w' → w'.cell? ⟨g, 4, none⟩ = some (.int .i16 e.x.off)) ∧ (∀ w', Below B W w' → w'.cell? ⟨g, 5, none⟩ = some (.int .i32 e.x.imm)) ∧ (∀ w', Below B W w' → w'.cell? ⟨g, 6, none⟩ = some (.int .i64 e.to)) := by
  refine ⟨?_, ?_, ?_, ?_, ?_, ?_, ?_⟩ <;> (intro w' hb; rw [hb.cell (p := ⟨g, _, none⟩) hg, cell_of_row W g _ _ 71 (0, 0) h]; rfl)
theorem thaw71 {W : World} {g B : Nat} (e : Edit) (hg : g < B) (h : W.heap[g]? = some e.obj) (k : Nat) : ∀ w', Below B W w' → w'.frozen? ⟨g, k, none⟩ = false := by
  intro w' hb
  rw [hb.frozen (p := ⟨g, _, none⟩) hg]
  exact frozen_of_row W g k _ 71 h
theorem below_seven {B : Nat} {W w : World} (h : Below B W w) {g : Nat} (hg : B ≤ g) (v0 v1 v2 v3 v4 v5 v6 : Value) :
    Below B W (((((((w.setCell ⟨g, 0, none⟩ v0).setCell ⟨g, 1, none⟩ v1).setCell ⟨g, 2, none⟩ v2).setCell ⟨g, 3, none⟩ v3).setCell ⟨g, 4, none⟩ v4).setCell ⟨g, 5, none⟩ v5).setCell ⟨g, 6, none⟩ v6) :=
  (((((((h.setCell (p := ⟨g, 0, none⟩) hg v0).setCell (p := ⟨g, 1, none⟩) hg v1).setCell (p := ⟨g, 2, none⟩) hg v2).setCell (p := ⟨g, 3, none⟩) hg v3).setCell (p := ⟨g, 4, none⟩) hg v4).setCell (p := ⟨g, 5, none⟩) hg v5).setCell (p := ⟨g, 6, none⟩) hg v6)
set_option maxRecDepth 100000 in
theorem starts_new (l : List Insn) (A : Option Addr) (c : Nat) (hn : l.length ≤ 100000) (w : World) (h : SAt w w.heap.size 5 A l.length (insnsV l)) : Calls Tryz.prog 18 #[.slice A l.length c] w fun e w' => e = .returned (.slice (some ⟨w.heap.size, 0, none⟩) l.length l.length) ∧ w'.ownsRow w.heap.size 4 1 (.slice (some ⟨w.heap.size, 0, none⟩) l.length l.length) l.length (boolsV (startsL l)) ∧ w.heap.size < w'.heap.size ∧ Below w.heap.size w w' := by
  have hmk := run_make_row' (P := Tryz.prog) 81 4 (.bool false) 1 Tryz.underlying81 info4 rfl .i64 .i64 l.length (by omega) (by omega)
  have hown0 := own_new w w.heap.size (madeCells #[.bool false] l.length) 4 1 l.length l.length w.heap.size rfl (Nat.le_refl _) (Nat.le_refl _) (by simp only [maxLen]; omega) (by simp [madeCells])
  have hm0 : ((madeCells #[Value.bool false] l.length).toList.take (l.length * 1)) = marks l 0 := by
    rw [toList_madeCells_one, Nat.mul_one, List.take_of_length_le (by simp)]
    apply List.ext_getElem?
    intro k
    rcases Nat.lt_or_ge k l.length with hk | hk
    · rw [marks_get hk, List.getElem?_replicate, if_pos hk]
      simp
    · rw [List.getElem?_eq_none (by simpa using hk), List.getElem?_eq_none (by rw [marks_length]; exact hk)]
  rw [hm0] at hown0
  have hb0 : Below w.heap.size w (w.alloc (.cells (madeCells #[.bool false] l.length) 4)) := (Below.refl _ _).alloc (Nat.le_refl _) _
  go_enter Tryz.func18, Tryz.ntmps18
  go_wp2_with fail
  generalize madeCells #[Value.bool false] l.length = mc at *
  go_loopw [4] (fun k wr => ∃ j : Nat, SB l j = true ∧ j ≤ l.length + 1 ∧ k = .int .i64 j ∧ wr.ownsRow w.heap.size 4 1 (.slice (some ⟨w.heap.size, 0, none⟩) l.length l.length) l.length (marks l j) ∧ w.heap.size < wr.heap.size ∧ Below w.heap.size w wr) (fun k _ => l.length + 2 - (intOf k).toNat)
  case atStart => exact ⟨0, rfl, by omega, rfl, hown0, by simp, hb0⟩
  case round =>
    obtain ⟨j, hs, hj, rfl, hown, hsz, hb⟩ := hrel
    rcases Nat.lt_or_ge j l.length with hlt | hge
    · have hc := hown.cellAt j (by omega)
      rw [marks_get hlt] at hc
      have hf := hown.frozenAt j
      obtain ⟨hst, -⟩ := hown.stored j (.bool true)
      rw [marks_set hlt hs] at hst
      have hb2 : Below w.heap.size w (wr.setCell ⟨w.heap.size, j, none⟩ (.bool true)) := hb.setCell (Nat.le_refl _) _
      have hnx := next_at l A c j hn hlt w _ h hb2
      have hgt := step_gt l j
      have hle := step_le l j
      clear hown hmk hown0
      go_wp2_with fail
      refine hnx.mono ?_
      rintro e w2 ⟨rfl, hb3⟩
      go_wp2_with fail
      go_roundw
      case rel => exact ⟨stepN l j, SB_step hs, by omega, rfl, own_below hst hb3 (by simpa using hsz), Nat.lt_of_lt_of_le hsz (by simpa using hb3.size), hb2.trans (hb3.mono (by simpa using Nat.le_of_lt hsz))⟩
      case measure => simp [intOf]; omega
    · go_wp2_with fail
      go_ret
      refine ⟨rfl, ?_, hsz, hb⟩
      rw [← marks_all hge]
      exact hown
set_option maxRecDepth 100000 in
theorem rstarts_new (l : List Insn) (A : Option Addr) (c : Nat) (hn : l.length ≤ 100000) (w : World) (h : SAt w w.heap.size 5 A l.length (insnsV l)) : Calls Tryz.prog 32 #[.slice A l.length c] w fun e w' => e = .returned (.slice (some ⟨w.heap.size, 0, none⟩) l.length l.length) ∧ w'.ownsRow w.heap.size 4 1 (.slice (some ⟨w.heap.size, 0, none⟩) l.length l.length) l.length (boolsV (startsL l)) ∧ w.heap.size < w'.heap.size ∧ Below w.heap.size w w' := by
  have hmk := run_make_row' (P := Tryz.prog) 81 4 (.bool false) 1 Tryz.underlying81 info4 rfl .i64 .i64 l.length (by omega) (by omega)
  have hown0 := own_new w w.heap.size (madeCells #[.bool false] l.length) 4 1 l.length l.length w.heap.size rfl (Nat.le_refl _) (Nat.le_refl _) (by simp only [maxLen]; omega) (by simp [madeCells])
  have hm0 : ((madeCells #[Value.bool false] l.length).toList.take (l.length * 1)) = marks l 0 := by
    rw [toList_madeCells_one, Nat.mul_one, List.take_of_length_le (by simp)]
    apply List.ext_getElem?
    intro k
    rcases Nat.lt_or_ge k l.length with hk | hk
    · rw [marks_get hk, List.getElem?_replicate, if_pos hk]
      simp
    · rw [List.getElem?_eq_none (by simpa using hk), List.getElem?_eq_none (by rw [marks_length]; exact hk)]
  rw [hm0] at hown0
  have hb0 : Below w.heap.size w (w.alloc (.cells (madeCells #[.bool false] l.length) 4)) := (Below.refl _ _).alloc (Nat.le_refl _) _
  go_enter Tryz.func32, Tryz.ntmps32
  go_wp2_with fail
  generalize madeCells #[Value.bool false] l.length = mc at *
  go_loopw [4] (fun k wr => ∃ j : Nat, SB l j = true ∧ j ≤ l.length + 1 ∧ k = .int .i64 j ∧ wr.ownsRow w.heap.size 4 1 (.slice (some ⟨w.heap.size, 0, none⟩) l.length l.length) l.length (marks l j) ∧ w.heap.size < wr.heap.size ∧ Below w.heap.size w wr) (fun k _ => l.length + 2 - (intOf k).toNat)
  case atStart => exact ⟨0, rfl, by omega, rfl, hown0, by simp, hb0⟩
  case round =>
    obtain ⟨j, hs, hj, rfl, hown, hsz, hb⟩ := hrel
    rcases Nat.lt_or_ge j l.length with hlt | hge
    · have hc := hown.cellAt j (by omega)
      rw [marks_get hlt] at hc
      have hf := hown.frozenAt j
      obtain ⟨hst, -⟩ := hown.stored j (.bool true)
      rw [marks_set hlt hs] at hst
      have hb2 : Below w.heap.size w (wr.setCell ⟨w.heap.size, j, none⟩ (.bool true)) := hb.setCell (Nat.le_refl _) _
      have hnx := rnext_at l A c j hn hlt w _ h hb2
      have hgt := step_gt l j
      have hle := step_le l j
      clear hown hmk hown0
      go_wp2_with fail
      refine hnx.mono ?_
      rintro e w2 ⟨rfl, hb3⟩
      go_wp2_with fail
      go_roundw
      case rel => exact ⟨stepN l j, SB_step hs, by omega, rfl, own_below hst hb3 (by simpa using hsz), Nat.lt_of_lt_of_le hsz (by simpa using hb3.size), hb2.trans (hb3.mono (by simpa using Nat.le_of_lt hsz))⟩
      case measure => simp [intOf]; omega
    · go_wp2_with fail
      go_ret
      refine ⟨rfl, ?_, hsz, hb⟩
      rw [← marks_all hge]
      exact hown
theorem own_set_other {w : World} {base e size g n cap : Nat} {xs : List Value} (h : w.ownsRow base e size (.slice (some ⟨g, 0, none⟩) n cap) n xs) {p : Addr} (hp : p.block ≠ g) (v : Value) : (w.setCell p v).ownsRow base e size (.slice (some ⟨g, 0, none⟩) n cap) n xs := by
  refine ⟨h.1, ?_⟩
  rcases h.2 with ⟨hv, _⟩ | ⟨g', cap', cur, hv, hb', hh, r⟩
  · cases hv
  · refine .inr ⟨g', cap', cur, hv, hb', ?_, r⟩
    injection hv with hA
    injection hA with hA
    injection hA with hA
    subst hA
    rw [heap_setCell_other w p g v (fun e => hp e.symm), hh]
theorem own_edit {w : World} {base g n cap : Nat} {es : List Edit} (h : w.ownsRow base 71 7 (.slice (some ⟨g, 0, none⟩) n cap) n (editsV es)) {j : Nat} (hj : j < es.length) (e : Edit) :
    ((((((((w.setCell ⟨g, j * 7, none⟩ (.int .u8 e.kind)).setCell ⟨g, j * 7 + 1, none⟩ (.int .u8 e.x.op)).setCell ⟨g, j * 7 + 2, none⟩ (.int .u8 e.x.dst)).setCell ⟨g, j * 7 + 3, none⟩ (.int .u8 e.x.src)).setCell ⟨g, j * 7 + 4, none⟩ (.int .i16 e.x.off)).setCell ⟨g, j * 7 + 5, none⟩ (.int .i32 e.x.imm)).setCell ⟨g, j * 7 + 6, none⟩ (.int .i64 e.to))).ownsRow base 71 7 (.slice (some ⟨g, 0, none⟩) n cap) n (editsV (es.set j e)) := by
  rw [← editsV_set hj e]
  exact (((((((h.stored (j * 7) _).1.stored (j * 7 + 1) _).1.stored (j * 7 + 2) _).1.stored (j * 7 + 3) _).1.stored (j * 7 + 4) _).1.stored (j * 7 + 5) _).1.stored (j * 7 + 6) _).1
theorem own_edit_other {w : World} {base e size g g' n cap : Nat} {xs : List Value} (h : w.ownsRow base e size (.slice (some ⟨g, 0, none⟩) n cap) n xs) (hne : g' ≠ g) (j : Nat) (d : Edit) :
    ((((((((w.setCell ⟨g', j * 7, none⟩ (.int .u8 d.kind)).setCell ⟨g', j * 7 + 1, none⟩ (.int .u8 d.x.op)).setCell ⟨g', j * 7 + 2, none⟩ (.int .u8 d.x.dst)).setCell ⟨g', j * 7 + 3, none⟩ (.int .u8 d.x.src)).setCell ⟨g', j * 7 + 4, none⟩ (.int .i16 d.x.off)).setCell ⟨g', j * 7 + 5, none⟩ (.int .i32 d.x.imm)).setCell ⟨g', j * 7 + 6, none⟩ (.int .i64 d.to))).ownsRow base e size (.slice (some ⟨g, 0, none⟩) n cap) n xs :=
  own_set_other (own_set_other (own_set_other (own_set_other (own_set_other (own_set_other (own_set_other h hne _) hne _) hne _) hne _) hne _) hne _) hne _
theorem below_edit {B : Nat} {W w : World} (h : Below B W w) {g : Nat} (hg : B ≤ g) (j : Nat) (d : Edit) :
    Below B W ((((((((w.setCell ⟨g, j * 7, none⟩ (.int .u8 d.kind)).setCell ⟨g, j * 7 + 1, none⟩ (.int .u8 d.x.op)).setCell ⟨g, j * 7 + 2, none⟩ (.int .u8 d.x.dst)).setCell ⟨g, j * 7 + 3, none⟩ (.int .u8 d.x.src)).setCell ⟨g, j * 7 + 4, none⟩ (.int .i16 d.x.off)).setCell ⟨g, j * 7 + 5, none⟩ (.int .i32 d.x.imm)).setCell ⟨g, j * 7 + 6, none⟩ (.int .i64 d.to))) :=
  (((((((h.setCell (p := ⟨g, j * 7, none⟩) hg _).setCell (p := ⟨g, j * 7 + 1, none⟩) hg _).setCell (p := ⟨g, j * 7 + 2, none⟩) hg _).setCell (p := ⟨g, j * 7 + 3, none⟩) hg _).setCell (p := ⟨g, j * 7 + 4, none⟩) hg _).setCell (p := ⟨g, j * 7 + 5, none⟩) hg _).setCell (p := ⟨g, j * 7 + 6, none⟩) hg _)
theorem size_edit (w : World) (g j : Nat) (d : Edit) : ((((((((w.setCell ⟨g, j * 7, none⟩ (.int .u8 d.kind)).setCell ⟨g, j * 7 + 1, none⟩ (.int .u8 d.x.op)).setCell ⟨g, j * 7 + 2, none⟩ (.int .u8 d.x.dst)).setCell ⟨g, j * 7 + 3, none⟩ (.int .u8 d.x.src)).setCell ⟨g, j * 7 + 4, none⟩ (.int .i16 d.x.off)).setCell ⟨g, j * 7 + 5, none⟩ (.int .i32 d.x.imm)).setCell ⟨g, j * 7 + 6, none⟩ (.int .i64 d.to))).heap.size = w.heap.size := by simp
theorem own_cells {w : World} {base g n cap : Nat} {es : List Edit} (h : w.ownsRow base 71 7 (.slice (some ⟨g, 0, none⟩) n cap) n (editsV es)) {j : Nat} (hj : j < es.length) (hn : es.length = n) :
    w.cell? ⟨g, j * 7, none⟩ = some (.int .u8 (edAt es j).kind) ∧ w.cell? ⟨g, j * 7 + 1, none⟩ = some (.int .u8 (edAt es j).x.op) ∧ w.cell? ⟨g, j * 7 + 2, none⟩ = some (.int .u8 (edAt es j).x.dst) ∧ w.cell? ⟨g, j * 7 + 3, none⟩ = some (.int .u8 (edAt es j).x.src) ∧ w.cell? ⟨g, j * 7 + 4, none⟩ = some (.int .i16 (edAt es j).x.off) ∧ w.cell? ⟨g, j * 7 + 5, none⟩ = some (.int .i32 (edAt es j).x.imm) ∧ w.cell? ⟨g, j * 7 + 6, none⟩ = some (.int .i64 (edAt es j).to) ∧ ∀ k, w.frozen? ⟨g, k, none⟩ = false := by
  have hk : ∀ k u, k < 7 → (edAt es j).cells[k]? = some u → w.cell? ⟨g, j * 7 + k, none⟩ = some u := by
    intro k u hk hu
    rw [h.cellAt (j * 7 + k) (by omega), editsV_get hj hk, hu]
  exact ⟨hk 0 _ (by omega) rfl, hk 1 _ (by omega) rfl, hk 2 _ (by omega) rfl, hk 3 _ (by omega) rfl, hk 4 _ (by omega) rfl, hk 5 _ (by omega) rfl, hk 6 _ (by omega) rfl, fun k => h.frozenAt k⟩
theorem info71 : (Tryz.prog.info? 71).map (fun i => (i.zero, i.size, i.bytes)) = some (some Edit.none.val, 7, 24) := by kernel_rfl
theorem make_edits (n : Nat) (hn : n ≤ 100000) (w : World) : (Instr.makeSlice 39 (.int .i64 (n : Int)) (.int .i64 (n : Int))).run Tryz.prog w = .ok (.slice (some ⟨w.heap.size, 0, none⟩) n n) (w.alloc (.cells (madeCells Edit.none.val.cells (n * 7)) 71)) := by
  obtain ⟨i, hi, hz, hs, hb⟩ := info_parts info71
  have hr := run_make (P := Tryz.prog) w 39 71 i _ Tryz.underlying39 hi hz .i64 .i64 n n (by omega) (Int.le_refl _) (by rw [hb]; omega) (by omega)
  simp only [Int.toNat_natCast, hs] at hr
  exact hr
theorem editsM_yes {l : List Insn} (h : (checkM l).2 = 0) : editsM l = partE l l.length := by
  unfold editsM; rw [if_neg (by simp [h]), partE_all (Nat.le_refl _)]
theorem editsM_no {l : List Insn} (h : (checkM l).2 ≠ 0) : editsM l = [] := by
  unfold editsM; rw [if_pos h]
/-- Behind Edits. -/
def EditsOk (W : World) (es : List Edit) (e : Ending) (w' : World) : Prop :=
  ∃ A c, e = .returned (.slice A es.length c) ∧ SAt w' w'.heap.size 7 A es.length (editsV es) ∧ es.length ≤ c ∧ c ≤ maxLen ∧ Below W.heap.size W w'
set_option maxHeartbeats 2000000 in
theorem eq_edit (a b : Edit) (w : World) : (binOp .eql 71 a.val b.val).run Tryz.prog w = .ok (.bool (decide (a = b))) w := by
  have e : decide (a = b) = (decide (a.kind = b.kind) && (decide (a.x.op = b.x.op) && (decide (a.x.dst = b.x.dst) && (decide (a.x.src = b.x.src) && (decide (a.x.off = b.x.off) && (decide (a.x.imm = b.x.imm) && decide (a.to = b.to))))))) := by
    obtain ⟨k, ⟨a1, a2, a3, a4, a5⟩, t⟩ := a
    obtain ⟨k', ⟨b1, b2, b3, b4, b5⟩, t'⟩ := b
    rw [Bool.eq_iff_iff]
    simp [and_assoc]
  rw [e]
  by_cases h0 : a.kind = b.kind
  case neg => simp [go_sem, Edit.val, h0]
  by_cases h1 : a.x.op = b.x.op
  case neg => simp [go_sem, Edit.val, h0, h1]
  by_cases h2 : a.x.dst = b.x.dst
  case neg => simp [go_sem, Edit.val, h0, h1, h2]
  by_cases h3 : a.x.src = b.x.src
  case neg => simp [go_sem, Edit.val, h0, h1, h2, h3]
  by_cases h4 : a.x.off = b.x.off
  case neg => simp [go_sem, Edit.val, h0, h1, h2, h3, h4]
  by_cases h5 : a.x.imm = b.x.imm
  case neg => simp [go_sem, Edit.val, h0, h1, h2, h3, h4, h5]
  by_cases h6 : a.to = b.to
  case neg => simp [go_sem, Edit.val, h0, h1, h2, h3, h4, h5, h6]
  simp [go_sem, Edit.val, h0, h1, h2, h3, h4, h5, h6]
set_option maxHeartbeats 2000000 in
theorem neq_edit (a b : Edit) (w : World) : (binOp .neq 71 a.val b.val).run Tryz.prog w = .ok (.bool (!decide (a = b))) w := by
  have e : decide (a = b) = (decide (a.kind = b.kind) && (decide (a.x.op = b.x.op) && (decide (a.x.dst = b.x.dst) && (decide (a.x.src = b.x.src) && (decide (a.x.off = b.x.off) && (decide (a.x.imm = b.x.imm) && decide (a.to = b.to))))))) := by
    obtain ⟨k, ⟨a1, a2, a3, a4, a5⟩, t⟩ := a
    obtain ⟨k', ⟨b1, b2, b3, b4, b5⟩, t'⟩ := b
    rw [Bool.eq_iff_iff]
    simp [and_assoc]
  rw [e]
  by_cases h0 : a.kind = b.kind
  case neg => simp [go_sem, Edit.val, h0]
  by_cases h1 : a.x.op = b.x.op
  case neg => simp [go_sem, Edit.val, h0, h1]
  by_cases h2 : a.x.dst = b.x.dst
  case neg => simp [go_sem, Edit.val, h0, h1, h2]
  by_cases h3 : a.x.src = b.x.src
  case neg => simp [go_sem, Edit.val, h0, h1, h2, h3]
  by_cases h4 : a.x.off = b.x.off
  case neg => simp [go_sem, Edit.val, h0, h1, h2, h3, h4]
  by_cases h5 : a.x.imm = b.x.imm
  case neg => simp [go_sem, Edit.val, h0, h1, h2, h3, h4, h5]
  by_cases h6 : a.to = b.to
  case neg => simp [go_sem, Edit.val, h0, h1, h2, h3, h4, h5, h6]
  simp [go_sem, Edit.val, h0, h1, h2, h3, h4, h5, h6]
theorem edits_eq_at {a b : List Edit} (hl : a.length = b.length) (h : ∀ i, i < a.length → edAt a i = edAt b i) : a = b := by
  apply List.ext_getElem hl
  intro i h1 h2
  have := h i h1
  rwa [edAt_get h1, edAt_get h2] at this
theorem editsM_len (l : List Insn) : (editsM l).length ≤ l.length := by
  unfold editsM
  split <;> simp
theorem editsM_at {l : List Insn} {j : Nat} (h : j < (editsM l).length) : edAt (editsM l) j = hopE l j ∧ j < l.length := by
  rw [edAt_get h]
  unfold editsM at *
  split at h
  · simp at h
  · rename_i hn
    have h' : j < l.length := by simpa using h
    refine ⟨?_, h'⟩
    simp only [if_neg hn]
    simp
theorem insn_at {W : World} {B : Nat} {b o : Nat} {l : List Insn} (h : SAt W B 5 (some ⟨b, o, none⟩) l.length (insnsV l)) {k : Nat} (hk : k < l.length) :
    (∀ w', Below B W w' → w'.cell? ⟨b, o + k * 5, none⟩ = some (.int .u8 (at' l k).op)) ∧ (∀ w', Below B W w' → w'.cell? ⟨b, o + k * 5 + 1, none⟩ = some (.int .u8 (at' l k).dst)) ∧
     (∀ w', Below B W w' → w'.cell? ⟨b, o + k * 5 + 2, none⟩ = some (.int .u8 (at' l k).src)) ∧ (∀ w', Below B W w' → w'.cell? ⟨b, o + k * 5 + 3, none⟩ = some (.int .i16 (at' l k).off)) ∧ (∀ w', Below B W w' → w'.cell? ⟨b, o + k * 5 + 4, none⟩ = some (.int .i32 (at' l k).imm)) := by
  obtain ⟨b', o', e, hb, c0, c1, c2, c3, c4⟩ := h.insn hk
  simp only [Option.some.injEq, Addr.mk.injEq, and_true] at e
  obtain ⟨rfl, rfl⟩ := e
  exact ⟨c0, c1, c2, c3, c4⟩
end Go.Proofs.YtncogaikiceidaaGreat
