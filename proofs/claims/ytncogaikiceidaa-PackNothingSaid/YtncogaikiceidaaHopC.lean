/- Where one comes by jumps alone, and what becomes of instructions, by the program and by the reference. No statement is proved here. -/
import Derived.Test.YtncogaikiceidaaHopE
import Derived.Test.YtncogaikiceidaaRLists
section
namespace Go.Proofs.Ytncogaikiceidaa
open Go.RowKit
set_option linter.unusedSimpArgs false
set_option linter.unusedVariables false
set_option linter.unnecessarySimpa false
theorem box71 {W : World} {g B : Nat} (e : Edit) (hg : g < B) (h : W.heap[g]? = some e.obj) :
    (∀ w', Below B W w' → w'.cell? ⟨g, 0, none⟩ = some (.int .u8 e.kind)) ∧ (∀ w', Below B W w' → w'.cell? ⟨g, 1, none⟩ = some (.int .u8 e.x.op)) ∧ (∀ w', Below B W w' → w'.cell? ⟨g, 2, none⟩ = some (.int .u8 e.x.dst)) ∧
    (∀ w', Below B W w' → w'.cell? ⟨g, 3, none⟩ = some (.int .u8 e.x.src)) ∧ (∀ w', Below B W w' → w'.cell? ⟨g, 4, none⟩ = some (.int .i16 e.x.off)) ∧ (∀ w', Below B W w' → w'.cell? ⟨g, 5, none⟩ = some (.int .i32 e.x.imm)) ∧ (∀ w', Below B W w' → w'.cell? ⟨g, 6, none⟩ = some (.int .i64 e.to)) := by
  refine ⟨?_, ?_, ?_, ?_, ?_, ?_, ?_⟩ <;> (intro w' hb; rw [hb.cell (p := ⟨g, _, none⟩) hg, cell_of_row W g _ _ 48 (0, 0) h]; rfl)
set_option maxRecDepth 100000 in
theorem starts_new (l : List Insn) (A : Option Addr) (c : Nat) (hn : l.length ≤ 100000) (w : World) (h : SAt w w.heap.size 5 A l.length (insnsV l)) : Calls Try.prog 46 #[.slice A l.length c] w fun e w' => e = .returned (.slice (some ⟨w.heap.size, 0, none⟩) l.length l.length) ∧ w'.ownsRow w.heap.size 4 1 (.slice (some ⟨w.heap.size, 0, none⟩) l.length l.length) l.length (boolsV (startsL l)) ∧ w.heap.size < w'.heap.size ∧ Below w.heap.size w w' := by
  have hmk := run_make_row' (P := Try.prog) 49 4 (.bool false) 1 Try.underlying49 info4 rfl .i64 .i64 l.length (by omega) (by omega)
  have hown0 := own_new w w.heap.size (madeCells #[.bool false] l.length) 4 1 l.length l.length w.heap.size rfl (Nat.le_refl _) (Nat.le_refl _) (by simp only [maxLen]; omega) (by simp [madeCells])
  have hm0 : ((madeCells #[Value.bool false] l.length).toList.take (l.length * 1)) = marks l 0 := by
    rw [toList_madeCells_one, Nat.mul_one, List.take_of_length_le (by simp)]
    apply List.ext_getElem?
    intro k
    rcases Nat.lt_or_ge k l.length with hk | hk
    · rw [marks_get hk, List.getElem?_replicate, if_pos hk]
      simp
    · rw [List.getElem?_eq_none (by simpa using hk), List.getElem?_eq_none (by rw [marks_length]; exact hk)]
  rw [hm0] at hown0
  have hb0 : Below w.heap.size w (w.alloc (.cells (madeCells #[.bool false] l.length) 4)) := (Below.refl _ _).alloc (Nat.le_refl _) _
  go_enter Try.func46, Try.ntmps46
  go_wp2_with fail
  generalize madeCells #[Value.bool false] l.length = mc at *
  go_loopw [4] (fun k wr => ∃ j : Nat, SB l j = true ∧ j ≤ l.length + 1 ∧ k = .int .i64 j ∧ wr.ownsRow w.heap.size 4 1 (.slice (some ⟨w.heap.size, 0, none⟩) l.length l.length) l.length (marks l j) ∧ w.heap.size < wr.heap.size ∧ Below w.heap.size w wr) (fun k _ => l.length + 2 - (intOf k).toNat)
  case atStart => exact ⟨0, rfl, by omega, rfl, hown0, by simp, hb0⟩
  case round =>
    obtain ⟨j, hs, hj, rfl, hown, hsz, hb⟩ := hrel
    rcases Nat.lt_or_ge j l.length with hlt | hge
    · have hc := hown.cellAt j (by omega)
      rw [marks_get hlt] at hc
      have hf := hown.frozenAt j
      obtain ⟨hst, -⟩ := hown.stored j (.bool true)
      rw [marks_set hlt hs] at hst
      have hb2 : Below w.heap.size w (wr.setCell ⟨w.heap.size, j, none⟩ (.bool true)) := hb.setCell (Nat.le_refl _) _
      have hnx := next_at l A c j hn hlt w _ h hb2
      have hgt := step_gt l j
      have hle := step_le l j
      clear hown hmk hown0
      go_wp2_with fail
      refine hnx.mono ?_
      rintro e w2 ⟨rfl, hb3⟩
      go_wp2_with fail
      go_roundw
      case rel => exact ⟨stepN l j, SB_step hs, by omega, rfl, own_below hst hb3 (by simpa using hsz), Nat.lt_of_lt_of_le hsz (by simpa using hb3.size), hb2.trans (hb3.mono (by simpa using Nat.le_of_lt hsz))⟩
      case measure => simp [intOf]; omega
    · go_wp2_with fail
      go_ret
      refine ⟨rfl, ?_, hsz, hb⟩
      rw [← marks_all hge]
      exact hown
theorem own_set_other {w : World} {base e size g n cap : Nat} {xs : List Value} (h : w.ownsRow base e size (.slice (some ⟨g, 0, none⟩) n cap) n xs) {p : Addr} (hp : p.block ≠ g) (v : Value) : (w.setCell p v).ownsRow base e size (.slice (some ⟨g, 0, none⟩) n cap) n xs := by
  refine ⟨h.1, ?_⟩
  rcases h.2 with ⟨hv, _⟩ | ⟨g', cap', cur, hv, hb', hh, r⟩
  · cases hv
  · refine .inr ⟨g', cap', cur, hv, hb', ?_, r⟩
    injection hv with hA
    injection hA with hA
    injection hA with hA
    subst hA
    rw [heap_setCell_other w p g v (fun e => hp e.symm), hh]
theorem insn_at {W : World} {B : Nat} {b o : Nat} {l : List Insn} (h : SAt W B 5 (some ⟨b, o, none⟩) l.length (insnsV l)) {k : Nat} (hk : k < l.length) :
    (∀ w', Below B W w' → w'.cell? ⟨b, o + k * 5, none⟩ = some (.int .u8 (at' l k).op)) ∧ (∀ w', Below B W w' → w'.cell? ⟨b, o + k * 5 + 1, none⟩ = some (.int .u8 (at' l k).dst)) ∧
     (∀ w', Below B W w' → w'.cell? ⟨b, o + k * 5 + 2, none⟩ = some (.int .u8 (at' l k).src)) ∧ (∀ w', Below B W w' → w'.cell? ⟨b, o + k * 5 + 3, none⟩ = some (.int .i16 (at' l k).off)) ∧ (∀ w', Below B W w' → w'.cell? ⟨b, o + k * 5 + 4, none⟩ = some (.int .i32 (at' l k).imm)) := by
  obtain ⟨b', o', e, hb, c0, c1, c2, c3, c4⟩ := h.insn hk
  simp only [Option.some.injEq, Addr.mk.injEq, and_true] at e
  obtain ⟨rfl, rfl⟩ := e
  exact ⟨c0, c1, c2, c3, c4⟩
end Go.Proofs.Ytncogaikiceidaa
end
section
namespace Go.Proofs.Ytncogaikiceidaa
set_option maxRecDepth 100000
open Go.RowKit
set_option linter.unusedSimpArgs false
set_option linter.unusedVariables false
set_option linter.unnecessarySimpa false
set_option maxHeartbeats 4000000 in
theorem pedit_any (es : List Edit) (E : Option Addr) (c : Nat) (hn : es.length ≤ 100000) (i : Nat) (hi : i ≤ 100000) (w : World) (h : SAt w w.heap.size 7 E es.length (editsV es)) :
    Calls Try.prog 48 #[.slice E es.length c, .int .i64 i] w fun e w' => e = .returned (editM es i).val ∧ Below w.heap.size w w' := by
  have hB0 : Below w.heap.size w (w.alloc Edit.none.obj) := (Below.refl _ _).alloc (Nat.le_refl _) _
  simp only [Edit.none, Edit.obj, Insn.zero] at hB0
  by_cases h1 : i < es.length
  · obtain ⟨b, o, rfl, hb, d0, d1, d2, d3, d4, d5, d6⟩ := h.edit h1
    replace d0 := d0 _ hB0
    replace d1 := d1 _ hB0
    replace d2 := d2 _ hB0
    replace d3 := d3 _ hB0
    replace d4 := d4 _ hB0
    replace d5 := d5 _ hB0
    replace d6 := d6 _ hB0
    have h1' : (i : Int) < (es.length : Int) := by omega
    have h2' : ¬ (es.length : Int) ≤ (i : Int) := by omega
    by_cases hk : (edAt es i).kind ≤ 2
    · have HE := Lib.hid (show editM es i = edAt es i by unfold editM; rw [if_pos ⟨h1, hk⟩])
      generalize edAt es i = d at *
      obtain ⟨y0, ⟨y1, y2, y3, y4, y5⟩, y6⟩ := d
      simp only at hk d0 d1 d2 d3 d4 d5 d6
      have hk' : ¬ 2 < y0 := by omega
      go_enter Try.func48, Try.ntmps48
      go_wp2_with fail
      exact bodyPost_ret (v := Edit.val ⟨y0, ⟨y1, y2, y3, y4, y5⟩, y6⟩) (by simp [results, Try.results48, go_sem, Edit.val, Edit.none, Insn.zero, *]) rfl ⟨by first | (rw [HE.out]; rfl) | rw [HE.out], (Below.refl _ _).alloc (Nat.le_refl _) _⟩
    · have HE := Lib.hid (show editM es i = Edit.none by unfold editM; rw [if_neg (fun h => hk h.2)])
      generalize edAt es i = d at *
      obtain ⟨y0, ⟨y1, y2, y3, y4, y5⟩, y6⟩ := d
      simp only at hk d0 d1 d2 d3 d4 d5 d6
      have hk' : 2 < y0 := by omega
      go_enter Try.func48, Try.ntmps48
      go_wp2_with fail
      exact bodyPost_ret (v := Edit.none.val) (by simp [results, Try.results48, go_sem, Edit.val, Edit.none, Insn.zero, *]) rfl ⟨by first | (rw [HE.out]; rfl) | rw [HE.out], (Below.refl _ _).alloc (Nat.le_refl _) _⟩
  · have HE := Lib.hid (show editM es i = Edit.none by unfold editM; rw [if_neg (fun h => h1 h.1)])
    have h1' : ¬ (i : Int) < (es.length : Int) := by omega
    have h2' : (es.length : Int) ≤ (i : Int) := by omega
    go_enter Try.func48, Try.ntmps48
    go_wp2_with fail
    exact bodyPost_ret (v := Edit.none.val) (by simp [results, Try.results48, go_sem, Edit.val, Edit.none, Insn.zero, *]) rfl ⟨by first | (rw [HE.out]; rfl) | rw [HE.out], (Below.refl _ _).alloc (Nat.le_refl _) _⟩
theorem at_part {l : List Insn} {i m k : Nat} (hk : k < m) (him : i + m ≤ l.length) : at' ((l.drop i).take m) k = at' l (i + k) := by
  simp [at', List.getD_eq_getElem?_getD, List.getElem?_take, hk, List.getElem?_drop]
theorem SAt.insns_part {w : World} {B : Nat} {A : Option Addr} {l : List Insn} (h : SAt w B 5 A l.length (insnsV l)) {i m : Nat} (him : i + m ≤ l.length) (hm : 0 < m) :
    ∃ b o, A = some ⟨b, o, none⟩ ∧ b < B ∧ SAt w B 5 (some ⟨b, o + i * 5, none⟩) m (insnsV ((l.drop i).take m)) := by
  obtain ⟨b, o, rfl, hb, hc⟩ := h.2 (by omega)
  have hlen : ((l.drop i).take m).length = m := by rw [List.length_take, List.length_drop]; omega
  refine ⟨b, o, rfl, hb, by rw [insnsV_length, hlen], fun _ => ⟨b, o + i * 5, rfl, hb, fun j u hu => ?_⟩⟩
  have hj : j < m * 5 := by
    rcases Nat.lt_or_ge j (m * 5) with h1 | h1
    · exact h1
    · rw [List.getElem?_eq_none (by rw [insnsV_length, hlen]; exact h1)] at hu; cases hu
  have e : j = j / 5 * 5 + j % 5 := by omega
  rw [e, insnsV_get (by rw [hlen]; omega) (by omega), at_part (by omega) him] at hu
  rw [Nat.add_assoc]
  refine hc _ _ ?_
  have e2 : i * 5 + j = (i + j / 5) * 5 + j % 5 := by omega
  rw [e2, insnsV_get (by omega) (by omega)]
  exact hu
theorem becL_kept {l : List Insn} (hp : Prog l) {es : List Edit} {i : Nat} (hi : i < l.length) (hs : SB l i = true) (h1 : ¬ (editM es i).kind = 1) (h2 : ¬ (editM es i).kind = 2) : becL l es i = (l.drop i).take (stepN l i - i) := by
  unfold becL
  rw [if_neg h1, if_neg h2]
  unfold stepN
  by_cases hw : (at' l i).op = 24
  · have hh := (hp.half hi hs hw).1
    rw [if_pos hw, if_pos hw, show i + 2 - i = 2 by omega]
    rw [List.drop_eq_getElem_cons hi, List.drop_eq_getElem_cons hh, at_get hi, at_get hh]
    rfl
  · rw [if_neg hw, if_neg hw, show i + 1 - i = 1 by omega, List.drop_eq_getElem_cons hi, at_get hi]
    rfl
theorem right_any (l : List Insn) (hl : ∀ x ∈ l, x.Ok) (A : Option Addr) (c : Nat) (hn : l.length ≤ 100000) (w : World) (h : SAt w w.heap.size 5 A l.length (insnsV l)) :
    Calls Try.prog 22 #[.slice A l.length c] w fun e w' => e = .returned (.bool ((checkM l).2 == 0)) ∧ Below w.heap.size w w' := by
  have hck := check_any l hl A c hn w h
  generalize checkM l = r at *
  obtain ⟨r0, r1⟩ := r
  go_enter Try.func22, Try.ntmps22
  go_wp2_with fail
  refine hck.mono ?_
  rintro e w1 ⟨rfl, hb1⟩
  go_wp2_with fail
  go_ret
  exact ⟨rfl, hb1⟩
/-- Behind becomes. -/
def BecOk (W : World) (A : Option Addr) (i : Nat) (r : List Insn × Int) (e : Ending) (w' : World) : Prop :=
  ∃ X c, e = .returned (.tuple #[.slice X r.1.length c, .int .i64 r.2]) ∧ SAt w' w'.heap.size 5 X r.1.length (insnsV r.1) ∧ r.1.length ≤ c ∧ c ≤ maxLen ∧ (r.1.length = 2 → ∃ b o, A = some ⟨b, o, none⟩ ∧ X = some ⟨b, o + i * 5, none⟩) ∧ Below W.heap.size W w'
set_option maxHeartbeats 4000000 in
theorem becomes_any (l : List Insn) (hl : ∀ x ∈ l, x.Ok) (hp : Prog l) (A : Option Addr) (c : Nat) (hc : l.length ≤ c) (hc' : c ≤ maxLen) (hn : l.length ≤ 100000) (es : List Edit) (E : Option Addr) (d : Nat) (hm : es.length ≤ 100000) (i : Nat) (hi : i < l.length) (hs : SB l i = true) (w : World) (h : SAt w w.heap.size 5 A l.length (insnsV l)) (he : SAt w w.heap.size 7 E es.length (editsV es)) :
    Calls Try.prog 25 #[.slice A l.length c, .slice E es.length d, .int .i64 i] w (BecOk w A i (becL l es i, becT l es i)) := by
  have hed := pedit_any es E d hm i (by omega) w he
  by_cases h1 : (editM es i).kind = 1
  · have HL := Lib.hid (show becL l es i = [] by unfold becL; rw [if_pos h1])
    have HT := Lib.hid (show becT l es i = 0 by unfold becT; rw [if_pos h1])
    generalize editM es i = x at *
    obtain ⟨y0, ⟨y1, y2, y3, y4, y5⟩, y6⟩ := x
    simp only [Edit.val] at h1 hed
    subst h1
    go_enter Try.func25, Try.ntmps25
    go_wp2_with fail
    refine hed.mono ?_
    rintro e w1 ⟨rfl, hb1⟩
    go_wp2_with fail
    go_ret2
    have hb2 := hb1.alloc hb1.size (.cells #[.int .u8 1, .int .u8 y1, .int .u8 y2, .int .u8 y3, .int .i16 y4, .int .i32 y5, .int .i64 y6] 48)
    exact ⟨none, 0, by simp only [HL.out, HT.out]; rfl, by simp only [HL.out]; exact SAt.nil_, by simp only [HL.out]; exact Nat.le_refl _, by simp [maxLen], fun h => (by rw [show (becL l es i, becT l es i).1 = [] from HL.out] at h; cases h), hb2⟩
  by_cases h2 : (editM es i).kind = 2
  · have HL := Lib.hid (show becL l es i = [(editM es i).x] by unfold becL; rw [if_neg h1, if_pos h2])
    have HT := Lib.hid (show becT l es i = (editM es i).to by unfold becT; rw [if_neg h1, if_pos h2])
    generalize editM es i = x at *
    obtain ⟨y0, ⟨y1, y2, y3, y4, y5⟩, y6⟩ := x
    simp only [Edit.val] at h2 hed
    subst h2
    go_enter Try.func25, Try.ntmps25
    go_wp2_with fail
    refine hed.mono ?_
    rintro e w1 ⟨rfl, hb1⟩
    have hb2 := hb1.alloc hb1.size (.cells #[.int .u8 2, .int .u8 y1, .int .u8 y2, .int .u8 y3, .int .i16 y4, .int .i32 y5, .int .i64 y6] 48)
    obtain ⟨e0, e1, e2, e3, e4, e5, e6⟩ := box71 (W := w1.alloc (.cells #[.int .u8 2, .int .u8 y1, .int .u8 y2, .int .u8 y3, .int .i16 y4, .int .i32 y5, .int .i64 y6] 48)) (B := w1.heap.size + 1) ⟨2, ⟨y1, y2, y3, y4, y5⟩, y6⟩ (by omega) (heap_alloc_new _ _)
    simp only at e0 e1 e2 e3 e4 e5 e6
    have hBB := Below.refl (w1.heap.size + 1) (w1.alloc (.cells #[.int .u8 2, .int .u8 y1, .int .u8 y2, .int .u8 y3, .int .i16 y4, .int .i32 y5, .int .i64 y6] 48))
    replace e1 := e1 _ hBB
    replace e2 := e2 _ hBB
    replace e3 := e3 _ hBB
    replace e4 := e4 _ hBB
    replace e5 := e5 _ hBB
    replace e6 := e6 _ hBB
    clear e0 hBB hed
    go_wp2_with fail
    go_region
    all_goals
      go_wp2_with fail
      go_ret2
      have hb3 := (hb2.alloc hb2.size (.cells #[.int .u8 y1, .int .u8 y2, .int .u8 y3, .int .i16 y4, .int .i32 y5] 40)).drew
      have hsz : (w1.alloc (.cells #[.int .u8 2, .int .u8 y1, .int .u8 y2, .int .u8 y3, .int .i16 y4, .int .i32 y5, .int .i64 y6] 48)).heap.size = w1.heap.size + 1 := by simp
      have hnew0 := sat_new (w1.alloc (.cells #[.int .u8 2, .int .u8 y1, .int .u8 y2, .int .u8 y3, .int .i16 y4, .int .i32 y5, .int .i64 y6] 48)) 40 #[.int .u8 y1, .int .u8 y2, .int .u8 y3, .int .i16 y4, .int .i32 y5] 5 1 rfl
      have hnew1 := hnew0.below (w' := ((w1.alloc (.cells #[.int .u8 2, .int .u8 y1, .int .u8 y2, .int .u8 y3, .int .i16 y4, .int .i32 y5, .int .i64 y6] 48)).alloc (.cells #[.int .u8 y1, .int .u8 y2, .int .u8 y3, .int .i16 y4, .int .i32 y5] 40)).drew) (Below.refl _ _).drew
      have hle : (w1.alloc (.cells #[.int .u8 2, .int .u8 y1, .int .u8 y2, .int .u8 y3, .int .i16 y4, .int .i32 y5, .int .i64 y6] 48)).heap.size + 1 ≤ ((w1.alloc (.cells #[.int .u8 2, .int .u8 y1, .int .u8 y2, .int .u8 y3, .int .i16 y4, .int .i32 y5, .int .i64 y6] 48)).alloc (.cells #[.int .u8 y1, .int .u8 y2, .int .u8 y3, .int .i16 y4, .int .i32 y5] 40)).drew.heap.size := by
        show _ ≤ ((w1.alloc (.cells #[.int .u8 2, .int .u8 y1, .int .u8 y2, .int .u8 y3, .int .i16 y4, .int .i32 y5, .int .i64 y6] 48)).alloc (.cells #[.int .u8 y1, .int .u8 y2, .int .u8 y3, .int .i16 y4, .int .i32 y5] 40)).heap.size
        simp
      have hnew := hnew1.more hle
      rw [hsz] at hnew
      refine ⟨some ⟨w1.heap.size + 1, 0, none⟩, 1, ?_, ?_, ?_, by simp [maxLen], fun h => (by rw [show (becL l es i, becT l es i).1 = [_] from HL.out] at h; cases h), hb3⟩
      · simp only [HL.out, HT.out]; rfl
      · simp only [HL.out]; exact hnew
      · simp only [HL.out]; exact Nat.le_refl _
  · have HL := Lib.hid (becL_kept hp hi hs h1 h2)
    have HT := Lib.hid (show becT l es i = (targetM l i).1 by unfold becT; rw [if_neg h1, if_neg h2])
    have hsle := hp.step_le hi hs
    have hgt := step_gt l i
    have hta := fun w1 (hb : Below w.heap.size w w1) => target_any l hl A c hn i (by omega) (by omega) w1 ((h.below hb).more hb.size)
    have hnx := fun w1 (hb : Below w.heap.size w w1) => next_at l A c i hn hi w w1 h hb
    obtain ⟨b, o, rfl, hb, hpart⟩ := h.insns_part (i := i) (m := stepN l i - i) (by omega) (by omega)
    have hlen : ((l.drop i).take (stepN l i - i)).length = stepN l i - i := by rw [List.length_take, List.length_drop]; omega
    have HN := Lib.hid hlen
    clear hlen
    generalize editM es i = x at *
    obtain ⟨y0, ⟨y1, y2, y3, y4, y5⟩, y6⟩ := x
    simp only [Edit.val] at h1 h2 hed
    have q1 : (y0 == 1) = false := by simp [h1]
    have q2 : (y0 == 2) = false := by simp [h2]
    clear h1 h2
    generalize targetM l i = tm at *
    obtain ⟨t0, tb⟩ := tm
    simp only at hta HT
    go_enter Try.func25, Try.ntmps25
    go_wp2_with fail
    refine hed.mono ?_
    rintro e w1 ⟨rfl, hb1⟩
    clear hed
    have hb2 := hb1.alloc hb1.size (.cells #[.int .u8 y0, .int .u8 y1, .int .u8 y2, .int .u8 y3, .int .i16 y4, .int .i32 y5, .int .i64 y6] 48)
    go_wp2_with fail
    refine (hta _ hb2).mono ?_
    rintro e w2 ⟨rfl, hb3⟩
    clear hta
    have hb23 := hb2.trans (hb3.mono hb2.size)
    go_wp2_with fail
    refine (hnx _ hb23).mono ?_
    rintro e w3 ⟨rfl, hb4⟩
    clear hnx
    have hb24 := hb23.trans (hb4.mono hb23.size)
    have s1 : (i : Int) ≤ (stepN l i : Int) := by omega
    have s2 : (stepN l i : Int) ≤ (c : Int) := by omega
    have s3 : (i : Int) ≤ (c : Int) := by omega
    go_wp2_with fail
    go_ret2
    have hL2 : (becL l es i).length = stepN l i - i := by rw [HL.out]; exact HN.out
    refine ⟨some ⟨b, o + i * 5, none⟩, c - i, ?_, ?_, ?_, ?_, fun _ => ⟨b, o, rfl, rfl⟩, hb24⟩
    · simp only [hL2, HT.out]; rfl
    · simp only [hL2]
      rw [HL.out]
      exact (hpart.below hb24).more hb24.size
    · simp only [hL2]; omega
    · unfold maxLen at *; omega
theorem infoInt : (Try.prog.info? 3).map (fun i => (i.zero, i.size, i.bytes)) = some (some (.int .i64 0), 1, 8) := by kernel_rfl
def placesV (l : List Insn) (es : List Edit) (j : Nat) : List Value := (List.range (l.length + 1)).map fun k => Value.int .i64 (if k < j then (plN l es k : Int) else 0)
theorem placesV_length (l : List Insn) (es : List Edit) (j : Nat) : (placesV l es j).length = l.length + 1 := by simp [placesV]
theorem placesV_get {l : List Insn} {es : List Edit} {j k : Nat} (h : k < l.length + 1) : (placesV l es j)[k]? = some (.int .i64 (if k < j then (plN l es k : Int) else 0)) := by
  simp [placesV, List.getElem?_map, List.getElem?_range h]
theorem placesV_zero (l : List Insn) (es : List Edit) : placesV l es 0 = List.replicate (l.length + 1) (.int .i64 0) := by
  apply List.ext_getElem?
  intro k
  rcases Nat.lt_or_ge k (l.length + 1) with hk | hk
  · rw [placesV_get hk]; simp [hk]
  · rw [List.getElem?_eq_none (by rw [placesV_length]; exact hk), List.getElem?_eq_none (by simpa using hk)]
theorem placesV_set {l : List Insn} {es : List Edit} {j : Nat} (hj : j < l.length + 1) : (placesV l es j).set j (.int .i64 (plN l es j)) = placesV l es (j + 1) := by
  apply List.ext_getElem?
  intro k
  rcases Nat.lt_or_ge k (l.length + 1) with hk | hk
  · rw [placesV_get hk, List.getElem?_set]
    split
    · rename_i e
      subst e
      rw [if_pos (by rw [placesV_length]; exact hj), if_pos (by omega)]
    · rw [placesV_get hk]
      congr 2
      by_cases h1 : k < j
      · rw [if_pos h1, if_pos (by omega)]
      · rw [if_neg h1, if_neg (by omega)]
  · rw [List.getElem?_eq_none (by rw [List.length_set, placesV_length]; exact hk), List.getElem?_eq_none (by rw [placesV_length]; exact hk)]
/-- Behind places: the places, each to be read while the world below is kept. -/
def PlOk (W : World) (l : List Insn) (es : List Edit) (e : Ending) (w' : World) : Prop :=
  ∃ g, e = .returned (.slice (some ⟨g, 0, none⟩) (l.length + 1) (l.length + 1)) ∧ g < w'.heap.size ∧ W.heap.size ≤ g ∧ (∀ k, k ≤ l.length → ∀ w'', Below w'.heap.size w' w'' → w''.cell? ⟨g, k, none⟩ = some (.int .i64 (plN l es k))) ∧ Below W.heap.size W w'
theorem plN_next {l : List Insn} {es : List Edit} {j : Nat} (hs : SB l j = true) : plN l es (j + 1) = plN l es j + (becL l es j).length := by rw [plN, if_pos hs]
theorem plN_same {l : List Insn} {es : List Edit} {j : Nat} (hs : SB l j = false) : plN l es (j + 1) = plN l es j := by rw [plN, if_neg (by simp [hs])]; rfl
set_option maxHeartbeats 4000000 in
theorem places_any (l : List Insn) (hl : ∀ x ∈ l, x.Ok) (hp : Prog l) (A : Option Addr) (c : Nat) (hc : l.length ≤ c) (hc' : c ≤ maxLen) (hn : l.length ≤ 10000) (es : List Edit) (E : Option Addr) (d : Nat) (hm : es.length ≤ 100000) (w : World) (h : SAt w w.heap.size 5 A l.length (insnsV l)) (he : SAt w w.heap.size 7 E es.length (editsV es)) :
    Calls Try.prog 23 #[.slice A l.length c, .slice E es.length d] w (PlOk w l es) := by
  have hmk : ∀ w, (Instr.makeSlice 81 (.int .i64 ((l.length : Int) + 1)) (.int .i64 ((l.length : Int) + 1))).run Try.prog w = .ok (.slice (some ⟨w.heap.size, 0, none⟩) (l.length + 1) (l.length + 1)) (w.alloc (.cells (madeCells #[.int .i64 0] (l.length + 1)) 3)) := by
    intro w
    have := run_make_row' (P := Try.prog) 81 3 (.int .i64 0) 8 Try.underlying81 infoInt rfl .i64 .i64 (l.length + 1) (by omega) (by omega) w
    rwa [show ((l.length + 1 : Nat) : Int) = (l.length : Int) + 1 from rfl] at this
  have hown0 := own_new w w.heap.size (madeCells #[.int .i64 0] (l.length + 1)) 3 1 (l.length + 1) (l.length + 1) w.heap.size rfl (Nat.le_refl _) (Nat.le_refl _) (by simp only [maxLen]; omega) (by simp [madeCells])
  rw [toList_madeCells_one, Nat.mul_one, List.take_of_length_le (by simp), ← placesV_zero l es] at hown0
  have hb0 : Below w.heap.size w (w.alloc (.cells (madeCells #[.int .i64 0] (l.length + 1)) 3)) := (Below.refl _ _).alloc (Nat.le_refl _) _
  have hsz0 : (w.alloc (.cells (madeCells #[.int .i64 0] (l.length + 1)) 3)).heap.size = w.heap.size + 1 := by simp
  generalize madeCells #[Value.int .i64 0] (l.length + 1) = mc at *
  have hst := starts_new l A c (by omega) _ ((h.below hb0).more hb0.size)
  have hbec := fun (j : Nat) (hj : j < l.length) (hs : SB l j = true) w1 (hb : Below w.heap.size w w1) => becomes_any l hl hp A c hc hc' (by omega) es E d hm j hj hs w1 ((h.below hb).more hb.size) ((he.below hb).more hb.size)
  have HS := Lib.hid hsz0
  clear hsz0
  go_enter Try.func23, Try.ntmps23
  go_wp2_with fail
  clear hmk
  generalize hW : w.alloc (.cells mc 3) = W at *
  refine hst.mono ?_
  rintro e w2 ⟨rfl, hownS, hszS, hb2⟩
  clear hst hW
  have hsg : W.heap.size = w.heap.size + 1 := HS.out
  generalize hs1 : W.heap.size = s at *
  subst hsg
  have hgs : w.heap.size ≠ w.heap.size + 1 := by omega
  have hbw2 := hb0.trans (hb2.mono (by omega))
  have hownS' := own_mono (base' := w.heap.size) (by omega) hownS
  have hown2 := own_below hown0 hb2 (by omega)
  clear hown0 hownS hs1 HS hb2 hb0
  generalize hgg : w.heap.size = g at *
  go_wp2_with fail
  go_loopw [20, 7] (fun k v wr => ∃ (j : Nat), j ≤ l.length ∧ k = .int .i64 j ∧ v = .int .i64 (plN l es j : Nat) ∧ wr.ownsRow g 3 1 (.slice (some ⟨g, 0, none⟩) (l.length + 1) (l.length + 1)) (l.length + 1) (placesV l es j) ∧ wr.ownsRow g 4 1 (.slice (some ⟨g + 1, 0, none⟩) l.length l.length) l.length (boolsV (startsL l)) ∧ g + 1 < wr.heap.size ∧ Below g w wr) (fun k _ _ => l.length - (intOf k).toNat)
  case atStart => exact ⟨0, by omega, rfl, rfl, hown2, hownS', hszS, hbw2⟩
  case round =>
    obtain ⟨j, hj, rfl, rfl, hownE, hownF, hszr, hbw⟩ := hrel
    have hpl := plN_le l es j
    have hset := placesV_set (l := l) (es := es) (j := j) (by omega)
    obtain ⟨hst3, -⟩ := hownE.stored j (.int .i64 (plN l es j : Nat))
    rw [hset] at hst3
    clear hset
    have hc0 := hownE.cellAt j (by omega)
    rw [placesV_get (by omega)] at hc0
    have hfz := hownE.frozenAt j
    have hbw3 : Below g w (wr.setCell ⟨g, j, none⟩ (.int .i64 (plN l es j : Nat))) := hbw.setCell (Nat.le_refl _) _
    have hownF3 := own_set_other hownF (p := ⟨g, j, none⟩) hgs (.int .i64 (plN l es j : Nat))
    have hsz3 : g + 1 < (wr.setCell ⟨g, j, none⟩ (.int .i64 (plN l es j : Nat))).heap.size := by simpa using hszr
    by_cases hlt : j < l.length
    · have hcell := hownF.cellAt j (by omega)
      rw [show (boolsV (startsL l))[j]? = some (.bool (SB l j)) by simp [boolsV, startsL, List.getElem?_range hlt]] at hcell
      have hj1 : (j : Int) < (l.length : Int) + 1 := by omega
      cases hs : SB l j
      · rw [hs] at hcell
        have HP := Lib.hid (plN_same (l := l) (es := es) hs)
        clear hownE hownF hbec
        go_wp2_with fail
        go_roundw
        case rel => exact ⟨j + 1, by omega, by go_num, by rw [HP.out], hst3, hownF3, hsz3, hbw3⟩
        case measure => simp [intOf]; omega
      · rw [hs] at hcell
        have HP := Lib.hid (plN_next (l := l) (es := es) hs)
        have hbl := becL_le l es j
        have hbj := hbec j hlt hs _ hbw3
        clear hownE hownF hbec
        generalize plN l es j = pj at *
        go_wp2_with fail
        generalize hX : wr.setCell ⟨g, j, none⟩ (.int .i64 (pj : Nat)) = X at *
        refine hbj.mono ?_
        rintro e w5 ⟨Y, yc, rfl, hys, hyc, hym, -, hb5⟩
        clear hbj hys
        simp only
        have hst5 := own_below hst3 hb5 (by omega)
        have hownF5 := own_below hownF3 hb5 hsz3
        have hsz5 := Nat.lt_of_lt_of_le hsz3 hb5.size
        have hbw5 := hbw3.trans (hb5.mono (by have := hbw3.size; omega))
        generalize (becL l es j).length = bl at *
        go_wp2_with fail
        go_roundw
        case rel => exact ⟨j + 1, by omega, by go_num, by rw [HP.out]; rfl, hst5, hownF5, hsz5, hbw5⟩
        case measure => simp [intOf]; omega
    · obtain rfl : j = l.length := by omega
      have hj1 : (l.length : Int) < (l.length : Int) + 1 := by omega
      clear hownE hownF hbec
      go_wp2_with fail
      go_ret
      refine ⟨g, rfl, by simp; omega, by omega, fun k hk w'' hb => ?_, by rw [hgg]; exact hbw3⟩
      rw [hb.cell (by show g < _; simp; omega)]
      have := hst3.cellAt k (by omega)
      rw [this, placesV_get (by omega), if_pos (by omega)]
theorem wrap32_small {n : Int} (h0 : -30000 ≤ n) (h1 : n ≤ 30000) : IntKind.i32.wrap n = n := by rw [IntKind.wrap_i32]; omega
theorem wrap16_small {n : Int} (h0 : -30000 ≤ n) (h1 : n ≤ 30000) : IntKind.i16.wrap n = n := by rw [wrap_i16]; omega
set_option maxHeartbeats 4000000 in
theorem hop_any (x : Insn) (n : Int) (h0 : -30000 ≤ n) (h1 : n ≤ 30000) (w : World) :
    Calls Try.prog 27 #[x.val, .int .i64 n] w fun e w' => e = .returned (.tuple #[(hopX x n).val, .bool true]) ∧ Below w.heap.size w w' := by
  have hw1 := wrap32_small h0 h1
  have hw2 := wrap16_small h0 h1
  have hlt : n < 32768 := by omega
  by_cases h6 : x.op = 6
  · have HX := Lib.hid (show hopX x n = withImm x n by unfold hopX; rw [if_pos h6])
    have q : (x.op == 6) = true := by simp [h6]
    obtain ⟨x0, x1, x2, x3, x4⟩ := x
    simp only at h6 q
    subst h6
    go_enter Try.func27, Try.ntmps27
    go_wp2_with fail
    refine bodyPost_ret (v := .tuple #[(withImm ⟨6, x1, x2, x3, x4⟩ n).val, .bool true]) (by simp [results, Try.results27, go_sem, withImm]) rfl ⟨by rw [HX.out], ?_⟩
    exact ((Below.refl _ _).alloc (Nat.le_refl _) _).alloc (by simp) _
  · have HX := Lib.hid (show hopX x n = ⟨x.op, x.dst, x.src, n, x.imm⟩ by unfold hopX; rw [if_neg h6])
    have q : (x.op == 6) = false := by simp [h6]
    obtain ⟨x0, x1, x2, x3, x4⟩ := x
    simp only at h6 q
    clear h6
    go_enter Try.func27, Try.ntmps27
    go_wp2_with fail
    refine bodyPost_ret (v := .tuple #[(⟨x0, x1, x2, n, x4⟩ : Insn).val, .bool true]) (by simp [results, Try.results27, go_sem, hlt]) rfl ⟨by rw [HX.out], ?_⟩
    exact ((Below.refl _ _).alloc (Nat.le_refl _) _).alloc (by simp) _
theorem thaw24 {W : World} {g B : Nat} (x : Insn) (hg : g < B) (h : W.heap[g]? = some x.obj) (k : Nat) : ∀ w', Below B W w' → w'.frozen? ⟨g, k, none⟩ = false := by
  intro w' hb
  rw [hb.frozen (p := ⟨g, _, none⟩) hg]
  exact frozen_of_row W g k _ 40 h
/-- What is told of places is in the model's bounds. -/
def EOk (es : List Edit) : Prop := ∀ e ∈ es, e.x.Ok ∧ -9223372036854775808 ≤ e.to ∧ e.to ≤ 9223372036854775807
theorem editM_ok {es : List Edit} (h : EOk es) (i : Nat) : (editM es i).x.Ok ∧ -9223372036854775808 ≤ (editM es i).to ∧ (editM es i).to ≤ 9223372036854775807 := by
  unfold editM
  split
  · rename_i hc
    rw [edAt_get hc.1]
    exact h _ (List.getElem_mem hc.1)
  · exact ⟨Insn.zero_ok, by decide, by decide⟩
theorem becL_ok {l : List Insn} (hl : ∀ x ∈ l, x.Ok) {es : List Edit} (h : EOk es) (i : Nat) : ∀ x ∈ becL l es i, x.Ok := by
  intro x hx
  unfold becL at hx
  split at hx
  · cases hx
  split at hx
  · rw [List.mem_singleton] at hx; rw [hx]; exact (editM_ok h i).1
  split at hx
  · simp only [List.mem_cons, List.not_mem_nil, or_false] at hx
    rcases hx with rfl | rfl <;> exact at_ok hl _
  · rw [List.mem_singleton] at hx; rw [hx]; exact at_ok hl _
theorem hopX_ok {x : Insn} (hx : x.Ok) {n : Int} (h0 : -30000 ≤ n) (h1 : n ≤ 30000) : (hopX x n).Ok := by
  obtain ⟨p1, p2, p3, p4, p5, p6, p7, p8, p9, p10⟩ := hx
  unfold hopX
  split
  · exact ⟨p1, p2, p3, p4, p5, p6, p7, p8, by show -2147483648 ≤ n; omega, by show n ≤ 2147483647; omega⟩
  · exact ⟨p1, p2, p3, p4, p5, p6, by show -32768 ≤ n; omega, by show n ≤ 32767; omega, p9, p10⟩
theorem rwA_ok {l : List Insn} (hl : ∀ x ∈ l, x.Ok) (hn : l.length ≤ 5000) {es : List Edit} (h : EOk es) : ∀ (i : Nat), i ≤ l.length → ∀ {acc : List Insn}, rwA l es i = some acc → ∀ x ∈ acc, x.Ok
  | 0, _, acc, ha => by rw [rwA] at ha; injection ha with ha; rw [← ha]; intro x hx; cases hx
  | i + 1, hi, acc, ha => by
    rw [rwA] at ha
    split at ha
    · cases hr : rwA l es i with
      | none => rw [hr] at ha; cases ha
      | some a =>
        rw [hr] at ha
        have ha : putX l es i a = some acc := ha
        have ih := rwA_ok hl hn h i (by omega) hr
        have hlen := rwA_len i hr
        have hple := plN_le l es i
        have hb := becL_ok hl h i
        unfold putX at ha
        split at ha
        · injection ha with ha; rw [← ha]; exact ih
        · rename_i x r e
          rw [e] at hb
          split at ha
          · split at ha
            · rename_i hc
              injection ha with ha
              rw [← ha]
              have h1 := plN_le l es (becT l es i).toNat
              intro z hz
              simp only [List.mem_append, List.mem_cons] at hz
              rcases hz with hz | hz | hz
              · exact ih z hz
              · rw [hz]; exact hopX_ok (hb x (by simp)) (by omega) (by omega)
              · exact hb z (by simp [hz])
            · cases ha
          · injection ha with ha
            rw [← ha]
            intro z hz
            simp only [List.mem_append, List.mem_cons] at hz
            rcases hz with hz | hz | hz
            · exact ih z hz
            · rw [hz]; exact hb x (by simp)
            · exact hb z (by simp [hz])
    · exact rwA_ok hl hn h i (by omega) ha
/-- A step of the rewrite. -/
theorem rwA_nil {l : List Insn} {es : List Edit} {i : Nat} {acc : List Insn} (hs : SB l i = true) (ha : rwA l es i = some acc) (hb : becL l es i = []) : rwA l es (stepN l i) = some acc := by
  rw [rwA_step hs, ha]; show putX l es i acc = _; unfold putX; rw [hb]
theorem rwA_plain {l : List Insn} {es : List Edit} {i : Nat} {acc r : List Insn} {x : Insn} (hs : SB l i = true) (ha : rwA l es i = some acc) (hb : becL l es i = x :: r) (hg : goesB x = false) : rwA l es (stepN l i) = some (acc ++ [x] ++ r) := by
  rw [rwA_step hs, ha]; show putX l es i acc = _; unfold putX; rw [hb]; simp only; rw [if_neg (by simp [hg])]; simp
theorem rwA_hop {l : List Insn} {es : List Edit} {i t : Nat} {acc r : List Insn} {x : Insn} (hs : SB l i = true) (ha : rwA l es i = some acc) (hb : becL l es i = x :: r) (hg : goesB x = true) (ht : becT l es i = (t : Int)) (hle : t ≤ l.length) : rwA l es (stepN l i) = some (acc ++ [hopX x ((plN l es t : Int) - acc.length - 1)] ++ r) := by
  rw [rwA_step hs, ha]; show putX l es i acc = _; unfold putX; rw [hb]; simp only; rw [if_pos hg, ht, if_pos ⟨by omega, by omega⟩]; simp
theorem rwA_far {l : List Insn} {es : List Edit} {i : Nat} {acc r : List Insn} {x : Insn} (hi : i < l.length) (hs : SB l i = true) (ha : rwA l es i = some acc) (hb : becL l es i = x :: r) (hg : goesB x = true) (ht : ¬ (0 ≤ becT l es i ∧ becT l es i ≤ l.length)) : rwM l es = ([], false) := by
  have h1 : rwA l es (i + 1) = none := by
    rw [rwA, if_pos hs, ha]; show putX l es i acc = _; unfold putX; rw [hb]; simp only; rw [if_pos hg, if_neg ht]
  have h2 := rwA_none h1 (l.length - (i + 1))
  rw [show i + 1 + (l.length - (i + 1)) = l.length by omega] at h2
  unfold rwM
  split
  · rfl
  · rw [h2]
theorem rwM_end {l : List Insn} {es : List Edit} {out : List Insn} (hz : (checkM l).2 = 0) (h : rwA l es l.length = some out) : rwM l es = if (checkM out).2 = 0 then (out, true) else ([], false) := by
  unfold rwM; rw [if_neg (by simp [hz]), h]
theorem insnsV_single (x : Insn) : insnsV [x] = x.cells := by simp [insnsV]
end Go.Proofs.Ytncogaikiceidaa
end
