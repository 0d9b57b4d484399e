/- Where one comes by jumps alone, and what becomes of instructions, by the program and by the reference. No statement is proved here. -/
import Derived.Test.YtgbmeckhagklnaaHopE
import Derived.Test.YtgbmeckhagklnaaRLists
namespace Go.Proofs.Ytgbmeckhagklnaa
open Go.RowKit
set_option linter.unusedSimpArgs false
set_option linter.unusedVariables false
set_option linter.unnecessarySimpa false
theorem below_on {B : Nat} {W w w' : World} (h : Below B W w) (hn : B ≤ W.heap.size) (hb : Below w.heap.size w w') : Below B W w' := h.trans (hb.mono (Nat.le_trans hn h.size))
set_option maxRecDepth 100000 in
theorem kind_any (l : List Insn) (hl : ∀ x ∈ l, x.Ok) (A : Option Addr) (c : Nat) (hn : l.length ≤ 100000) (i : Nat) (hi : i < l.length) (w : World) (h : SAt w w.heap.size 5 A l.length (insnsV l)) :
    Calls Try.prog 77 #[.slice A l.length c, .int .i64 i] w fun e w' => e = .returned (.int .u8 (kindM l i)) ∧ Below w.heap.size w w' := by
  obtain ⟨b, o, rfl, hb, c0, c1, c2, c3, c4⟩ := h.insn hi
  have hsem := fun w => sem_any (at' l i) (at_ok hl i) w
  have HK := Lib.hid (show kindM l i = (sem (at' l i)).1.kind from rfl)
  have hB := Below.refl w.heap.size w
  go_enter Try.func77, Try.ntmps77
  go_wp2_with fail
  refine (hsem _).mono ?_
  rintro e w1 ⟨rfl, hb1⟩
  clear hsem
  generalize sem (at' l i) = r at *
  obtain ⟨⟨r0, r1, r2, r3, r4, r5⟩, rb⟩ := r
  simp only at *
  go_wp2_with fail
  go_ret
  exact ⟨by rw [HK.out]; rfl, hb1.alloc hb1.size _⟩
set_option maxRecDepth 100000 in
theorem rkind_any (l : List Insn) (hl : ∀ x ∈ l, x.Ok) (A : Option Addr) (c : Nat) (hn : l.length ≤ 100000) (i : Nat) (hi : i < l.length) (w : World) (h : SAt w w.heap.size 5 A l.length (insnsV l)) :
    Calls Try.prog 76 #[.slice A l.length c, .int .i64 i] w fun e w' => e = .returned (.int .u8 (kindM l i)) ∧ Below w.heap.size w w' := by
  obtain ⟨b, o, rfl, hb, c0, c1, c2, c3, c4⟩ := h.insn hi
  have hsem := fun w => rsem_any (at' l i) (at_ok hl i) w
  have HK := Lib.hid (show kindM l i = (sem (at' l i)).1.kind from rfl)
  have hB := Below.refl w.heap.size w
  go_enter Try.func76, Try.ntmps76
  go_wp2_with fail
  refine (hsem _).mono ?_
  rintro e w1 ⟨rfl, hb1⟩
  clear hsem
  generalize sem (at' l i) = r at *
  obtain ⟨⟨r0, r1, r2, r3, r4, r5⟩, rb⟩ := r
  simp only at *
  go_wp2_with fail
  go_ret
  exact ⟨by rw [HK.out]; rfl, hb1.alloc hb1.size _⟩
set_option maxRecDepth 100000 in
set_option maxHeartbeats 4000000 in
theorem follow_any (l : List Insn) (hl : ∀ x ∈ l, x.Ok) (hp : Prog l) (A : Option Addr) (c : Nat) (hn : l.length ≤ 100000) (i : Nat) (hi : i < l.length) (hs : SB l i = true) (w : World) (h : SAt w w.heap.size 5 A l.length (insnsV l)) :
    Calls Try.prog 75 #[.slice A l.length c, .int .i64 i] w fun e w' => e = .returned (.int .i64 (followM l i)) ∧ Below w.heap.size w w' := by
  have HF : followM l i = hopN l l.length i := rfl
  go_enter Try.func75, Try.ntmps75
  go_wp2_with fail
  go_step3
  go_wp2
  go_step3
  go_wp2_with fail
  go_loopw [7, 1, 11, 12, 14] (fun k a _ _ _ wr => ∃ (j m t : Nat), j + m = l.length ∧ k = .int .i64 j ∧ a = .int .i64 t ∧ t < l.length ∧ SB l t = true ∧ followM l i = hopN l m t ∧ Below w.heap.size w wr) (fun k _ _ _ _ _ => l.length - (intOf k).toNat)
  case atStart => exact ⟨0, l.length, i, by omega, rfl, rfl, hi, hs, HF, Below.refl _ _⟩
  case round =>
    obtain ⟨j, m, t, hj, rfl, rfl, ht, hst, hf, hbw⟩ := hrel
    have Hf := Lib.hid hf
    clear hf HF
    rcases Nat.lt_or_ge j l.length with hlt | hge
    · obtain ⟨m, rfl⟩ : ∃ m', m = m' + 1 := ⟨m - 1, by omega⟩
      have hkd := kind_any l hl A c hn t ht _ ((h.below hbw).more hbw.size)
      go_wp2_with fail
      refine hkd.mono ?_
      rintro e w1 ⟨rfl, hb1⟩
      clear hkd
      have hbw1 := hbw.trans (hb1.mono hbw.size)
      by_cases hk : kindM l t = 9
      · obtain ⟨u, hu, hsu, htg, htu⟩ := hp.goes_at ht hst (.inl hk)
        have hta := target_any l hl A c hn t (by omega) (by omega) _ ((h.below hbw1).more hbw1.size)
        rw [htg] at hta
        simp only at hta
        have Hj := Lib.hid (show hopN l (m + 1) t = hopN l m u by rw [hopN_jump hk, htu])
        have q : (kindM l t == 9) = true := by simp [hk]
        clear htg htu hk
        go_wp2_with fail
        refine hta.mono ?_
        rintro e w2 ⟨rfl, hb2⟩
        clear hta
        have hbw2 := hbw1.trans (hb2.mono hbw1.size)
        go_wp2_with fail
        go_roundw
        case rel => exact ⟨j + 1, m, u, by omega, by go_num, rfl, hu, hsu, Hf.out.trans Hj.out, hbw2⟩
        case measure => simp [intOf]; omega
      · have q : (kindM l t == 9) = false := by simp [hk]
        have Hj := Lib.hid (show hopN l (m + 1) t = t from hop_stays hk _)
        clear hk
        go_wp2_with fail
        simp only [Exit.noGoto]
        go_ret
        exact ⟨by rw [Hf.out, Hj.out]; rfl, hbw1⟩
    · obtain rfl : m = 0 := by omega
      go_wp2_with fail
      simp only [Exit.noGoto]
      go_ret
      exact ⟨by rw [Hf.out, hopN_zero]; rfl, hbw⟩
theorem followI_no {l : List Insn} {i : Int} (h : (checkM l).2 ≠ 0 ∨ i < 0 ∨ (l.length : Int) ≤ i ∨ SB l i.toNat = false) : followI l i = -1 := by unfold followI; rw [if_pos h]
theorem followI_yes {l : List Insn} (hp : (checkM l).2 = 0) {i : Nat} (hi : i < l.length) (hs : SB l i = true) : followI l i = followM l i := by
  unfold followI
  rw [if_neg]
  · rfl
  · rintro (h | h | h | h)
    · exact h hp
    · omega
    · omega
    · rw [Int.toNat_natCast, hs] at h; cases h
set_option maxRecDepth 100000 in
set_option maxHeartbeats 4000000 in
theorem Follow_any (l : List Insn) (hl : ∀ x ∈ l, x.Ok) (A : Option Addr) (c : Nat) (hn : l.length ≤ 100000) (i : Int) (hi0 : -9223372036854775808 ≤ i) (hi1 : i ≤ 9223372036854775807) (w : World) (h : SAt w w.heap.size 5 A l.length (insnsV l)) :
    Calls Try.prog 54 #[.slice A l.length c, .int .i64 i] w fun e w' => e = .returned (.int .i64 (followI l i)) ∧ Below w.heap.size w w' := by
  have hck := check_any l hl A c hn w h
  have hz := check_zero (l := l)
  go_enter Try.func54, Try.ntmps54
  go_wp2_with fail
  refine hck.mono ?_
  rintro e w1 ⟨rfl, hb1⟩
  clear hck
  by_cases he : (checkM l).2 = 0
  · replace hz := hz he
    have hp := check_prog he
    by_cases h0 : i < 0
    · have HF := Lib.hid (followI_no (l := l) (i := i) (.inr (.inl h0)))
      rw [hz]
      clear hz he
      simp only
      go_wp2_with fail
      go_ret
      exact ⟨by rw [HF.out]; rfl, hb1⟩
    by_cases h1 : (l.length : Int) ≤ i
    · have HF := Lib.hid (followI_no (l := l) (i := i) (.inr (.inr (.inl h1))))
      rw [hz]
      clear hz he
      simp only
      go_wp2_with fail
      go_ret
      exact ⟨by rw [HF.out]; rfl, hb1⟩
    obtain ⟨k, rfl⟩ := Int.eq_ofNat_of_zero_le (show 0 ≤ i by omega)
    have hk : k < l.length := by omega
    have hst := starts_any l A c hn w1 ((h.below hb1).more hb1.size)
    rw [hz]
    simp only
    clear hz
    go_wp2_with fail
    refine hst.mono ?_
    rintro e w2 ⟨A', c', rfl, hs2, hb2⟩
    clear hst
    obtain ⟨b', o', rfl, hb', hfl⟩ := hs2.flag (by omega)
    clear hs2
    have hb12 := hb1.trans (hb2.mono hb1.size)
    have hB2 : Below w2.heap.size w2 w2 := Below.refl _ _
    have hcell := hfl k hk _ hB2
    cases hs : SB l k
    · have HF := Lib.hid (followI_no (l := l) (i := (k : Int)) (.inr (.inr (.inr (by rw [Int.toNat_natCast]; exact hs)))))
      rw [hs] at hcell
      clear he
      go_wp2_with fail
      go_ret
      exact ⟨by rw [HF.out]; rfl, hb12⟩
    · have HF := Lib.hid (followI_yes he hk hs)
      have hfo := follow_any l hl hp A c hn k hk hs w2 ((h.below hb12).more hb12.size)
      rw [hs] at hcell
      clear he
      go_wp2_with fail
      refine hfo.mono ?_
      rintro e w3 ⟨rfl, hb3⟩
      clear hfo
      have hb13 := hb12.trans (hb3.mono hb12.size)
      go_wp2_with fail
      go_ret
      exact ⟨by rw [HF.out]; rfl, hb13⟩
  · have HF := Lib.hid (followI_no (l := l) (i := i) (.inl he))
    clear hz
    generalize checkM l = r at *
    obtain ⟨r0, r1⟩ := r
    simp only at he ⊢
    go_wp2_with fail
    go_ret
    exact ⟨by rw [HF.out]; rfl, hb1⟩
set_option maxRecDepth 100000 in
set_option maxHeartbeats 4000000 in
theorem rFollow_any (l : List Insn) (hl : ∀ x ∈ l, x.Ok) (A : Option Addr) (c : Nat) (hn : l.length ≤ 100000) (i : Int) (hi0 : -9223372036854775808 ≤ i) (hi1 : i ≤ 9223372036854775807) (w : World) (h : SAt w w.heap.size 5 A l.length (insnsV l)) :
    Calls Try.prog 55 #[.slice A l.length c, .int .i64 i] w fun e w' => e = .returned (.int .i64 (followI l i)) ∧ Below w.heap.size w w' := by
  have hck := rcheck_any l hl A c hn w h
  have hz := check_zero (l := l)
  go_enter Try.func55, Try.ntmps55
  go_wp2_with fail
  refine hck.mono ?_
  rintro e w1 ⟨rfl, hb1⟩
  clear hck
  by_cases he : (checkM l).2 = 0
  · replace hz := hz he
    have hp := check_prog he
    by_cases h0 : i < 0
    · have HF := Lib.hid (followI_no (l := l) (i := i) (.inr (.inl h0)))
      rw [hz]
      clear hz he
      simp only
      go_wp2_with fail
      go_ret
      exact ⟨by rw [HF.out]; rfl, hb1⟩
    by_cases h1 : (l.length : Int) ≤ i
    · have HF := Lib.hid (followI_no (l := l) (i := i) (.inr (.inr (.inl h1))))
      rw [hz]
      clear hz he
      simp only
      go_wp2_with fail
      go_ret
      exact ⟨by rw [HF.out]; rfl, hb1⟩
    obtain ⟨k, rfl⟩ := Int.eq_ofNat_of_zero_le (show 0 ≤ i by omega)
    have hk : k < l.length := by omega
    have hst := rstarts_any l A c hn w1 ((h.below hb1).more hb1.size)
    rw [hz]
    simp only
    clear hz
    go_wp2_with fail
    refine hst.mono ?_
    rintro e w2 ⟨A', c', rfl, hs2, hb2⟩
    clear hst
    obtain ⟨b', o', rfl, hb', hfl⟩ := hs2.flag (by omega)
    clear hs2
    have hb12 := hb1.trans (hb2.mono hb1.size)
    have hB2 : Below w2.heap.size w2 w2 := Below.refl _ _
    have hcell := hfl k hk _ hB2
    cases hs : SB l k
    · have HF := Lib.hid (followI_no (l := l) (i := (k : Int)) (.inr (.inr (.inr (by rw [Int.toNat_natCast]; exact hs)))))
      rw [hs] at hcell
      clear he
      go_wp2_with fail
      go_ret
      exact ⟨by rw [HF.out]; rfl, hb12⟩
    · have HF := Lib.hid (followI_yes he hk hs)
      have HG : followM l k = hopN l l.length k := rfl
      rw [hs] at hcell
      clear he h0 h1
      go_wp2_with fail
      clear hfl hcell
      go_loopw [7, 1] (fun z a wr => ∃ (j m t : Nat), j + m = l.length ∧ z = .int .i64 j ∧ a = .int .i64 t ∧ t < l.length ∧ SB l t = true ∧ followM l k = hopN l m t ∧ Below w.heap.size w wr) (fun z _ _ => l.length - (intOf z).toNat)
      case atStart => exact ⟨0, l.length, k, by omega, rfl, rfl, hk, hs, HG, hb12⟩
      case round =>
        obtain ⟨j, m, t, hj, rfl, rfl, ht, hst, hf, hbw⟩ := hrel
        have Hf := Lib.hid hf
        clear hf HG
        rcases Nat.lt_or_ge j l.length with hlt | hge
        · obtain ⟨m, rfl⟩ : ∃ m', m = m' + 1 := ⟨m - 1, by omega⟩
          have hkd := rkind_any l hl _ c hn t ht _ ((h.below hbw).more hbw.size)
          go_wp2_with fail
          refine hkd.mono ?_
          rintro e w3 ⟨rfl, hb3⟩
          clear hkd
          have hbw1 := hbw.trans (hb3.mono hbw.size)
          by_cases hkk : kindM l t = 9
          · obtain ⟨u, hu, hsu, htg, htu⟩ := hp.goes_at ht hst (.inl hkk)
            have hta := rtarget_any l hl A c hn t (by omega) (by omega) _ ((h.below hbw1).more hbw1.size)
            rw [htg] at hta
            simp only at hta
            have Hj := Lib.hid (show hopN l (m + 1) t = hopN l m u by rw [hopN_jump hkk, htu])
            have q : (kindM l t == 9) = true := by simp [hkk]
            clear htg htu hkk
            go_wp2_with fail
            refine hta.mono ?_
            rintro e w4 ⟨rfl, hb4⟩
            clear hta
            have hbw2 := hbw1.trans (hb4.mono hbw1.size)
            go_wp2_with fail
            go_roundw
            case rel => exact ⟨j + 1, m, u, by omega, by go_num, rfl, hu, hsu, Hf.out.trans Hj.out, hbw2⟩
            case measure => simp [intOf]; omega
          · have q : (kindM l t == 9) = false := by simp [hkk]
            have Hj := Lib.hid (show hopN l (m + 1) t = t from hop_stays hkk _)
            clear hkk
            go_wp2_with fail
            go_ret
            exact ⟨by rw [HF.out, Hf.out, Hj.out]; rfl, hbw1⟩
        · obtain rfl : m = 0 := by omega
          go_wp2_with fail
          go_ret
          exact ⟨by rw [HF.out, Hf.out, hopN_zero]; rfl, hbw⟩
  · have HF := Lib.hid (followI_no (l := l) (i := i) (.inl he))
    clear hz
    generalize checkM l = r at *
    obtain ⟨r0, r1⟩ := r
    simp only at he ⊢
    go_wp2_with fail
    go_ret
    exact ⟨by rw [HF.out]; rfl, hb1⟩
theorem box71 {W : World} {g B : Nat} (e : Edit) (hg : g < B) (h : W.heap[g]? = some e.obj) :
    (∀ w', Below B W w' → w'.cell? ⟨g, 0, none⟩ = some (.int .u8 e.kind)) ∧ (∀ w', Below B W w' → w'.cell? ⟨g, 1, none⟩ = some (.int .u8 e.x.op)) ∧ (∀ w', Below B W w' → w'.cell? ⟨g, 2, none⟩ = some (.int .u8 e.x.dst)) ∧
    (∀ w', Below B W w' → w'.cell? ⟨g, 3, none⟩ = some (.int .u8 e.x.src)) ∧ (∀ w', Below B W w' → w'.cell? ⟨g, 4, none⟩ = some (.int .i16 e.x.off)) ∧ (∀ w', Below B W w' → w'.cell? ⟨g, 5, none⟩ = some (.int .i32 e.x.imm)) ∧ (∀ w', Below B W w' → w'.cell? ⟨g, 6, none⟩ = some (.int .i64 e.to)) := by
  refine ⟨?_, ?_, ?_, ?_, ?_, ?_, ?_⟩ <;> (intro w' hb; rw [hb.cell (p := ⟨g, _, none⟩) hg, cell_of_row W g _ _ 71 (0, 0) h]; rfl)
theorem thaw71 {W : World} {g B : Nat} (e : Edit) (hg : g < B) (h : W.heap[g]? = some e.obj) (k : Nat) : ∀ w', Below B W w' → w'.frozen? ⟨g, k, none⟩ = false := by
  intro w' hb
  rw [hb.frozen (p := ⟨g, _, none⟩) hg]
  exact frozen_of_row W g k _ 71 h
theorem below_seven {B : Nat} {W w : World} (h : Below B W w) {g : Nat} (hg : B ≤ g) (v0 v1 v2 v3 v4 v5 v6 : Value) :
    Below B W (((((((w.setCell ⟨g, 0, none⟩ v0).setCell ⟨g, 1, none⟩ v1).setCell ⟨g, 2, none⟩ v2).setCell ⟨g, 3, none⟩ v3).setCell ⟨g, 4, none⟩ v4).setCell ⟨g, 5, none⟩ v5).setCell ⟨g, 6, none⟩ v6) :=
  (((((((h.setCell (p := ⟨g, 0, none⟩) hg v0).setCell (p := ⟨g, 1, none⟩) hg v1).setCell (p := ⟨g, 2, none⟩) hg v2).setCell (p := ⟨g, 3, none⟩) hg v3).setCell (p := ⟨g, 4, none⟩) hg v4).setCell (p := ⟨g, 5, none⟩) hg v5).setCell (p := ⟨g, 6, none⟩) hg v6)
set_option maxRecDepth 100000 in
set_option maxHeartbeats 4000000 in
theorem jumpE_any (l : List Insn) (hl : ∀ x ∈ l, x.Ok) (hp : Prog l) (A : Option Addr) (c : Nat) (hn : l.length ≤ 100000) (i t : Nat) (hi : i < l.length) (ht : t < l.length) (hst : SB l t = true) (w : World) (h : SAt w w.heap.size 5 A l.length (insnsV l)) :
    Calls Try.prog 78 #[.slice A l.length c, .int .i64 i, .int .i64 t] w fun e w' => e = .returned (jumpE l i t).val ∧ Below w.heap.size w w' := by
  obtain ⟨hfl, hfs⟩ := hp.follow_in ht hst
  have hB0 : Below w.heap.size w (w.alloc Edit.none.obj) := (Below.refl _ _).alloc (Nat.le_refl _) _
  have hh := heap_alloc_new w Edit.none.obj
  have hfo := follow_any l hl hp A c hn t ht hst _ ((h.below hB0).more hB0.size)
  have hthaw := thaw71 (B := w.heap.size + 1) Edit.none (by omega) hh
  obtain ⟨c0, c1, c2, c3, c4, c5, c6⟩ := box71 (B := w.heap.size + 1) Edit.none (by omega) hh
  simp only [Edit.none, Edit.obj, Insn.zero] at hB0 hh hfo hthaw c0 c1 c2 c3 c4 c5 c6
  have hsz : w.heap.size + 1 = (w.alloc (.cells #[.int .u8 0, .int .u8 0, .int .u8 0, .int .u8 0, .int .i16 0, .int .i32 0, .int .i64 0] 71)).heap.size := by simp
  have HS := Lib.hid hsz
  have HE := Lib.hid (show jumpE l i t = if followM l t = stepN l i then Edit.drop else if kindM l (followM l t) = 12 then ⟨2, ⟨149, 0, 0, 0, 0⟩, 0⟩ else if followM l t ≠ t then ⟨2, ⟨5, 0, 0, 0, 0⟩, followM l t⟩ else Edit.none from rfl)
  have hkd := fun w1 (hb : Below w.heap.size w w1) => kind_any l hl A c hn (followM l t) hfl w1 ((h.below hb).more hb.size)
  clear hsz hh
  go_enter Try.func78, Try.ntmps78
  go_wp2_with fail
  generalize hW : w.alloc (.cells #[.int .u8 0, .int .u8 0, .int .u8 0, .int .u8 0, .int .i16 0, .int .i32 0, .int .i64 0] 71) = W at *
  refine hfo.mono ?_
  rintro e w1 ⟨rfl, hb1⟩
  clear hfo
  have hbw1 := hB0.trans (hb1.mono hB0.size)
  have hB1 : Below (w.heap.size + 1) W w1 := hb1.mono (by rw [HS.out]; exact Nat.le_refl _)
  have hnx := next_at l A c i hn hi w w1 h hbw1
  go_wp2_with fail
  refine hnx.mono ?_
  rintro e w2 ⟨rfl, hb2⟩
  clear hnx
  have hbw2 := hbw1.trans (hb2.mono hbw1.size)
  have hB2 : Below (w.heap.size + 1) W w2 := hB1.trans (hb2.mono (Nat.le_trans (by rw [HS.out]; exact Nat.le_refl _) hB1.size))
  by_cases e1 : followM l t = stepN l i
  · have q : ((followM l t : Int) == (stepN l i : Int)) = true := by simp [e1]
    rw [if_pos e1] at HE
    clear e1 hkd
    replace c0 := c0 _ hB2
    replace c1 := c1 _ hB2
    replace c2 := c2 _ hB2
    replace c3 := c3 _ hB2
    replace c4 := c4 _ hB2
    replace c5 := c5 _ hB2
    replace c6 := c6 _ hB2
    have hf := fun k => hthaw k w2 hB2
    generalize followM l t = fo at *
    generalize stepN l i = st at *
    go_wp2_with fail
    exact bodyPost_ret (v := Edit.val ⟨1, Insn.zero, 0⟩) (by simp [results, Try.results78, go_sem, Edit.val, Insn.zero, *]) rfl ⟨by first | (rw [HE.out]; rfl) | rw [HE.out], below_seven hbw2 (Nat.le_refl _) _ _ _ _ _ _ _⟩
  · have q : ((followM l t : Int) == (stepN l i : Int)) = false := by rw [beq_eq_false_iff_ne]; omega
    rw [if_neg e1] at HE
    clear e1
    have hkd2 := hkd _ hbw2
    clear hkd
    generalize followM l t = fo at *
    generalize stepN l i = st at *
    go_wp2_with fail
    refine hkd2.mono ?_
    rintro e w3 ⟨rfl, hb3⟩
    clear hkd2
    have hbw3 := hbw2.trans (hb3.mono hbw2.size)
    have hB3 : Below (w.heap.size + 1) W w3 := hB2.trans (hb3.mono (Nat.le_trans (by rw [HS.out]; exact Nat.le_refl _) hB2.size))
    replace c0 := c0 _ hB3
    replace c1 := c1 _ hB3
    replace c2 := c2 _ hB3
    replace c3 := c3 _ hB3
    replace c4 := c4 _ hB3
    replace c5 := c5 _ hB3
    replace c6 := c6 _ hB3
    have hf := fun k => hthaw k w3 hB3
    by_cases e2 : kindM l fo = 12
    · have q2 : (kindM l fo == 12) = true := by simp [e2]
      rw [if_pos e2] at HE
      clear e2
      generalize kindM l fo = kd at *
      go_wp2_with fail
      exact bodyPost_ret (v := Edit.val ⟨2, ⟨149, 0, 0, 0, 0⟩, 0⟩) (by simp [results, Try.results78, go_sem, Edit.val, Insn.zero, *]) rfl ⟨by first | (rw [HE.out]; rfl) | rw [HE.out], below_seven hbw3 (Nat.le_refl _) _ _ _ _ _ _ _⟩
    · have q2 : (kindM l fo == 12) = false := by simp [e2]
      rw [if_neg e2] at HE
      clear e2
      generalize kindM l fo = kd at *
      by_cases e3 : fo = t
      · have q3 : ((fo : Int) != (t : Int)) = false := by simp [e3]
        rw [if_neg (by simp [e3])] at HE
        clear e3
        go_wp2_with fail
        exact bodyPost_ret (v := Edit.val ⟨0, Insn.zero, 0⟩) (by simp [results, Try.results78, go_sem, Edit.val, Insn.zero, *]) rfl ⟨by first | (rw [HE.out]; rfl) | rw [HE.out], below_seven hbw3 (Nat.le_refl _) _ _ _ _ _ _ _⟩
      · have q3 : ((fo : Int) != (t : Int)) = true := by simp; omega
        rw [if_pos e3] at HE
        clear e3
        go_wp2_with fail
        exact bodyPost_ret (v := Edit.val ⟨2, ⟨5, 0, 0, 0, 0⟩, fo⟩) (by simp [results, Try.results78, go_sem, Edit.val, Insn.zero, *]) rfl ⟨by first | (rw [HE.out]; rfl) | rw [HE.out], below_seven hbw3 (Nat.le_refl _) _ _ _ _ _ _ _⟩
set_option maxRecDepth 100000 in
set_option maxHeartbeats 4000000 in
theorem branchE_any (l : List Insn) (hl : ∀ x ∈ l, x.Ok) (hp : Prog l) (A : Option Addr) (c : Nat) (hn : l.length ≤ 100000) (i t : Nat) (hi : i < l.length) (hs : SB l i = true) (hk : kindM l i = 10) (ht : t < l.length) (hst : SB l t = true) (w : World) (h : SAt w w.heap.size 5 A l.length (insnsV l)) :
    Calls Try.prog 79 #[.slice A l.length c, .int .i64 i, .int .i64 t] w fun e w' => e = .returned (branchE l i t).val ∧ Below w.heap.size w w' := by
  obtain ⟨hsl, hss⟩ := hp.next hi hs (by unfold kindM at hk; omega) (by unfold kindM at hk; omega)
  obtain ⟨b, o, rfl, hb, d0, d1, d2, d3, d4⟩ := h.insn hi
  have hB0 : Below w.heap.size w (w.alloc Edit.none.obj) := (Below.refl _ _).alloc (Nat.le_refl _) _
  have hh := heap_alloc_new w Edit.none.obj
  have hthaw := thaw71 (B := w.heap.size + 1) Edit.none (by omega) hh
  obtain ⟨c0, c1, c2, c3, c4, c5, c6⟩ := box71 (B := w.heap.size + 1) Edit.none (by omega) hh
  simp only [Edit.none, Edit.obj, Insn.zero] at hB0 hh hthaw c0 c1 c2 c3 c4 c5 c6
  have hsz : w.heap.size + 1 = (w.alloc (.cells #[.int .u8 0, .int .u8 0, .int .u8 0, .int .u8 0, .int .i16 0, .int .i32 0, .int .i64 0] 71)).heap.size := by simp
  have HS := Lib.hid hsz
  clear hsz hh
  have HE := Lib.hid (show branchE l i t = if followM l t = followM l (stepN l i) then Edit.drop else if followM l t ≠ t then ⟨2, at' l i, followM l t⟩ else Edit.none from rfl)
  have hfo := fun w1 (hb : Below w.heap.size w w1) => follow_any l hl hp (some ⟨b, o, none⟩) c hn t ht hst w1 ((h.below hb).more hb.size)
  have hfs := fun w1 (hb : Below w.heap.size w w1) => follow_any l hl hp (some ⟨b, o, none⟩) c hn (stepN l i) hsl hss w1 ((h.below hb).more hb.size)
  have hnx := fun w1 (hb : Below w.heap.size w w1) => next_at l (some ⟨b, o, none⟩) c i hn hi w w1 h hb
  clear hk hsl hss
  generalize at' l i = x at *
  obtain ⟨x0, x1, x2, x3, x4⟩ := x
  simp only at d0 d1 d2 d3 d4
  go_enter Try.func79, Try.ntmps79
  go_wp2_with fail
  generalize hW : w.alloc (.cells #[.int .u8 0, .int .u8 0, .int .u8 0, .int .u8 0, .int .i16 0, .int .i32 0, .int .i64 0] 71) = W at *
  replace hfo := hfo _ hB0
  refine hfo.mono ?_
  rintro e w1 ⟨rfl, hb1⟩
  have hbw1 := hB0.trans (hb1.mono hB0.size)
  have hB1 : Below (w.heap.size + 1) W w1 := hb1.mono (by rw [HS.out]; exact Nat.le_refl _)
  clear hfo
  replace hnx := hnx _ hbw1
  go_wp2_with fail
  refine hnx.mono ?_
  rintro e w2 ⟨rfl, hb2⟩
  have hbw2 := hbw1.trans (hb2.mono hbw1.size)
  have hB2 : Below (w.heap.size + 1) W w2 := hB1.trans (hb2.mono (Nat.le_trans (by rw [HS.out]; exact Nat.le_refl _) hB1.size))
  clear hnx
  replace hfs := hfs _ hbw2
  generalize followM l t = fo at *
  go_wp2_with fail
  refine hfs.mono ?_
  rintro e w3 ⟨rfl, hb3⟩
  have hbw3 := hbw2.trans (hb3.mono hbw2.size)
  have hB3 : Below (w.heap.size + 1) W w3 := hB2.trans (hb3.mono (Nat.le_trans (by rw [HS.out]; exact Nat.le_refl _) hB2.size))
  clear hfs
  generalize followM l (stepN l i) = fs at *
  generalize stepN l i = sn at *
  replace c0 := c0 _ hB3
  replace c1 := c1 _ hB3
  replace c2 := c2 _ hB3
  replace c3 := c3 _ hB3
  replace c4 := c4 _ hB3
  replace c5 := c5 _ hB3
  replace c6 := c6 _ hB3
  have hf := fun k => hthaw k w3 hB3
  replace d0 := d0 _ hbw3
  replace d1 := d1 _ hbw3
  replace d2 := d2 _ hbw3
  replace d3 := d3 _ hbw3
  replace d4 := d4 _ hbw3
  by_cases e1 : fo = fs
  · have q : ((fo : Int) == (fs : Int)) = true := by simp [e1]
    rw [if_pos e1] at HE
    clear e1
    go_wp2_with fail
    exact bodyPost_ret (v := Edit.val ⟨1, Insn.zero, 0⟩) (by simp [results, Try.results79, go_sem, Edit.val, Insn.zero, *]) rfl ⟨by first | (rw [HE.out]; rfl) | rw [HE.out], below_seven hbw3 (Nat.le_refl _) _ _ _ _ _ _ _⟩
  · have q : ((fo : Int) == (fs : Int)) = false := by rw [beq_eq_false_iff_ne]; omega
    rw [if_neg e1] at HE
    clear e1
    by_cases e3 : fo = t
    · have q3 : ((fo : Int) != (t : Int)) = false := by simp [e3]
      rw [if_neg (by simp [e3])] at HE
      clear e3
      go_wp2_with fail
      exact bodyPost_ret (v := Edit.val ⟨0, Insn.zero, 0⟩) (by simp [results, Try.results79, go_sem, Edit.val, Insn.zero, *]) rfl ⟨by first | (rw [HE.out]; rfl) | rw [HE.out], below_seven hbw3 (Nat.le_refl _) _ _ _ _ _ _ _⟩
    · have q3 : ((fo : Int) != (t : Int)) = true := by simp; omega
      rw [if_pos e3] at HE
      clear e3
      go_wp2_with fail
      exact bodyPost_ret (v := Edit.val ⟨2, ⟨x0, x1, x2, x3, x4⟩, fo⟩) (by simp [results, Try.results79, go_sem, Edit.val, Insn.zero, *]) rfl ⟨by first | (rw [HE.out]; rfl) | rw [HE.out], below_seven hbw3 (Nat.le_refl _) _ _ _ _ _ _ _⟩
set_option maxRecDepth 100000 in
set_option maxHeartbeats 4000000 in
theorem redit_branch (l : List Insn) (hl : ∀ x ∈ l, x.Ok) (hz : (checkM l).2 = 0) (hp : Prog l) (A : Option Addr) (c : Nat) (hn : l.length ≤ 100000) (i : Nat) (hi : i < l.length) (hs : SB l i = true) (hk : kindM l i = 10) (w : World) (h : SAt w w.heap.size 5 A l.length (insnsV l)) :
    Calls Try.prog 80 #[.slice A l.length c, .int .i64 i] w fun e w' => e = .returned (branchE l i (targetM l i).1.toNat).val ∧ Below w.heap.size w w' := by
  obtain ⟨t, ht, hst, htg, htn⟩ := hp.goes_at hi hs (.inr hk)
  rw [htn]
  obtain ⟨b, o, rfl, hb, d0, d1, d2, d3, d4⟩ := h.insn hi
  obtain ⟨hsl, hss⟩ := hp.next hi hs (by unfold kindM at hk; omega) (by unfold kindM at hk; omega)
  have hB0 : Below w.heap.size w (w.alloc Edit.none.obj) := (Below.refl _ _).alloc (Nat.le_refl _) _
  have hh := heap_alloc_new w Edit.none.obj
  have hthaw := thaw71 (B := w.heap.size + 1) Edit.none (by omega) hh
  obtain ⟨c0, c1, c2, c3, c4, c5, c6⟩ := box71 (B := w.heap.size + 1) Edit.none (by omega) hh
  simp only [Edit.none, Edit.obj, Insn.zero] at hB0 hh hthaw c0 c1 c2 c3 c4 c5 c6
  have hsz : w.heap.size + 1 = (w.alloc (.cells #[.int .u8 0, .int .u8 0, .int .u8 0, .int .u8 0, .int .i16 0, .int .i32 0, .int .i64 0] 71)).heap.size := by simp
  have HS := Lib.hid hsz
  clear hsz hh
  have HE := Lib.hid (show branchE l i t = if followM l t = followM l (stepN l i) then Edit.drop else if followM l t ≠ t then ⟨2, at' l i, followM l t⟩ else Edit.none from rfl)
  have hta := fun w1 (hb : Below w.heap.size w w1) => rtarget_any l hl (some ⟨b, o, none⟩) c hn i (by omega) (by omega) w1 ((h.below hb).more hb.size)
  rw [htg] at hta
  simp only at hta
  have hfo := fun w1 (hb : Below w.heap.size w w1) => rFollow_any l hl (some ⟨b, o, none⟩) c hn t (by omega) (by omega) w1 ((h.below hb).more hb.size)
  rw [followI_yes hz ht hst] at hfo
  have hnx := fun w1 (hb : Below w.heap.size w w1) => rnext_at l (some ⟨b, o, none⟩) c i hn hi w w1 h hb
  have hki := fun w1 (hb : Below w.heap.size w w1) => rkind_any l hl (some ⟨b, o, none⟩) c hn i hi w1 ((h.below hb).more hb.size)
  rw [hk] at hki
  have hfs := fun w1 (hb : Below w.heap.size w w1) => rFollow_any l hl (some ⟨b, o, none⟩) c hn (stepN l i) (by omega) (by omega) w1 ((h.below hb).more hb.size)
  rw [followI_yes hz hsl hss] at hfs
  clear hsl hss
  clear hk hz htg htn
  generalize at' l i = x at *
  obtain ⟨x0, x1, x2, x3, x4⟩ := x
  simp only at d0 d1 d2 d3 d4
  go_enter Try.func80, Try.ntmps80
  go_wp2_with fail
  generalize hW : w.alloc (.cells #[.int .u8 0, .int .u8 0, .int .u8 0, .int .u8 0, .int .i16 0, .int .i32 0, .int .i64 0] 71) = W at *
  replace hta := hta _ hB0
  refine hta.mono ?_
  rintro e w1 ⟨rfl, hb1⟩
  have hbw1 := hB0.trans (hb1.mono hB0.size)
  have hB1 : Below (w.heap.size + 1) W w1 := hb1.mono (by rw [HS.out]; exact Nat.le_refl _)
  clear hta
  replace hfo := hfo _ hbw1
  go_wp2_with fail
  refine hfo.mono ?_
  rintro e w2 ⟨rfl, hb2⟩
  have hbw2 := hbw1.trans (hb2.mono hbw1.size)
  have hB2 : Below (w.heap.size + 1) W w2 := hB1.trans (hb2.mono (Nat.le_trans (by rw [HS.out]; exact Nat.le_refl _) hB1.size))
  clear hfo
  replace hnx := hnx _ hbw2
  generalize followM l t = fo at *
  go_wp2_with fail
  refine hnx.mono ?_
  rintro e w3 ⟨rfl, hb3⟩
  have hbw3 := hbw2.trans (hb3.mono hbw2.size)
  have hB3 : Below (w.heap.size + 1) W w3 := hB2.trans (hb3.mono (Nat.le_trans (by rw [HS.out]; exact Nat.le_refl _) hB2.size))
  clear hnx
  replace hki := hki _ hbw3
  generalize followM l (stepN l i) = fs at *
  generalize stepN l i = sn at *
  go_wp2_with fail
  refine hki.mono ?_
  rintro e w4 ⟨rfl, hb4⟩
  have hbw4 := hbw3.trans (hb4.mono hbw3.size)
  have hB4 : Below (w.heap.size + 1) W w4 := hB3.trans (hb4.mono (Nat.le_trans (by rw [HS.out]; exact Nat.le_refl _) hB3.size))
  clear hki
  replace hfs := hfs _ hbw4
  go_wp2_with fail
  refine hfs.mono ?_
  rintro e w5 ⟨rfl, hb5⟩
  have hbw5 := hbw4.trans (hb5.mono hbw4.size)
  have hB5 : Below (w.heap.size + 1) W w5 := hB4.trans (hb5.mono (Nat.le_trans (by rw [HS.out]; exact Nat.le_refl _) hB4.size))
  clear hfs
  replace c0 := c0 _ hB5
  replace c1 := c1 _ hB5
  replace c2 := c2 _ hB5
  replace c3 := c3 _ hB5
  replace c4 := c4 _ hB5
  replace c5 := c5 _ hB5
  replace c6 := c6 _ hB5
  have hf := fun k => hthaw k w5 hB5
  replace d0 := d0 _ hbw5
  replace d1 := d1 _ hbw5
  replace d2 := d2 _ hbw5
  replace d3 := d3 _ hbw5
  replace d4 := d4 _ hbw5
  by_cases e1 : fo = fs
  · have q : ((fo : Int) == (fs : Int)) = true := by simp [e1]
    rw [if_pos e1] at HE
    clear e1
    go_wp2_with fail
    exact bodyPost_ret (v := Edit.val ⟨1, Insn.zero, 0⟩) (by simp [results, Try.results80, go_sem, Edit.val, Insn.zero, *]) rfl ⟨by first | (rw [HE.out]; rfl) | rw [HE.out], below_seven hbw5 (Nat.le_refl _) _ _ _ _ _ _ _⟩
  · have q : ((fo : Int) == (fs : Int)) = false := by rw [beq_eq_false_iff_ne]; omega
    rw [if_neg e1] at HE
    clear e1
    by_cases e3 : fo = t
    · have q3 : ((fo : Int) != (t : Int)) = false := by simp [e3]
      rw [if_neg (by simp [e3])] at HE
      clear e3
      go_wp2_with fail
      exact bodyPost_ret (v := Edit.val ⟨0, Insn.zero, 0⟩) (by simp [results, Try.results80, go_sem, Edit.val, Insn.zero, *]) rfl ⟨by first | (rw [HE.out]; rfl) | rw [HE.out], below_seven hbw5 (Nat.le_refl _) _ _ _ _ _ _ _⟩
    · have q3 : ((fo : Int) != (t : Int)) = true := by simp; omega
      rw [if_pos e3] at HE
      clear e3
      go_wp2_with fail
      exact bodyPost_ret (v := Edit.val ⟨2, ⟨x0, x1, x2, x3, x4⟩, fo⟩) (by simp [results, Try.results80, go_sem, Edit.val, Insn.zero, *]) rfl ⟨by first | (rw [HE.out]; rfl) | rw [HE.out], below_seven hbw5 (Nat.le_refl _) _ _ _ _ _ _ _⟩
set_option maxRecDepth 100000 in
set_option maxHeartbeats 4000000 in
theorem redit_jump (l : List Insn) (hl : ∀ x ∈ l, x.Ok) (hz : (checkM l).2 = 0) (hp : Prog l) (A : Option Addr) (c : Nat) (hn : l.length ≤ 100000) (i : Nat) (hi : i < l.length) (hs : SB l i = true) (hk : kindM l i = 9) (w : World) (h : SAt w w.heap.size 5 A l.length (insnsV l)) :
    Calls Try.prog 80 #[.slice A l.length c, .int .i64 i] w fun e w' => e = .returned (jumpE l i (targetM l i).1.toNat).val ∧ Below w.heap.size w w' := by
  obtain ⟨t, ht, hst, htg, htn⟩ := hp.goes_at hi hs (.inl hk)
  rw [htn]
  obtain ⟨b, o, rfl, hb, d0, d1, d2, d3, d4⟩ := h.insn hi
  obtain ⟨hfl, hfs⟩ := hp.follow_in ht hst
  have hB0 : Below w.heap.size w (w.alloc Edit.none.obj) := (Below.refl _ _).alloc (Nat.le_refl _) _
  have hh := heap_alloc_new w Edit.none.obj
  have hthaw := thaw71 (B := w.heap.size + 1) Edit.none (by omega) hh
  obtain ⟨c0, c1, c2, c3, c4, c5, c6⟩ := box71 (B := w.heap.size + 1) Edit.none (by omega) hh
  simp only [Edit.none, Edit.obj, Insn.zero] at hB0 hh hthaw c0 c1 c2 c3 c4 c5 c6
  have hsz : w.heap.size + 1 = (w.alloc (.cells #[.int .u8 0, .int .u8 0, .int .u8 0, .int .u8 0, .int .i16 0, .int .i32 0, .int .i64 0] 71)).heap.size := by simp
  have HS := Lib.hid hsz
  clear hsz hh
  have HE := Lib.hid (show jumpE l i t = if followM l t = stepN l i then Edit.drop else if kindM l (followM l t) = 12 then ⟨2, ⟨149, 0, 0, 0, 0⟩, 0⟩ else if followM l t ≠ t then ⟨2, ⟨5, 0, 0, 0, 0⟩, followM l t⟩ else Edit.none from rfl)
  have hta := fun w1 (hb : Below w.heap.size w w1) => rtarget_any l hl (some ⟨b, o, none⟩) c hn i (by omega) (by omega) w1 ((h.below hb).more hb.size)
  rw [htg] at hta
  simp only at hta
  have hfo := fun w1 (hb : Below w.heap.size w w1) => rFollow_any l hl (some ⟨b, o, none⟩) c hn t (by omega) (by omega) w1 ((h.below hb).more hb.size)
  rw [followI_yes hz ht hst] at hfo
  have hnx := fun w1 (hb : Below w.heap.size w w1) => rnext_at l (some ⟨b, o, none⟩) c i hn hi w w1 h hb
  have hki := fun w1 (hb : Below w.heap.size w w1) => rkind_any l hl (some ⟨b, o, none⟩) c hn i hi w1 ((h.below hb).more hb.size)
  rw [hk] at hki
  have hkf := fun w1 (hb : Below w.heap.size w w1) => rkind_any l hl (some ⟨b, o, none⟩) c hn (followM l t) hfl w1 ((h.below hb).more hb.size)
  clear hfl hfs
  clear hk hz htg htn
  generalize at' l i = x at *
  obtain ⟨x0, x1, x2, x3, x4⟩ := x
  simp only at d0 d1 d2 d3 d4
  go_enter Try.func80, Try.ntmps80
  go_wp2_with fail
  generalize hW : w.alloc (.cells #[.int .u8 0, .int .u8 0, .int .u8 0, .int .u8 0, .int .i16 0, .int .i32 0, .int .i64 0] 71) = W at *
  replace hta := hta _ hB0
  refine hta.mono ?_
  rintro e w1 ⟨rfl, hb1⟩
  have hbw1 := hB0.trans (hb1.mono hB0.size)
  have hB1 : Below (w.heap.size + 1) W w1 := hb1.mono (by rw [HS.out]; exact Nat.le_refl _)
  clear hta
  replace hfo := hfo _ hbw1
  go_wp2_with fail
  refine hfo.mono ?_
  rintro e w2 ⟨rfl, hb2⟩
  have hbw2 := hbw1.trans (hb2.mono hbw1.size)
  have hB2 : Below (w.heap.size + 1) W w2 := hB1.trans (hb2.mono (Nat.le_trans (by rw [HS.out]; exact Nat.le_refl _) hB1.size))
  clear hfo
  replace hnx := hnx _ hbw2
  generalize followM l t = fo at *
  go_wp2_with fail
  refine hnx.mono ?_
  rintro e w3 ⟨rfl, hb3⟩
  have hbw3 := hbw2.trans (hb3.mono hbw2.size)
  have hB3 : Below (w.heap.size + 1) W w3 := hB2.trans (hb3.mono (Nat.le_trans (by rw [HS.out]; exact Nat.le_refl _) hB2.size))
  clear hnx
  replace hki := hki _ hbw3
  generalize stepN l i = sn at *
  go_wp2_with fail
  refine hki.mono ?_
  rintro e w4 ⟨rfl, hb4⟩
  have hbw4 := hbw3.trans (hb4.mono hbw3.size)
  have hB4 : Below (w.heap.size + 1) W w4 := hB3.trans (hb4.mono (Nat.le_trans (by rw [HS.out]; exact Nat.le_refl _) hB3.size))
  clear hki
  by_cases e1 : fo = sn
  · have q : ((fo : Int) == (sn : Int)) = true := by simp [e1]
    rw [if_pos e1] at HE
    clear e1 hkf
    replace c0 := c0 _ hB4
    replace c1 := c1 _ hB4
    replace c2 := c2 _ hB4
    replace c3 := c3 _ hB4
    replace c4 := c4 _ hB4
    replace c5 := c5 _ hB4
    replace c6 := c6 _ hB4
    have hf := fun k => hthaw k w4 hB4
    go_wp2_with fail
    exact bodyPost_ret (v := Edit.val ⟨1, Insn.zero, 0⟩) (by simp [results, Try.results80, go_sem, Edit.val, Insn.zero, *]) rfl ⟨by first | (rw [HE.out]; rfl) | rw [HE.out], below_seven hbw4 (Nat.le_refl _) _ _ _ _ _ _ _⟩
  · have q : ((fo : Int) == (sn : Int)) = false := by rw [beq_eq_false_iff_ne]; omega
    rw [if_neg e1] at HE
    clear e1
    replace hkf := hkf _ hbw4
    generalize kindM l fo = kd at *
    go_wp2_with fail
    refine hkf.mono ?_
    rintro e w5 ⟨rfl, hb5⟩
    have hbw5 := hbw4.trans (hb5.mono hbw4.size)
    have hB5 : Below (w.heap.size + 1) W w5 := hB4.trans (hb5.mono (Nat.le_trans (by rw [HS.out]; exact Nat.le_refl _) hB4.size))
    clear hkf
    replace c0 := c0 _ hB5
    replace c1 := c1 _ hB5
    replace c2 := c2 _ hB5
    replace c3 := c3 _ hB5
    replace c4 := c4 _ hB5
    replace c5 := c5 _ hB5
    replace c6 := c6 _ hB5
    have hf := fun k => hthaw k w5 hB5
    by_cases e2 : kd = 12
    · have q2 : (kd == 12) = true := by simp [e2]
      rw [if_pos e2] at HE
      clear e2
      go_wp2_with fail
      exact bodyPost_ret (v := Edit.val ⟨2, ⟨149, 0, 0, 0, 0⟩, 0⟩) (by simp [results, Try.results80, go_sem, Edit.val, Insn.zero, *]) rfl ⟨by first | (rw [HE.out]; rfl) | rw [HE.out], below_seven hbw5 (Nat.le_refl _) _ _ _ _ _ _ _⟩
    · have q2 : (kd == 12) = false := by simp [e2]
      rw [if_neg e2] at HE
      clear e2
      by_cases e3 : fo = t
      · have q3 : ((fo : Int) != (t : Int)) = false := by simp [e3]
        rw [if_neg (by simp [e3])] at HE
        clear e3
        go_wp2_with fail
        exact bodyPost_ret (v := Edit.val ⟨0, Insn.zero, 0⟩) (by simp [results, Try.results80, go_sem, Edit.val, Insn.zero, *]) rfl ⟨by first | (rw [HE.out]; rfl) | rw [HE.out], below_seven hbw5 (Nat.le_refl _) _ _ _ _ _ _ _⟩
      · have q3 : ((fo : Int) != (t : Int)) = true := by simp; omega
        rw [if_pos e3] at HE
        clear e3
        go_wp2_with fail
        exact bodyPost_ret (v := Edit.val ⟨2, ⟨5, 0, 0, 0, 0⟩, fo⟩) (by simp [results, Try.results80, go_sem, Edit.val, Insn.zero, *]) rfl ⟨by first | (rw [HE.out]; rfl) | rw [HE.out], below_seven hbw5 (Nat.le_refl _) _ _ _ _ _ _ _⟩
set_option maxRecDepth 100000 in
theorem starts_new (l : List Insn) (A : Option Addr) (c : Nat) (hn : l.length ≤ 100000) (w : World) (h : SAt w w.heap.size 5 A l.length (insnsV l)) : Calls Try.prog 42 #[.slice A l.length c] w fun e w' => e = .returned (.slice (some ⟨w.heap.size, 0, none⟩) l.length l.length) ∧ w'.ownsRow w.heap.size 4 1 (.slice (some ⟨w.heap.size, 0, none⟩) l.length l.length) l.length (boolsV (startsL l)) ∧ w.heap.size < w'.heap.size ∧ Below w.heap.size w w' := by
  have hmk := run_make_row' (P := Try.prog) 52 4 (.bool false) 1 Try.underlying52 info4 rfl .i64 .i64 l.length (by omega) (by omega)
  have hown0 := own_new w w.heap.size (madeCells #[.bool false] l.length) 4 1 l.length l.length w.heap.size rfl (Nat.le_refl _) (Nat.le_refl _) (by simp only [maxLen]; omega) (by simp [madeCells])
  have hm0 : ((madeCells #[Value.bool false] l.length).toList.take (l.length * 1)) = marks l 0 := by
    rw [toList_madeCells_one, Nat.mul_one, List.take_of_length_le (by simp)]
    apply List.ext_getElem?
    intro k
    rcases Nat.lt_or_ge k l.length with hk | hk
    · rw [marks_get hk, List.getElem?_replicate, if_pos hk]
      simp
    · rw [List.getElem?_eq_none (by simpa using hk), List.getElem?_eq_none (by rw [marks_length]; exact hk)]
  rw [hm0] at hown0
  have hb0 : Below w.heap.size w (w.alloc (.cells (madeCells #[.bool false] l.length) 4)) := (Below.refl _ _).alloc (Nat.le_refl _) _
  go_enter Try.func42, Try.ntmps42
  go_wp2_with fail
  generalize madeCells #[Value.bool false] l.length = mc at *
  go_loopw [4] (fun k wr => ∃ j : Nat, SB l j = true ∧ j ≤ l.length + 1 ∧ k = .int .i64 j ∧ wr.ownsRow w.heap.size 4 1 (.slice (some ⟨w.heap.size, 0, none⟩) l.length l.length) l.length (marks l j) ∧ w.heap.size < wr.heap.size ∧ Below w.heap.size w wr) (fun k _ => l.length + 2 - (intOf k).toNat)
  case atStart => exact ⟨0, rfl, by omega, rfl, hown0, by simp, hb0⟩
  case round =>
    obtain ⟨j, hs, hj, rfl, hown, hsz, hb⟩ := hrel
    rcases Nat.lt_or_ge j l.length with hlt | hge
    · have hc := hown.cellAt j (by omega)
      rw [marks_get hlt] at hc
      have hf := hown.frozenAt j
      obtain ⟨hst, -⟩ := hown.stored j (.bool true)
      rw [marks_set hlt hs] at hst
      have hb2 : Below w.heap.size w (wr.setCell ⟨w.heap.size, j, none⟩ (.bool true)) := hb.setCell (Nat.le_refl _) _
      have hnx := next_at l A c j hn hlt w _ h hb2
      have hgt := step_gt l j
      have hle := step_le l j
      clear hown hmk hown0
      go_wp2_with fail
      refine hnx.mono ?_
      rintro e w2 ⟨rfl, hb3⟩
      go_wp2_with fail
      go_roundw
      case rel => exact ⟨stepN l j, SB_step hs, by omega, rfl, own_below hst hb3 (by simpa using hsz), Nat.lt_of_lt_of_le hsz (by simpa using hb3.size), hb2.trans (hb3.mono (by simpa using Nat.le_of_lt hsz))⟩
      case measure => simp [intOf]; omega
    · go_wp2_with fail
      go_ret
      refine ⟨rfl, ?_, hsz, hb⟩
      rw [← marks_all hge]
      exact hown
set_option maxRecDepth 100000 in
theorem rstarts_new (l : List Insn) (A : Option Addr) (c : Nat) (hn : l.length ≤ 100000) (w : World) (h : SAt w w.heap.size 5 A l.length (insnsV l)) : Calls Try.prog 45 #[.slice A l.length c] w fun e w' => e = .returned (.slice (some ⟨w.heap.size, 0, none⟩) l.length l.length) ∧ w'.ownsRow w.heap.size 4 1 (.slice (some ⟨w.heap.size, 0, none⟩) l.length l.length) l.length (boolsV (startsL l)) ∧ w.heap.size < w'.heap.size ∧ Below w.heap.size w w' := by
  have hmk := run_make_row' (P := Try.prog) 52 4 (.bool false) 1 Try.underlying52 info4 rfl .i64 .i64 l.length (by omega) (by omega)
  have hown0 := own_new w w.heap.size (madeCells #[.bool false] l.length) 4 1 l.length l.length w.heap.size rfl (Nat.le_refl _) (Nat.le_refl _) (by simp only [maxLen]; omega) (by simp [madeCells])
  have hm0 : ((madeCells #[Value.bool false] l.length).toList.take (l.length * 1)) = marks l 0 := by
    rw [toList_madeCells_one, Nat.mul_one, List.take_of_length_le (by simp)]
    apply List.ext_getElem?
    intro k
    rcases Nat.lt_or_ge k l.length with hk | hk
    · rw [marks_get hk, List.getElem?_replicate, if_pos hk]
      simp
    · rw [List.getElem?_eq_none (by simpa using hk), List.getElem?_eq_none (by rw [marks_length]; exact hk)]
  rw [hm0] at hown0
  have hb0 : Below w.heap.size w (w.alloc (.cells (madeCells #[.bool false] l.length) 4)) := (Below.refl _ _).alloc (Nat.le_refl _) _
  go_enter Try.func45, Try.ntmps45
  go_wp2_with fail
  generalize madeCells #[Value.bool false] l.length = mc at *
  go_loopw [4] (fun k wr => ∃ j : Nat, SB l j = true ∧ j ≤ l.length + 1 ∧ k = .int .i64 j ∧ wr.ownsRow w.heap.size 4 1 (.slice (some ⟨w.heap.size, 0, none⟩) l.length l.length) l.length (marks l j) ∧ w.heap.size < wr.heap.size ∧ Below w.heap.size w wr) (fun k _ => l.length + 2 - (intOf k).toNat)
  case atStart => exact ⟨0, rfl, by omega, rfl, hown0, by simp, hb0⟩
  case round =>
    obtain ⟨j, hs, hj, rfl, hown, hsz, hb⟩ := hrel
    rcases Nat.lt_or_ge j l.length with hlt | hge
    · have hc := hown.cellAt j (by omega)
      rw [marks_get hlt] at hc
      have hf := hown.frozenAt j
      obtain ⟨hst, -⟩ := hown.stored j (.bool true)
      rw [marks_set hlt hs] at hst
      have hb2 : Below w.heap.size w (wr.setCell ⟨w.heap.size, j, none⟩ (.bool true)) := hb.setCell (Nat.le_refl _) _
      have hnx := rnext_at l A c j hn hlt w _ h hb2
      have hgt := step_gt l j
      have hle := step_le l j
      clear hown hmk hown0
      go_wp2_with fail
      refine hnx.mono ?_
      rintro e w2 ⟨rfl, hb3⟩
      go_wp2_with fail
      go_roundw
      case rel => exact ⟨stepN l j, SB_step hs, by omega, rfl, own_below hst hb3 (by simpa using hsz), Nat.lt_of_lt_of_le hsz (by simpa using hb3.size), hb2.trans (hb3.mono (by simpa using Nat.le_of_lt hsz))⟩
      case measure => simp [intOf]; omega
    · go_wp2_with fail
      go_ret
      refine ⟨rfl, ?_, hsz, hb⟩
      rw [← marks_all hge]
      exact hown
theorem own_set_other {w : World} {base e size g n cap : Nat} {xs : List Value} (h : w.ownsRow base e size (.slice (some ⟨g, 0, none⟩) n cap) n xs) {p : Addr} (hp : p.block ≠ g) (v : Value) : (w.setCell p v).ownsRow base e size (.slice (some ⟨g, 0, none⟩) n cap) n xs := by
  refine ⟨h.1, ?_⟩
  rcases h.2 with ⟨hv, _⟩ | ⟨g', cap', cur, hv, hb', hh, r⟩
  · cases hv
  · refine .inr ⟨g', cap', cur, hv, hb', ?_, r⟩
    injection hv with hA
    injection hA with hA
    injection hA with hA
    subst hA
    rw [heap_setCell_other w p g v (fun e => hp e.symm), hh]
theorem own_edit {w : World} {base g n cap : Nat} {es : List Edit} (h : w.ownsRow base 71 7 (.slice (some ⟨g, 0, none⟩) n cap) n (editsV es)) {j : Nat} (hj : j < es.length) (e : Edit) :
    ((((((((w.setCell ⟨g, j * 7, none⟩ (.int .u8 e.kind)).setCell ⟨g, j * 7 + 1, none⟩ (.int .u8 e.x.op)).setCell ⟨g, j * 7 + 2, none⟩ (.int .u8 e.x.dst)).setCell ⟨g, j * 7 + 3, none⟩ (.int .u8 e.x.src)).setCell ⟨g, j * 7 + 4, none⟩ (.int .i16 e.x.off)).setCell ⟨g, j * 7 + 5, none⟩ (.int .i32 e.x.imm)).setCell ⟨g, j * 7 + 6, none⟩ (.int .i64 e.to))).ownsRow base 71 7 (.slice (some ⟨g, 0, none⟩) n cap) n (editsV (es.set j e)) := by
  rw [← editsV_set hj e]
  exact (((((((h.stored (j * 7) _).1.stored (j * 7 + 1) _).1.stored (j * 7 + 2) _).1.stored (j * 7 + 3) _).1.stored (j * 7 + 4) _).1.stored (j * 7 + 5) _).1.stored (j * 7 + 6) _).1
theorem own_edit_other {w : World} {base e size g g' n cap : Nat} {xs : List Value} (h : w.ownsRow base e size (.slice (some ⟨g, 0, none⟩) n cap) n xs) (hne : g' ≠ g) (j : Nat) (d : Edit) :
    ((((((((w.setCell ⟨g', j * 7, none⟩ (.int .u8 d.kind)).setCell ⟨g', j * 7 + 1, none⟩ (.int .u8 d.x.op)).setCell ⟨g', j * 7 + 2, none⟩ (.int .u8 d.x.dst)).setCell ⟨g', j * 7 + 3, none⟩ (.int .u8 d.x.src)).setCell ⟨g', j * 7 + 4, none⟩ (.int .i16 d.x.off)).setCell ⟨g', j * 7 + 5, none⟩ (.int .i32 d.x.imm)).setCell ⟨g', j * 7 + 6, none⟩ (.int .i64 d.to))).ownsRow base e size (.slice (some ⟨g, 0, none⟩) n cap) n xs :=
  own_set_other (own_set_other (own_set_other (own_set_other (own_set_other (own_set_other (own_set_other h hne _) hne _) hne _) hne _) hne _) hne _) hne _
theorem below_edit {B : Nat} {W w : World} (h : Below B W w) {g : Nat} (hg : B ≤ g) (j : Nat) (d : Edit) :
    Below B W ((((((((w.setCell ⟨g, j * 7, none⟩ (.int .u8 d.kind)).setCell ⟨g, j * 7 + 1, none⟩ (.int .u8 d.x.op)).setCell ⟨g, j * 7 + 2, none⟩ (.int .u8 d.x.dst)).setCell ⟨g, j * 7 + 3, none⟩ (.int .u8 d.x.src)).setCell ⟨g, j * 7 + 4, none⟩ (.int .i16 d.x.off)).setCell ⟨g, j * 7 + 5, none⟩ (.int .i32 d.x.imm)).setCell ⟨g, j * 7 + 6, none⟩ (.int .i64 d.to))) :=
  (((((((h.setCell (p := ⟨g, j * 7, none⟩) hg _).setCell (p := ⟨g, j * 7 + 1, none⟩) hg _).setCell (p := ⟨g, j * 7 + 2, none⟩) hg _).setCell (p := ⟨g, j * 7 + 3, none⟩) hg _).setCell (p := ⟨g, j * 7 + 4, none⟩) hg _).setCell (p := ⟨g, j * 7 + 5, none⟩) hg _).setCell (p := ⟨g, j * 7 + 6, none⟩) hg _)
theorem size_edit (w : World) (g j : Nat) (d : Edit) : ((((((((w.setCell ⟨g, j * 7, none⟩ (.int .u8 d.kind)).setCell ⟨g, j * 7 + 1, none⟩ (.int .u8 d.x.op)).setCell ⟨g, j * 7 + 2, none⟩ (.int .u8 d.x.dst)).setCell ⟨g, j * 7 + 3, none⟩ (.int .u8 d.x.src)).setCell ⟨g, j * 7 + 4, none⟩ (.int .i16 d.x.off)).setCell ⟨g, j * 7 + 5, none⟩ (.int .i32 d.x.imm)).setCell ⟨g, j * 7 + 6, none⟩ (.int .i64 d.to))).heap.size = w.heap.size := by simp
theorem own_cells {w : World} {base g n cap : Nat} {es : List Edit} (h : w.ownsRow base 71 7 (.slice (some ⟨g, 0, none⟩) n cap) n (editsV es)) {j : Nat} (hj : j < es.length) (hn : es.length = n) :
    w.cell? ⟨g, j * 7, none⟩ = some (.int .u8 (edAt es j).kind) ∧ w.cell? ⟨g, j * 7 + 1, none⟩ = some (.int .u8 (edAt es j).x.op) ∧ w.cell? ⟨g, j * 7 + 2, none⟩ = some (.int .u8 (edAt es j).x.dst) ∧ w.cell? ⟨g, j * 7 + 3, none⟩ = some (.int .u8 (edAt es j).x.src) ∧ w.cell? ⟨g, j * 7 + 4, none⟩ = some (.int .i16 (edAt es j).x.off) ∧ w.cell? ⟨g, j * 7 + 5, none⟩ = some (.int .i32 (edAt es j).x.imm) ∧ w.cell? ⟨g, j * 7 + 6, none⟩ = some (.int .i64 (edAt es j).to) ∧ ∀ k, w.frozen? ⟨g, k, none⟩ = false := by
  have hk : ∀ k u, k < 7 → (edAt es j).cells[k]? = some u → w.cell? ⟨g, j * 7 + k, none⟩ = some u := by
    intro k u hk hu
    rw [h.cellAt (j * 7 + k) (by omega), editsV_get hj hk, hu]
  exact ⟨hk 0 _ (by omega) rfl, hk 1 _ (by omega) rfl, hk 2 _ (by omega) rfl, hk 3 _ (by omega) rfl, hk 4 _ (by omega) rfl, hk 5 _ (by omega) rfl, hk 6 _ (by omega) rfl, fun k => h.frozenAt k⟩
theorem info71 : (Try.prog.info? 71).map (fun i => (i.zero, i.size, i.bytes)) = some (some Edit.none.val, 7, 24) := by kernel_rfl
theorem make_edits (n : Nat) (hn : n ≤ 100000) (w : World) : (Instr.makeSlice 68 (.int .i64 (n : Int)) (.int .i64 (n : Int))).run Try.prog w = .ok (.slice (some ⟨w.heap.size, 0, none⟩) n n) (w.alloc (.cells (madeCells Edit.none.val.cells (n * 7)) 71)) := by
  obtain ⟨i, hi, hz, hs, hb⟩ := info_parts info71
  have hr := run_make (P := Try.prog) w 68 71 i _ Try.underlying68 hi hz .i64 .i64 n n (by omega) (Int.le_refl _) (by rw [hb]; omega) (by omega)
  simp only [Int.toNat_natCast, hs] at hr
  exact hr
theorem editsM_yes {l : List Insn} (h : (checkM l).2 = 0) : editsM l = partE l l.length := by
  unfold editsM; rw [if_neg (by simp [h]), partE_all (Nat.le_refl _)]
theorem editsM_no {l : List Insn} (h : (checkM l).2 ≠ 0) : editsM l = [] := by
  unfold editsM; rw [if_pos h]
/-- Behind Edits. -/
def EditsOk (W : World) (es : List Edit) (e : Ending) (w' : World) : Prop :=
  ∃ A c, e = .returned (.slice A es.length c) ∧ SAt w' w'.heap.size 7 A es.length (editsV es) ∧ es.length ≤ c ∧ c ≤ maxLen ∧ Below W.heap.size W w'
set_option maxRecDepth 100000 in
set_option maxHeartbeats 8000000 in
theorem edits_any (l : List Insn) (hl : ∀ x ∈ l, x.Ok) (A : Option Addr) (c : Nat) (hn : l.length ≤ 100000) (w : World) (h : SAt w w.heap.size 5 A l.length (insnsV l)) :
    Calls Try.prog 57 #[.slice A l.length c] w (EditsOk w (editsM l)) := by
  have hck := check_any l hl A c hn w h
  have hmk := make_edits l.length hn
  have hz := check_zero (l := l)
  go_enter Try.func57, Try.ntmps57
  go_wp2_with fail
  refine hck.mono ?_
  rintro e w1 ⟨rfl, hb1⟩
  clear hck
  by_cases he : (checkM l).2 = 0
  · have hp := check_prog he
    have HM := Lib.hid (editsM_yes he)
    have hown0 := own_new w1 w1.heap.size (madeCells Edit.none.val.cells (l.length * 7)) 71 7 l.length l.length w.heap.size rfl hb1.size (Nat.le_refl _) (by simp only [maxLen]; omega) (by simp [madeCells])
    rw [edits_made, List.take_of_length_le (by rw [editsV_length]; simp), ← partE_zero] at hown0
    have hbA := hb1.alloc hb1.size (.cells (madeCells Edit.none.val.cells (l.length * 7)) 71)
    have hsz : (w1.alloc (.cells (madeCells Edit.none.val.cells (l.length * 7)) 71)).heap.size = w1.heap.size + 1 := by simp
    generalize madeCells Edit.none.val.cells (l.length * 7) = mc at *
    have HS := Lib.hid hsz
    have hst := starts_new l A c hn _ ((h.below hbA).more hbA.size)
    rw [hz he]
    simp only
    have HC := Lib.hid he
    clear hz he hsz
    go_wp2_with fail
    clear hmk
    generalize hW : w1.alloc (.cells mc 71) = W at *
    generalize hg1 : w1.heap.size = g at *
    have hg : w.heap.size ≤ g := by rw [← hg1]; exact hb1.size
    refine hst.mono ?_
    rintro e w2 ⟨rfl, hownS, hszS, hb2⟩
    clear hst
    have hsg : W.heap.size = g + 1 := HS.out
    generalize hs1 : W.heap.size = s at *
    subst hsg
    have hgs : g ≠ g + 1 := by omega
    have hbw2 := hbA.trans (hb2.mono (by omega))
    have hownS' := own_mono (base' := w.heap.size) (by omega) hownS
    have hown2 := own_below hown0 hb2 (by omega)
    clear hown0 hownS hW hs1 hg1 HS hb2 hbA hb1
    go_wp2_with fail
    go_loopw [23, 6, 7, 8, 9, 38, 39, 48] (fun k _ _ _ _ _ _ _ wr => ∃ (j : Nat), j ≤ l.length ∧ k = .int .i64 j ∧ wr.ownsRow w.heap.size 71 7 (.slice (some ⟨g, 0, none⟩) l.length l.length) l.length (editsV (partE l j)) ∧ wr.ownsRow w.heap.size 4 1 (.slice (some ⟨g + 1, 0, none⟩) l.length l.length) l.length (boolsV (startsL l)) ∧ g + 1 < wr.heap.size ∧ Below w.heap.size w wr) (fun k _ _ _ _ _ _ _ _ => l.length - (intOf k).toNat)
    case atStart => exact ⟨0, by omega, rfl, hown2, hownS', hszS, hbw2⟩
    case round =>
      obtain ⟨j, hj, rfl, hownE, hownF, hszr, hbw⟩ := hrel
      by_cases hlt : j < l.length
      · have hcell := hownF.cellAt j (by omega)
        rw [show (boolsV (startsL l))[j]? = some (.bool (SB l j)) by simp [boolsV, startsL, List.getElem?_range hlt]] at hcell
        cases hs : SB l j
        · rw [hs] at hcell
          have HN := Lib.hid (show hopE l j = Edit.none by simp [hopE, hs])
          go_wp2_with fail
          go_roundw
          case rel => exact ⟨j + 1, by omega, by go_num, by rw [partE_same HN.out]; exact hownE, hownF, hszr, hbw⟩
          case measure => simp [intOf]; omega
        · rw [hs] at hcell
          have hta := target_any l hl A c hn j (by omega) (by omega) _ ((h.below hbw).more hbw.size)
          go_wp2_with fail
          refine hta.mono ?_
          rintro e w3 ⟨rfl, hb3⟩
          clear hta hcell
          have hbw3 := hbw.trans (hb3.mono hbw.size)
          have hownE3 := own_below hownE hb3 (by omega)
          have hownF3 := own_below hownF hb3 hszr
          have hsz3 := Nat.lt_of_lt_of_le hszr hb3.size
          have hkd := kind_any l hl A c hn j hlt _ ((h.below hbw3).more hbw3.size)
          clear hownE hownF hszr
          have HT := Lib.hid (rfl : (targetM l j).1 = (targetM l j).1)
          generalize htm : targetM l j = tm at *
          obtain ⟨t0, t1⟩ := tm
          simp only
          go_wp2_with fail
          refine hkd.mono ?_
          rintro e w4 ⟨rfl, hb4⟩
          clear hkd
          have hbw4 := hbw3.trans (hb4.mono hbw3.size)
          have hownE4 := own_below hownE3 hb4 (by omega)
          have hownF4 := own_below hownF3 hb4 hsz3
          have hsz4 := Nat.lt_of_lt_of_le hsz3 hb4.size
          clear hownE3 hownF3 hsz3
          by_cases e9 : kindM l j = 9
          · have q : (kindM l j == 9) = true := by simp [e9]
            obtain ⟨t, ht, hst, htg, htn⟩ := hp.goes_at hlt hs (.inl e9)
            rw [htm] at htg htn
            simp only [Prod.mk.injEq] at htg htn
            obtain ⟨rfl, rfl⟩ := htg
            have HH := Lib.hid (show hopE l j = jumpE l j t by simp [hopE, hs, e9, htm, htn])
            have hed := jumpE_any l hl hp A c hn j t hlt ht hst w4 ((h.below hbw4).more hbw4.size)
            generalize jumpE l j t = d at *
            have HP := Lib.hid (show (partE l j).set j d = partE l (j + 1) by rw [← HH.out]; exact partE_set hlt)
            clear htm htn HT e9
            obtain ⟨d0, ⟨d1, d2, d3, d4, d5⟩, d6⟩ := d
            simp only [Edit.val] at hed
            go_wp2_with fail
            refine hed.mono ?_
            rintro e w5 ⟨rfl, hb5⟩
            clear hed
            have hbw5 := hbw4.trans (hb5.mono hbw4.size)
            have hownE5 := own_below hownE4 hb5 (by omega)
            have hownF5 := own_below hownF4 hb5 hsz4
            have hsz5 := Nat.lt_of_lt_of_le hsz4 hb5.size
            clear hownE4 hownF4 hsz4
            obtain ⟨e0, e1, e2, e3, e4, e5, e6, hz⟩ := own_cells hownE5 (j := j) (by rw [partE_length]; exact hlt) (by rw [partE_length])
            go_wp2_with fail
            go_roundw
            case rel =>
              refine ⟨j + 1, by omega, by go_num, ?_, own_edit_other hownF5 hgs j ⟨d0, ⟨d1, d2, d3, d4, d5⟩, d6⟩, Nat.lt_of_lt_of_eq hsz5 (size_edit _ _ _ ⟨d0, ⟨d1, d2, d3, d4, d5⟩, d6⟩).symm, below_edit hbw5 hg j ⟨d0, ⟨d1, d2, d3, d4, d5⟩, d6⟩⟩
              rw [← HP.out]
              exact own_edit hownE5 (by rw [partE_length]; exact hlt) ⟨d0, ⟨d1, d2, d3, d4, d5⟩, d6⟩
            case measure => simp [intOf]; omega
          · have q9 : (kindM l j == 9) = false := by simp [e9]
            by_cases e10 : kindM l j = 10
            · have q : (kindM l j == 10) = true := by simp [e10]
              obtain ⟨t, ht, hst, htg, htn⟩ := hp.goes_at hlt hs (.inr e10)
              rw [htm] at htg htn
              simp only [Prod.mk.injEq] at htg htn
              obtain ⟨rfl, rfl⟩ := htg
              have HH := Lib.hid (show hopE l j = branchE l j t by simp [hopE, hs, e10, htm, htn])
              have hed := branchE_any l hl hp A c hn j t hlt hs e10 ht hst w4 ((h.below hbw4).more hbw4.size)
              generalize branchE l j t = d at *
              have HP := Lib.hid (show (partE l j).set j d = partE l (j + 1) by rw [← HH.out]; exact partE_set hlt)
              clear htm htn HT e10
              obtain ⟨d0, ⟨d1, d2, d3, d4, d5⟩, d6⟩ := d
              simp only [Edit.val] at hed
              go_wp2_with fail
              refine hed.mono ?_
              rintro e w5 ⟨rfl, hb5⟩
              clear hed
              have hbw5 := hbw4.trans (hb5.mono hbw4.size)
              have hownE5 := own_below hownE4 hb5 (by omega)
              have hownF5 := own_below hownF4 hb5 hsz4
              have hsz5 := Nat.lt_of_lt_of_le hsz4 hb5.size
              clear hownE4 hownF4 hsz4
              obtain ⟨e0, e1, e2, e3, e4, e5, e6, hz⟩ := own_cells hownE5 (j := j) (by rw [partE_length]; exact hlt) (by rw [partE_length])
              go_wp2_with fail
              go_roundw
              case rel =>
                refine ⟨j + 1, by omega, by go_num, ?_, own_edit_other hownF5 hgs j ⟨d0, ⟨d1, d2, d3, d4, d5⟩, d6⟩, Nat.lt_of_lt_of_eq hsz5 (size_edit _ _ _ ⟨d0, ⟨d1, d2, d3, d4, d5⟩, d6⟩).symm, below_edit hbw5 hg j ⟨d0, ⟨d1, d2, d3, d4, d5⟩, d6⟩⟩
                rw [← HP.out]
                exact own_edit hownE5 (by rw [partE_length]; exact hlt) ⟨d0, ⟨d1, d2, d3, d4, d5⟩, d6⟩
              case measure => simp [intOf]; omega
            · have q10 : (kindM l j == 10) = false := by simp [e10]
              have HN := Lib.hid (show hopE l j = Edit.none by simp [hopE, e9, e10])
              clear e9 e10 HT
              go_wp2_with fail
              go_roundw
              case rel => exact ⟨j + 1, by omega, by go_num, by rw [partE_same HN.out]; exact hownE4, hownF4, hsz4, hbw4⟩
              case measure => simp [intOf]; omega
      · obtain rfl : j = l.length := by omega
        have hcap := own_cap hownE
        have hmax := own_max hownE
        have hsat := SAt.own hownE
        clear hownE hownF
        go_wp2_with fail
        go_ret
        have HL := partE_length l l.length
        refine ⟨some ⟨g, 0, none⟩, l.length, ?_, ?_, ?_, hmax, hbw⟩
        · rw [HM.out, HL]; rfl
        · rw [HM.out, HL]; exact hsat
        · rw [HM.out, HL]; exact Nat.le_refl _
  · have HM := Lib.hid (editsM_no he)
    clear hz
    generalize checkM l = r at *
    obtain ⟨r0, r1⟩ := r
    simp only at he ⊢
    go_wp2_with fail
    go_ret
    exact ⟨none, 0, by rw [HM.out]; rfl, by rw [HM.out]; exact SAt.nil_, by rw [HM.out]; exact Nat.le_refl _, by simp [maxLen], hb1⟩
set_option maxRecDepth 100000 in
set_option maxHeartbeats 8000000 in
theorem redits_any (l : List Insn) (hl : ∀ x ∈ l, x.Ok) (A : Option Addr) (c : Nat) (hn : l.length ≤ 100000) (w : World) (h : SAt w w.heap.size 5 A l.length (insnsV l)) :
    Calls Try.prog 58 #[.slice A l.length c] w (EditsOk w (editsM l)) := by
  have hck := rcheck_any l hl A c hn w h
  have hmk := make_edits l.length hn
  have hz := check_zero (l := l)
  go_enter Try.func58, Try.ntmps58
  go_wp2_with fail
  refine hck.mono ?_
  rintro e w1 ⟨rfl, hb1⟩
  clear hck
  by_cases he : (checkM l).2 = 0
  · have hp := check_prog he
    have HM := Lib.hid (editsM_yes he)
    have hown0 := own_new w1 w1.heap.size (madeCells Edit.none.val.cells (l.length * 7)) 71 7 l.length l.length w.heap.size rfl hb1.size (Nat.le_refl _) (by simp only [maxLen]; omega) (by simp [madeCells])
    rw [edits_made, List.take_of_length_le (by rw [editsV_length]; simp), ← partE_zero] at hown0
    have hbA := hb1.alloc hb1.size (.cells (madeCells Edit.none.val.cells (l.length * 7)) 71)
    have hsz : (w1.alloc (.cells (madeCells Edit.none.val.cells (l.length * 7)) 71)).heap.size = w1.heap.size + 1 := by simp
    generalize madeCells Edit.none.val.cells (l.length * 7) = mc at *
    have HS := Lib.hid hsz
    have hst := rstarts_new l A c hn _ ((h.below hbA).more hbA.size)
    rw [hz he]
    simp only
    have HC := Lib.hid he
    clear hz he hsz
    go_wp2_with fail
    clear hmk
    generalize hW : w1.alloc (.cells mc 71) = W at *
    generalize hg1 : w1.heap.size = g at *
    have hg : w.heap.size ≤ g := by rw [← hg1]; exact hb1.size
    refine hst.mono ?_
    rintro e w2 ⟨rfl, hownS, hszS, hb2⟩
    clear hst
    have hsg : W.heap.size = g + 1 := HS.out
    generalize hs1 : W.heap.size = s at *
    subst hsg
    have hgs : g ≠ g + 1 := by omega
    have hbw2 := hbA.trans (hb2.mono (by omega))
    have hownS' := own_mono (base' := w.heap.size) (by omega) hownS
    have hown2 := own_below hown0 hb2 (by omega)
    clear hown0 hownS hW hs1 hg1 HS hb2 hbA hb1
    go_wp2_with fail
    go_loopw [7] (fun k wr => ∃ (j : Nat), j ≤ l.length ∧ k = .int .i64 j ∧ wr.ownsRow w.heap.size 71 7 (.slice (some ⟨g, 0, none⟩) l.length l.length) l.length (editsV (partE l j)) ∧ wr.ownsRow w.heap.size 4 1 (.slice (some ⟨g + 1, 0, none⟩) l.length l.length) l.length (boolsV (startsL l)) ∧ g + 1 < wr.heap.size ∧ Below w.heap.size w wr) (fun k _ => l.length - (intOf k).toNat)
    case atStart => exact ⟨0, by omega, rfl, hown2, hownS', hszS, hbw2⟩
    case round =>
      obtain ⟨j, hj, rfl, hownE, hownF, hszr, hbw⟩ := hrel
      by_cases hlt : j < l.length
      · have hcell := hownF.cellAt j (by omega)
        rw [show (boolsV (startsL l))[j]? = some (.bool (SB l j)) by simp [boolsV, startsL, List.getElem?_range hlt]] at hcell
        cases hs : SB l j
        · rw [hs] at hcell
          have HN := Lib.hid (show hopE l j = Edit.none by simp [hopE, hs])
          go_wp2_with fail
          go_roundw
          case rel => exact ⟨j + 1, by omega, by go_num, by rw [partE_same HN.out]; exact hownE, hownF, hszr, hbw⟩
          case measure => simp [intOf]; omega
        · rw [hs] at hcell
          have hkd := rkind_any l hl A c hn j hlt _ ((h.below hbw).more hbw.size)
          go_wp2_with fail
          refine hkd.mono ?_
          rintro e w3 ⟨rfl, hb3⟩
          clear hkd hcell
          have hbw3 := hbw.trans (hb3.mono hbw.size)
          have hownE3 := own_below hownE hb3 (by omega)
          have hownF3 := own_below hownF hb3 hszr
          have hsz3 := Nat.lt_of_lt_of_le hszr hb3.size
          clear hownE hownF hszr
          by_cases e9 : kindM l j = 9
          · have q : (kindM l j == 9) = true := by simp [e9]
            have HH := Lib.hid (show hopE l j = jumpE l j (targetM l j).1.toNat by simp [hopE, hs, e9])
            have hed := redit_jump l hl HC.out hp A c hn j hlt hs e9 w3 ((h.below hbw3).more hbw3.size)
            generalize jumpE l j (targetM l j).1.toNat = d at *
            have HP := Lib.hid (show (partE l j).set j d = partE l (j + 1) by rw [← HH.out]; exact partE_set hlt)
            clear e9
            obtain ⟨d0, ⟨d1, d2, d3, d4, d5⟩, d6⟩ := d
            simp only [Edit.val] at hed
            go_wp2_with fail
            refine hed.mono ?_
            rintro e w6 ⟨rfl, hb6⟩
            clear hed
            have hbw6 := hbw3.trans (hb6.mono hbw3.size)
            have hownE6 := own_below hownE3 hb6 (by omega)
            have hownF6 := own_below hownF3 hb6 hsz3
            have hsz6 := Nat.lt_of_lt_of_le hsz3 hb6.size
            clear hownE3 hownF3 hsz3
            obtain ⟨e0, e1, e2, e3, e4, e5, e6, hz⟩ := own_cells hownE6 (j := j) (by rw [partE_length]; exact hlt) (by rw [partE_length])
            go_wp2_with fail
            go_roundw
            case rel =>
              refine ⟨j + 1, by omega, by go_num, ?_, own_edit_other hownF6 hgs j ⟨d0, ⟨d1, d2, d3, d4, d5⟩, d6⟩, Nat.lt_of_lt_of_eq hsz6 (size_edit _ _ _ ⟨d0, ⟨d1, d2, d3, d4, d5⟩, d6⟩).symm, below_edit hbw6 hg j ⟨d0, ⟨d1, d2, d3, d4, d5⟩, d6⟩⟩
              rw [← HP.out]
              exact own_edit hownE6 (by rw [partE_length]; exact hlt) ⟨d0, ⟨d1, d2, d3, d4, d5⟩, d6⟩
            case measure => simp [intOf]; omega
          · have q9 : (kindM l j == 9) = false := by simp [e9]
            have hkd := rkind_any l hl A c hn j hlt _ ((h.below hbw3).more hbw3.size)
            go_wp2_with fail
            refine hkd.mono ?_
            rintro e w4 ⟨rfl, hb4⟩
            clear hkd
            have hbw4 := hbw3.trans (hb4.mono hbw3.size)
            have hownE4 := own_below hownE3 hb4 (by omega)
            have hownF4 := own_below hownF3 hb4 hsz3
            have hsz4 := Nat.lt_of_lt_of_le hsz3 hb4.size
            clear hownE3 hownF3 hsz3
            by_cases e10 : kindM l j = 10
            · have q : (kindM l j == 10) = true := by simp [e10]
              have HH := Lib.hid (show hopE l j = branchE l j (targetM l j).1.toNat by simp [hopE, hs, e10])
              have hed := redit_branch l hl HC.out hp A c hn j hlt hs e10 w4 ((h.below hbw4).more hbw4.size)
              generalize branchE l j (targetM l j).1.toNat = d at *
              have HP := Lib.hid (show (partE l j).set j d = partE l (j + 1) by rw [← HH.out]; exact partE_set hlt)
              clear e10
              obtain ⟨d0, ⟨d1, d2, d3, d4, d5⟩, d6⟩ := d
              simp only [Edit.val] at hed
              go_wp2_with fail
              refine hed.mono ?_
              rintro e w6 ⟨rfl, hb6⟩
              clear hed
              have hbw6 := hbw4.trans (hb6.mono hbw4.size)
              have hownE6 := own_below hownE4 hb6 (by omega)
              have hownF6 := own_below hownF4 hb6 hsz4
              have hsz6 := Nat.lt_of_lt_of_le hsz4 hb6.size
              clear hownE4 hownF4 hsz4
              obtain ⟨e0, e1, e2, e3, e4, e5, e6, hz⟩ := own_cells hownE6 (j := j) (by rw [partE_length]; exact hlt) (by rw [partE_length])
              go_wp2_with fail
              go_roundw
              case rel =>
                refine ⟨j + 1, by omega, by go_num, ?_, own_edit_other hownF6 hgs j ⟨d0, ⟨d1, d2, d3, d4, d5⟩, d6⟩, Nat.lt_of_lt_of_eq hsz6 (size_edit _ _ _ ⟨d0, ⟨d1, d2, d3, d4, d5⟩, d6⟩).symm, below_edit hbw6 hg j ⟨d0, ⟨d1, d2, d3, d4, d5⟩, d6⟩⟩
                rw [← HP.out]
                exact own_edit hownE6 (by rw [partE_length]; exact hlt) ⟨d0, ⟨d1, d2, d3, d4, d5⟩, d6⟩
              case measure => simp [intOf]; omega
            · have q10 : (kindM l j == 10) = false := by simp [e10]
              have HN := Lib.hid (show hopE l j = Edit.none by simp [hopE, e9, e10])
              clear e9 e10
              go_wp2_with fail
              go_roundw
              case rel => exact ⟨j + 1, by omega, by go_num, by rw [partE_same HN.out]; exact hownE4, hownF4, hsz4, hbw4⟩
              case measure => simp [intOf]; omega
      · obtain rfl : j = l.length := by omega
        have hcap := own_cap hownE
        have hmax := own_max hownE
        have hsat := SAt.own hownE
        clear hownE hownF
        go_wp2_with fail
        go_ret
        have HL := partE_length l l.length
        refine ⟨some ⟨g, 0, none⟩, l.length, ?_, ?_, ?_, hmax, hbw⟩
        · rw [HM.out, HL]; rfl
        · rw [HM.out, HL]; exact hsat
        · rw [HM.out, HL]; exact Nat.le_refl _
  · have HM := Lib.hid (editsM_no he)
    clear hz
    generalize checkM l = r at *
    obtain ⟨r0, r1⟩ := r
    simp only at he ⊢
    go_wp2_with fail
    go_ret
    exact ⟨none, 0, by rw [HM.out]; rfl, by rw [HM.out]; exact SAt.nil_, by rw [HM.out]; exact Nat.le_refl _, by simp [maxLen], hb1⟩
set_option maxRecDepth 100000 in
theorem few21_is (l : List Insn) (A : Option Addr) (c : Nat) (hc : l.length ≤ c) (hc' : c ≤ maxLen) (w : World) (h : SAt w w.heap.size 5 A l.length (insnsV l)) :
    Calls Try.prog 52 #[.slice A l.length c] w fun e w' => e = .returned (.slice A (l.take 100).length c) ∧ w' = w := by
  unfold maxLen at hc'
  have ht : (l.take 100).length = min 100 l.length := by simp
  rw [ht]
  generalize hn : l.length = n at *
  have HN := Lib.hid hn
  clear hn ht
  by_cases h0 : 100 < n
  · go_enter Try.func52, Try.ntmps52
    go_wp2_with fail
    go_ret
    refine ⟨?_, rfl⟩
    rw [show min 100 n = 100 by omega]
    rfl
  · go_enter Try.func52, Try.ntmps52
    go_wp2_with fail
    go_ret
    refine ⟨?_, rfl⟩
    rw [show min 100 n = n by omega]
    rfl
set_option maxHeartbeats 2000000 in
theorem eq_edit (a b : Edit) (w : World) : (binOp .eql 71 a.val b.val).run Try.prog w = .ok (.bool (decide (a = b))) w := by
  have e : decide (a = b) = (decide (a.kind = b.kind) && (decide (a.x.op = b.x.op) && (decide (a.x.dst = b.x.dst) && (decide (a.x.src = b.x.src) && (decide (a.x.off = b.x.off) && (decide (a.x.imm = b.x.imm) && decide (a.to = b.to))))))) := by
    obtain ⟨k, ⟨a1, a2, a3, a4, a5⟩, t⟩ := a
    obtain ⟨k', ⟨b1, b2, b3, b4, b5⟩, t'⟩ := b
    rw [Bool.eq_iff_iff]
    simp [and_assoc]
  rw [e]
  by_cases h0 : a.kind = b.kind
  case neg => simp [go_sem, Edit.val, h0]
  by_cases h1 : a.x.op = b.x.op
  case neg => simp [go_sem, Edit.val, h0, h1]
  by_cases h2 : a.x.dst = b.x.dst
  case neg => simp [go_sem, Edit.val, h0, h1, h2]
  by_cases h3 : a.x.src = b.x.src
  case neg => simp [go_sem, Edit.val, h0, h1, h2, h3]
  by_cases h4 : a.x.off = b.x.off
  case neg => simp [go_sem, Edit.val, h0, h1, h2, h3, h4]
  by_cases h5 : a.x.imm = b.x.imm
  case neg => simp [go_sem, Edit.val, h0, h1, h2, h3, h4, h5]
  by_cases h6 : a.to = b.to
  case neg => simp [go_sem, Edit.val, h0, h1, h2, h3, h4, h5, h6]
  simp [go_sem, Edit.val, h0, h1, h2, h3, h4, h5, h6]
set_option maxHeartbeats 2000000 in
theorem neq_edit (a b : Edit) (w : World) : (binOp .neq 71 a.val b.val).run Try.prog w = .ok (.bool (!decide (a = b))) w := by
  have e : decide (a = b) = (decide (a.kind = b.kind) && (decide (a.x.op = b.x.op) && (decide (a.x.dst = b.x.dst) && (decide (a.x.src = b.x.src) && (decide (a.x.off = b.x.off) && (decide (a.x.imm = b.x.imm) && decide (a.to = b.to))))))) := by
    obtain ⟨k, ⟨a1, a2, a3, a4, a5⟩, t⟩ := a
    obtain ⟨k', ⟨b1, b2, b3, b4, b5⟩, t'⟩ := b
    rw [Bool.eq_iff_iff]
    simp [and_assoc]
  rw [e]
  by_cases h0 : a.kind = b.kind
  case neg => simp [go_sem, Edit.val, h0]
  by_cases h1 : a.x.op = b.x.op
  case neg => simp [go_sem, Edit.val, h0, h1]
  by_cases h2 : a.x.dst = b.x.dst
  case neg => simp [go_sem, Edit.val, h0, h1, h2]
  by_cases h3 : a.x.src = b.x.src
  case neg => simp [go_sem, Edit.val, h0, h1, h2, h3]
  by_cases h4 : a.x.off = b.x.off
  case neg => simp [go_sem, Edit.val, h0, h1, h2, h3, h4]
  by_cases h5 : a.x.imm = b.x.imm
  case neg => simp [go_sem, Edit.val, h0, h1, h2, h3, h4, h5]
  by_cases h6 : a.to = b.to
  case neg => simp [go_sem, Edit.val, h0, h1, h2, h3, h4, h5, h6]
  simp [go_sem, Edit.val, h0, h1, h2, h3, h4, h5, h6]
theorem edits_eq_at {a b : List Edit} (hl : a.length = b.length) (h : ∀ i, i < a.length → edAt a i = edAt b i) : a = b := by
  apply List.ext_getElem hl
  intro i h1 h2
  have := h i h1
  rwa [edAt_get h1, edAt_get h2] at this
set_option maxRecDepth 100000 in
set_option maxHeartbeats 4000000 in
theorem sameE_any (a b : List Edit) (A B : Option Addr) (c d : Nat) (hn : a.length ≤ 100000) (hm : b.length ≤ 100000) (w : World) (ha : SAt w w.heap.size 7 A a.length (editsV a)) (hb : SAt w w.heap.size 7 B b.length (editsV b)) :
    Calls Try.prog 56 #[.slice A a.length c, .slice B b.length d] w fun e w' => e = .returned (.bool (decide (a = b))) ∧ Below w.heap.size w w' := by
  by_cases hl : a.length = b.length
  · rw [← hl] at hb hm ⊢
    go_enter Try.func56, Try.ntmps56
    go_wp2_with fail
    go_loopw [5] (fun k wr => ∃ j : Nat, j ≤ a.length ∧ k = .int .i64 j ∧ (∀ i, i < j → edAt a i = edAt b i) ∧ Below w.heap.size w wr) (fun k _ => a.length - (intOf k).toNat)
    case atStart => exact ⟨0, by omega, rfl, fun i hi => absurd hi (by omega), Below.refl _ _⟩
    case round =>
      obtain ⟨j, hj, rfl, heq, hbr⟩ := hrel
      rcases Nat.lt_or_ge j a.length with hlt | hge
      · obtain ⟨p, o, rfl, hp, c0, c1, c2, c3, c4, c5, c6⟩ := ha.edit hlt
        obtain ⟨q, o', rfl, hq, d0, d1, d2, d3, d4, d5, d6⟩ := SAt.edit (l := b) (by rw [← hl]; exact hb) (show j < b.length by omega)
        replace c0 := c0 _ hbr
        replace c1 := c1 _ hbr
        replace c2 := c2 _ hbr
        replace c3 := c3 _ hbr
        replace c4 := c4 _ hbr
        replace c5 := c5 _ hbr
        replace c6 := c6 _ hbr
        replace d0 := d0 _ hbr
        replace d1 := d1 _ hbr
        replace d2 := d2 _ hbr
        replace d3 := d3 _ hbr
        replace d4 := d4 _ hbr
        replace d5 := d5 _ hbr
        replace d6 := d6 _ hbr
        have hne := neq_edit (edAt a j) (edAt b j)
        simp only [Edit.val] at hne
        have hj1 : (j : Int) < (a.length : Int) := by omega
        by_cases hxy : edAt a j = edAt b j
        · have hd : decide (edAt a j = edAt b j) = true := by simp [hxy]
          rw [hd] at hne
          clear hd
          go_wp2_with fail
          go_quiet (fail)
          go_wp2_with fail
          go_roundw
          case rel =>
            refine ⟨j + 1, by omega, by go_num, fun i hi => ?_, below_drewN hbr _⟩
            rcases Nat.lt_or_ge i j with h1 | h1
            · exact heq i h1
            · obtain rfl : i = j := by omega
              exact hxy
          case measure => simp [intOf]; omega
        · have hd : decide (edAt a j = edAt b j) = false := by simp [hxy]
          rw [hd] at hne
          clear hd
          go_wp2_with fail
          go_quiet (fail)
          go_wp2_with fail
          go_ret
          refine ⟨?_, below_drewN hbr _⟩
          rw [decide_eq_false (show ¬ a = b from fun e => hxy (by rw [e]))]
          rfl
      · go_wp2_with fail
        go_ret
        refine ⟨?_, hbr⟩
        rw [decide_eq_true (show a = b from edits_eq_at hl (fun i hi => heq i (by omega)))]
        rfl
  · have hl' : ¬ (a.length : Int) = (b.length : Int) := by omega
    go_enter Try.func56, Try.ntmps56
    go_wp2_with fail
    go_ret
    exact ⟨by rw [decide_eq_false (show ¬ a = b from fun e => hl (by rw [e]))]; rfl, Below.refl _ _⟩
theorem editsM_len (l : List Insn) : (editsM l).length ≤ l.length := by
  unfold editsM
  split <;> simp
theorem editsM_at {l : List Insn} {j : Nat} (h : j < (editsM l).length) : edAt (editsM l) j = hopE l j ∧ j < l.length := by
  rw [edAt_get h]
  unfold editsM at *
  split at h
  · simp at h
  · rename_i hn
    have h' : j < l.length := by simpa using h
    refine ⟨?_, h'⟩
    simp only [if_neg hn]
    simp
theorem insn_at {W : World} {B : Nat} {b o : Nat} {l : List Insn} (h : SAt W B 5 (some ⟨b, o, none⟩) l.length (insnsV l)) {k : Nat} (hk : k < l.length) :
    (∀ w', Below B W w' → w'.cell? ⟨b, o + k * 5, none⟩ = some (.int .u8 (at' l k).op)) ∧ (∀ w', Below B W w' → w'.cell? ⟨b, o + k * 5 + 1, none⟩ = some (.int .u8 (at' l k).dst)) ∧
     (∀ w', Below B W w' → w'.cell? ⟨b, o + k * 5 + 2, none⟩ = some (.int .u8 (at' l k).src)) ∧ (∀ w', Below B W w' → w'.cell? ⟨b, o + k * 5 + 3, none⟩ = some (.int .i16 (at' l k).off)) ∧ (∀ w', Below B W w' → w'.cell? ⟨b, o + k * 5 + 4, none⟩ = some (.int .i32 (at' l k).imm)) := by
  obtain ⟨b', o', e, hb, c0, c1, c2, c3, c4⟩ := h.insn hk
  simp only [Option.some.injEq, Addr.mk.injEq, and_true] at e
  obtain ⟨rfl, rfl⟩ := e
  exact ⟨c0, c1, c2, c3, c4⟩
end Go.Proofs.Ytgbmeckhagklnaa
