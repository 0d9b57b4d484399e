/- Check, of the program. No statement is proved here. -/
import Derived.Test.YtgbmeckhagklnaaLists
namespace Go.Proofs.Ytgbmeckhagklnaa
open Go.RowKit
set_option linter.unusedSimpArgs false
set_option linter.unusedVariables false
theorem SAt.flag {w : World} {B : Nat} {A : Option Addr} {l : List Insn} (h : SAt w B 1 A l.length (boolsV (startsL l))) (h0 : 0 < l.length) :
    ∃ b o, A = some ⟨b, o, none⟩ ∧ b < B ∧ ∀ k, k < l.length → ∀ w', Below B w w' → w'.cell? ⟨b, o + k, none⟩ = some (.bool (SB l k)) := by
  obtain ⟨b, o, rfl, hb, hc⟩ := h.2 h0
  refine ⟨b, o, rfl, hb, fun k hk w' hw => ?_⟩
  rw [hw.cell hb]
  exact hc k _ (by simp [boolsV, startsL, List.getElem?_range hk])
theorem checkM_I {l : List Insn} {j : Nat} (h0 : 1 ≤ l.length) (h1 : l.length ≤ 512) (hj : j < l.length) (hb : badI l j = true) (hne : ∀ i, i < j → badI l i = false) : checkM l = ((j : Int), 71) := by
  unfold checkM
  rw [if_neg (by omega), firstB_some hj hb hne]
theorem checkM_J {l : List Insn} {j : Nat} (h0 : 1 ≤ l.length) (h1 : l.length ≤ 512) (hI : ∀ i, i < l.length → badI l i = false) (hj : j < l.length) (hb : badJ l j = true) (hne : ∀ i, i < j → badJ l i = false) : checkM l = ((j : Int), 72) := by
  unfold checkM
  rw [if_neg (by omega), firstB_none hI]
  simp only
  rw [firstB_some hj hb hne]
theorem checkM_E {l : List Insn} (h0 : 1 ≤ l.length) (h1 : l.length ≤ 512) (hI : ∀ i, i < l.length → badI l i = false) (hJ : ∀ i, i < l.length → badJ l i = false) : checkM l = if endB l then (0, 0) else ((lastN l : Int), 73) := by
  unfold checkM
  rw [if_neg (by omega), firstB_none hI]
  simp only
  rw [firstB_none hJ]
theorem lt_step {p : Nat → Bool} {j : Nat} (h : ∀ i, i < j → p i = false) (hj : p j = false) : ∀ i, i < j + 1 → p i = false := by
  intro i hi
  rcases Nat.lt_or_ge i j with h1 | h1
  · exact h i h1
  · obtain rfl : i = j := by omega
    exact hj
theorem lastN_lt {l : List Insn} (h : 1 ≤ l.length) : lastN l < l.length := by unfold lastN; split <;> omega
/-- Behind Check. -/
def TwoInts (W : World) (r : Int × Int) (e : Ending) (w' : World) : Prop := e = .returned (.tuple #[.int .i64 r.1, .int .i64 r.2]) ∧ Below W.heap.size W w'
set_option maxRecDepth 100000 in
set_option maxHeartbeats 4000000 in
theorem check_any (l : List Insn) (hl : ∀ x ∈ l, x.Ok) (A : Option Addr) (c : Nat) (hn : l.length ≤ 100000) (w : World) (h : SAt w w.heap.size 5 A l.length (insnsV l)) :
    Calls Try.prog 44 #[.slice A l.length c] w (TwoInts w (checkM l)) := by
  by_cases h1 : l.length < 1
  · go_enter Try.func44, Try.ntmps44
    go_wp2_with fail
    go_ret2
    exact ⟨by unfold checkM; rw [if_pos (.inl h1)]; rfl, Below.refl _ _⟩
  by_cases h512 : 512 < l.length
  · go_enter Try.func44, Try.ntmps44
    go_wp2_with fail
    go_ret2
    exact ⟨by unfold checkM; rw [if_pos (.inr h512)]; rfl, Below.refl _ _⟩
  have h1' : 1 ≤ l.length := by omega
  have h512' : l.length ≤ 512 := by omega
  go_enter Try.func44, Try.ntmps44
  go_wp2_with fail
  refine (starts_any l A c hn w h).mono ?_
  rintro e w2 ⟨A', c', rfl, hst, hb2⟩
  obtain ⟨b', o', rfl, hb', hfl⟩ := hst.flag (by omega)
  clear hst
  go_wp2_with fail
  go_loopw [26, 5, 6, 7] (fun k t5 _ _ wr => ∃ (j : Nat) (e0 : Nat), j ≤ l.length ∧ k = .int .i64 j ∧ t5 = .int .i64 e0 ∧ LastOf l j e0 ∧ (∀ i, i < j → badI l i = false) ∧ Below w2.heap.size w2 wr) (fun k _ _ _ _ => l.length - (intOf k).toNat)
  case atStart => exact ⟨0, 0, by omega, rfl, rfl, .inl ⟨rfl, rfl⟩, fun i hi => absurd hi (by omega), Below.refl _ _⟩
  case round =>
    obtain ⟨j, e0, hj, rfl, rfl, hlast, hI, hbr⟩ := hrel
    have hbw : Below w.heap.size w _ := hb2.trans (hbr.mono hb2.size)
    rcases Nat.lt_or_ge j l.length with hlt | hge
    · have hcell := hfl j hlt _ hbr
      cases hs : SB l j
      · rw [hs] at hcell
        go_wp2_with fail
        go_roundw
        case rel => exact ⟨j + 1, e0, by omega, by go_num, rfl, lastOf_step hlast hs, lt_step hI (by simp [badI, hs]), hbr⟩
        case measure => simp [intOf]; omega
      · rw [hs] at hcell
        go_wp2_with fail
        refine (whole_any l hl A c hn j hlt _ ((h.below hbw).more hbw.size)).mono ?_
        rintro e w3 ⟨rfl, hb3⟩
        have hb3' := hbr.trans (hb3.mono hbr.size)
        cases hw : wholeB l j
        · go_wp2_with fail
          go_ret2
          exact ⟨by rw [checkM_I h1' h512' hlt (by simp [badI, hs, hw]) hI]; rfl, hbw.trans (hb3.mono hbw.size)⟩
        · go_wp2_with fail
          go_roundw
          case rel => exact ⟨j + 1, j, by omega, by go_num, rfl, lastOf_here hs, lt_step hI (by simp [badI, hw]), hb3'⟩
          case measure => simp [intOf]; omega
    · obtain rfl : j = l.length := by omega
      have he0 := lastOf_all (by omega) hlast
      subst he0
      have hel := lastN_lt h1'
      go_wp2_with fail
      go_loopw [44, 8, 9, 10, 11] (fun k _ _ _ _ wr => ∃ (j : Nat), j ≤ l.length ∧ k = .int .i64 j ∧ (∀ i, i < j → badJ l i = false) ∧ Below w2.heap.size w2 wr) (fun k _ _ _ _ _ => l.length - (intOf k).toNat)
      case atStart => exact ⟨0, by omega, rfl, fun i hi => absurd hi (by omega), hbr⟩
      case round =>
        clear hbr hbw
        obtain ⟨j, hj, rfl, hJ, hbr⟩ := hrel
        have hbw : Below w.heap.size w _ := hb2.trans (hbr.mono hb2.size)
        rcases Nat.lt_or_ge j l.length with hlt | hge
        · have hcell := hfl j hlt _ hbr
          cases hs : SB l j
          · rw [hs] at hcell
            go_wp2_with fail
            go_roundw
            case rel => exact ⟨j + 1, by omega, by go_num, lt_step hJ (by simp [badJ, hs]), hbr⟩
            case measure => simp [intOf]; omega
          · rw [hs] at hcell
            go_wp2_with fail
            refine (to_any l hl A c hn j hlt _ ((h.below hbw).more hbw.size)).mono ?_
            rintro e w3 ⟨rfl, hb3⟩
            have hb3' := hbr.trans (hb3.mono hbr.size)
            have hbw' := hbw.trans (hb3.mono hbw.size)
            have hbj : badJ l j = ((toM l j).2 && !(decide (0 ≤ (toM l j).1) && (decide ((toM l j).1 < l.length) && SB l (toM l j).1.toNat))) := by simp [badJ, hs]
            have HJ := Lib.hid hbj
            clear hbj
            generalize toM l j = r at *
            obtain ⟨t, rb⟩ := r
            simp only at *
            cases rb
            · go_wp2_with fail
              go_roundw
              case rel => exact ⟨j + 1, by omega, by go_num, lt_step hJ (by rw [HJ.out]; simp), hb3'⟩
              case measure => simp [intOf]; omega
            by_cases ht0 : t < 0
            · go_wp2_with fail
              go_ret2
              exact ⟨by rw [checkM_J h1' h512' hI hlt (by rw [HJ.out]; simp; omega) hJ]; rfl, hbw'⟩
            by_cases ht1 : (l.length : Int) ≤ t
            · go_wp2_with fail
              go_ret2
              exact ⟨by rw [checkM_J h1' h512' hI hlt (by rw [HJ.out]; simp; omega) hJ]; rfl, hbw'⟩
            obtain ⟨tn, rfl⟩ := Int.eq_ofNat_of_zero_le (show 0 ≤ t by omega)
            have htl : tn < l.length := by omega
            have hcell' := hfl tn htl _ hb3'
            cases hst : SB l tn
            · rw [hst] at hcell'
              go_wp2_with fail
              go_ret2
              exact ⟨by rw [checkM_J h1' h512' hI hlt (by rw [HJ.out]; simp [hst]) hJ]; rfl, hbw'⟩
            · rw [hst] at hcell'
              go_wp2_with fail
              go_roundw
              case rel => exact ⟨j + 1, by omega, by go_num, lt_step hJ (by rw [HJ.out]; simp [hst, htl]), hb3'⟩
              case measure => simp [intOf]; omega
        · obtain rfl : j = l.length := by omega
          obtain ⟨b, o, rfl, hb, c0, c1, c2, c3, c4⟩ := h.insn hel
          have hse := fun w => sem_any (at' l (lastN l)) (at_ok hl (lastN l)) w
          have hE := checkM_E h1' h512' hI hJ
          have he : endB l = ((sem (at' l (lastN l))).1.kind == 12 || (sem (at' l (lastN l))).1.kind == 9) := rfl
          have HE := Lib.hid (hE.trans (by rw [he]))
          clear hE he
          go_wp2_with fail
          refine (hse _).mono ?_
          rintro e w3 ⟨rfl, hb3⟩
          have hbw' := hbw.trans (hb3.mono hbw.size)
          generalize sem (at' l (lastN l)) = r at *
          obtain ⟨⟨r0, r1, r2, r3, r4, r5⟩, rb⟩ := r
          simp only at *
          have hfin : Below w.heap.size w (w3.alloc (.cells #[.int .u8 r0, .int .u8 r1, .bool r2, .bool r3, .bool r4, .int .i64 r5] 44)) := hbw'.alloc hbw'.size _
          by_cases e12 : r0 = 12
          · subst e12
            go_wp2_with fail
            go_ret2
            exact ⟨by rw [HE.out]; rfl, hfin⟩
          by_cases e9 : r0 = 9
          · subst e9
            go_wp2_with fail
            go_ret2
            exact ⟨by rw [HE.out]; rfl, hfin⟩
          · have q12 : (r0 != 12) = true := by simp [e12]
            have q9 : (r0 != 9) = true := by simp [e9]
            go_wp2_with fail
            go_ret2
            exact ⟨by rw [HE.out, if_neg (by simp [e12, e9])]; rfl, hfin⟩
end Go.Proofs.Ytgbmeckhagklnaa
