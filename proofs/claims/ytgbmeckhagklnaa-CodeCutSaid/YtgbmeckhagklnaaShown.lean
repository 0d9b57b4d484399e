/- Same, few, and the document's examples of layer 7. No statement is proved here. -/
import Derived.Test.YtgbmeckhagklnaaDecode
namespace Go.Proofs.Ytgbmeckhagklnaa
open Go.RowKit
set_option linter.unusedSimpArgs false
set_option linter.unusedVariables false
theorem list_eq_at {a b : List Insn} (hl : a.length = b.length) (h : ∀ i, i < a.length → at' a i = at' b i) : a = b := by
  apply List.ext_getElem hl
  intro i h1 h2
  have := h i h1
  rwa [at_get h1, at_get h2] at this
set_option maxRecDepth 100000 in
set_option maxHeartbeats 4000000 in
theorem same_any (a b : List Insn) (A B : Option Addr) (c d : Nat) (hn : a.length ≤ 100000) (hm : b.length ≤ 100000) (w : World) (ha : SAt w w.heap.size 5 A a.length (insnsV a)) (hb : SAt w w.heap.size 5 B b.length (insnsV b)) :
    Calls Try.prog 40 #[.slice A a.length c, .slice B b.length d] w fun e w' => e = .returned (.bool (decide (a = b))) ∧ Below w.heap.size w w' := by
  by_cases hl : a.length = b.length
  · rw [← hl] at hb hm ⊢
    go_enter Try.func40, Try.ntmps40
    go_wp2_with fail
    go_loopw [5] (fun k wr => ∃ j : Nat, j ≤ a.length ∧ k = .int .i64 j ∧ (∀ i, i < j → at' a i = at' b i) ∧ Below w.heap.size w wr) (fun k _ => a.length - (intOf k).toNat)
    case atStart => exact ⟨0, by omega, rfl, fun i hi => absurd hi (by omega), Below.refl _ _⟩
    case round =>
      obtain ⟨j, hj, rfl, heq, hbr⟩ := hrel
      rcases Nat.lt_or_ge j a.length with hlt | hge
      · obtain ⟨p, o, rfl, hp, c0, c1, c2, c3, c4⟩ := ha.insn hlt
        obtain ⟨q, o', rfl, hq, d0, d1, d2, d3, d4⟩ := SAt.insn (l := b) (by rw [← hl]; exact hb) (show j < b.length by omega)
        replace c0 := c0 _ hbr
        replace c1 := c1 _ hbr
        replace c2 := c2 _ hbr
        replace c3 := c3 _ hbr
        replace c4 := c4 _ hbr
        replace d0 := d0 _ hbr
        replace d1 := d1 _ hbr
        replace d2 := d2 _ hbr
        replace d3 := d3 _ hbr
        replace d4 := d4 _ hbr
        have hne := neq_insn (at' a j) (at' b j)
        have hj1 : (j : Int) < (a.length : Int) := by omega
        by_cases hxy : at' a j = at' b j
        · have hd : decide (at' a j = at' b j) = true := by simp [hxy]
          rw [hd] at hne
          clear hd
          go_wp2_with fail
          go_quiet (fail)
          go_wp2_with fail
          go_roundw
          case rel =>
            refine ⟨j + 1, by omega, by go_num, fun i hi => ?_, below_drewN hbr _⟩
            rcases Nat.lt_or_ge i j with h1 | h1
            · exact heq i h1
            · obtain rfl : i = j := by omega
              exact hxy
          case measure => simp [intOf]; omega
        · have hd : decide (at' a j = at' b j) = false := by simp [hxy]
          rw [hd] at hne
          clear hd
          go_wp2_with fail
          go_quiet (fail)
          go_wp2_with fail
          go_ret
          refine ⟨?_, below_drewN hbr _⟩
          rw [decide_eq_false (show ¬ a = b from fun e => hxy (by rw [e]))]
          rfl
      · go_wp2_with fail
        go_ret
        refine ⟨?_, hbr⟩
        rw [decide_eq_true (show a = b from list_eq_at hl (fun i hi => heq i (by omega)))]
        rfl
  · have hl' : ¬ (a.length : Int) = (b.length : Int) := by omega
    go_enter Try.func40, Try.ntmps40
    go_wp2_with fail
    go_ret
    exact ⟨by rw [decide_eq_false (show ¬ a = b from fun e => hl (by rw [e]))]; rfl, Below.refl _ _⟩
set_option maxRecDepth 100000 in
theorem few_is (l : List Insn) (A : Option Addr) (c : Nat) (hc : l.length ≤ c) (hc' : c ≤ maxLen) (w : World) (h : SAt w w.heap.size 5 A l.length (insnsV l)) :
    Calls Try.prog 43 #[.slice A l.length c] w fun e w' => e = .returned (.slice A (l.take 520).length c) ∧ w' = w := by
  unfold maxLen at hc'
  have ht : (l.take 520).length = min 520 l.length := by simp
  rw [ht]
  generalize hn : l.length = n at *
  have HN := Lib.hid hn
  clear hn ht
  by_cases h0 : 520 < n
  · go_enter Try.func43, Try.ntmps43
    go_wp2_with fail
    go_ret
    refine ⟨?_, rfl⟩
    rw [show min 520 n = 520 by omega]
    rfl
  · go_enter Try.func43, Try.ntmps43
    go_wp2_with fail
    go_ret
    refine ⟨?_, rfl⟩
    rw [show min 520 n = n by omega]
    rfl
def shownB : List Int := [183, 0, 0, 0, 1, 0, 0, 0, 149, 0, 0, 0, 0, 0, 0, 0]
theorem shown_dec1 : decM shownB = ([⟨183, 0, 0, 0, 1⟩, ⟨149, 0, 0, 0, 0⟩], 0, 0) := by decide +kernel
theorem shown_dec2 : decM (shownB.take 8) = ([], 0, 73) := by decide +kernel
set_option maxRecDepth 100000 in
set_option maxHeartbeats 4000000 in
theorem shown07_any (w : World) : Calls Try.prog 37 #[] w fun e w' => e = .returned (.bool true) ∧ Below w.heap.size w w' := by
  have hsat := sat_new w 5 (bytesV shownB).toArray 1 16 rfl
  have hby : ∀ b ∈ shownB, isByte b := by unfold isByte; decide
  have h1 := decode_any shownB hby (some ⟨w.heap.size, 0, none⟩) 16 (by decide) (by decide) (w.alloc (.cells (bytesV shownB).toArray 5)) (hsat.more (by simp))
  rw [shown_dec1] at h1
  go_enter Try.func37, Try.ntmps37
  go_wp2_with fail
  refine Calls.mono h1 ?_
  rintro e w1 ⟨A, c, rfl, hs1, hc1, hb1⟩
  have hsat8 := (hsat.cut (k := 8) (by omega)).below (hb1.mono (by simp))
  have h2 := decode_any (shownB.take 8) (fun b hb => hby b (List.mem_of_mem_take hb)) (some ⟨w.heap.size, 0, none⟩) 16 (by decide) (by decide) w1 (hsat8.more (by have := hb1.size; simp at this; omega))
  rw [shown_dec2] at h2
  go_wp2_with fail
  refine Calls.mono h2 ?_
  rintro e w2 ⟨A2, c2, rfl, hs2, hc2, hb2⟩
  go_wp2_with fail
  have hsat2 := sat_new w2 24 #[.int .u8 183, .int .u8 0, .int .u8 0, .int .i16 0, .int .i32 1, .int .u8 149, .int .u8 0, .int .u8 0, .int .i16 0, .int .i32 0] 5 2 rfl
  have hsat1 := ((hs1.below hb2).more hb2.size).alloc (Nat.le_refl _) (.cells #[.int .u8 183, .int .u8 0, .int .u8 0, .int .i16 0, .int .i32 1, .int .u8 149, .int .u8 0, .int .u8 0, .int .i16 0, .int .i32 0] 24)
  have h3 := same_any [⟨183, 0, 0, 0, 1⟩, ⟨149, 0, 0, 0, 0⟩] [⟨183, 0, 0, 0, 1⟩, ⟨149, 0, 0, 0, 0⟩] A (some ⟨w2.heap.size, 0, none⟩) c 2 (by decide) (by decide) (w2.alloc (.cells #[.int .u8 183, .int .u8 0, .int .u8 0, .int .i16 0, .int .i32 1, .int .u8 149, .int .u8 0, .int .u8 0, .int .i16 0, .int .i32 0] 24)) (hsat1.more (by simp)) (hsat2.more (by simp))
  refine Calls.mono h3 ?_
  rintro e w3 ⟨rfl, hb3⟩
  have hbA : Below w.heap.size w w1 := ((Below.refl _ _).alloc (Nat.le_refl _) _).trans (hb1.mono (by simp))
  have hbB := hbA.trans (hb2.mono hbA.size)
  have hbC := hbB.alloc hbB.size (.cells #[.int .u8 183, .int .u8 0, .int .u8 0, .int .i16 0, .int .i32 1, .int .u8 149, .int .u8 0, .int .u8 0, .int .i16 0, .int .i32 0] 24)
  have hbD := hbC.trans (hb3.mono hbC.size)
  rw [decide_eq_true rfl]
  clear h1 h2 h3 hsat hsat1 hsat2 hsat8 hs1 hs2
  go_wp2_with fail
  go_ret
  exact ⟨rfl, hbD⟩
end Go.Proofs.Ytgbmeckhagklnaa
