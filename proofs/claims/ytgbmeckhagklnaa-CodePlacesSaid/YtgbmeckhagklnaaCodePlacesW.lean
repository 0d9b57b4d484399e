/- The law CodePlaces, walked. No statement is proved here. -/
import Derived.Test.YtgbmeckhagklnaaRLists
namespace Go.Proofs.Ytgbmeckhagklnaa
open Go.RowKit
set_option linter.unusedSimpArgs false
set_option linter.unusedVariables false
set_option linter.unnecessarySimpa false
theorem below_on' {B : Nat} {W w w' : World} (h : Below B W w) (hn : B ≤ W.heap.size) (hb : Below w.heap.size w w') : Below B W w' := h.trans (hb.mono (Nat.le_trans hn h.size))
set_option maxRecDepth 100000 in
set_option maxHeartbeats 16000000 in
theorem codePlaces_walk (l : List Insn) (hl : ∀ x ∈ l, x.Ok) (A : Option Addr) (c : Nat) (hc : l.length ≤ c) (hc' : c ≤ maxLen) (i : Int) (hi0 : -9223372036854775808 ≤ i) (hi1 : i ≤ 9223372036854775807) (w : World) (h : SAt w w.heap.size 5 A l.length (insnsV l)) :
    Calls Try.prog 12 #[.slice A l.length c, .int .i64 i] w fun e w' => e = .returned (.bool true) ∧ Below w.heap.size w w' := by
  have hf := few_is l A c hc hc'
  have hm := h.few 520
  have hml : ∀ x ∈ l.take 520, x.Ok := fun x hx => hl x (List.mem_of_mem_take hx)
  have hmn : (l.take 520).length ≤ 520 := by simp; omega
  have hfew : ∀ w1, Below w.heap.size w w1 → Calls Try.prog 43 #[.slice A l.length c] w1 fun e w' => e = .returned (.slice A (l.take 520).length c) ∧ w' = w1 := fun w1 hb1 => hf w1 ((h.below hb1).more hb1.size)
  clear hf
  generalize l.take 520 = m at *
  clear h hl hc hc'
  have hs1 := fun w1 (hb : Below w.heap.size w w1) => starts_any m A c (by omega) w1 ((hm.below hb).more hb.size)
  have hs2 := fun w1 (hb : Below w.heap.size w w1) => rstarts_any m A c (by omega) w1 ((hm.below hb).more hb.size)
  have ht1 := fun (k : Int) (h0 : -9223372036854775808 ≤ k) (h1 : k ≤ 9223372036854775807) w1 (hb : Below w.heap.size w w1) => target_any m hml A c (by omega) k h0 h1 w1 ((hm.below hb).more hb.size)
  have ht2 := fun (k : Int) (h0 : -9223372036854775808 ≤ k) (h1 : k ≤ 9223372036854775807) w1 (hb : Below w.heap.size w w1) => rtarget_any m hml A c (by omega) k h0 h1 w1 ((hm.below hb).more hb.size)
  have hn1 := fun (k : Int) (h0 : -9223372036854775808 ≤ k) (h1 : k ≤ 9223372036854775807) w1 (hb : Below w.heap.size w w1) => next_any m A c k (by omega) h0 h1 w1 ((hm.below hb).more hb.size)
  have hn2 := fun (k : Int) (h0 : -9223372036854775808 ≤ k) (h1 : k ≤ 9223372036854775807) w1 (hb : Below w.heap.size w w1) => rnext_any m A c k (by omega) h0 h1 w1 ((hm.below hb).more hb.size)
  clear hm hml
  go_enter Try.func12, Try.ntmps12
  go_wp2_with fail
  refine (shown07_any _).mono ?_
  rintro e w1 ⟨rfl, hb1⟩
  go_wp2_with fail
  refine (hfew _ hb1).mono ?_
  rintro e w1' ⟨rfl, rfl⟩
  clear hfew
  go_wp2_with fail
  refine (hs1 _ hb1).mono ?_
  rintro e w2 ⟨SA, sc, rfl, hsa, hb2⟩
  have hb12 := hb1.trans (hb2.mono hb1.size)
  go_wp2_with fail
  refine (hs2 _ hb12).mono ?_
  rintro e w3 ⟨SC, sd, rfl, hsc, hb3⟩
  have hb13 := hb12.trans (hb3.mono hb12.size)
  have hsa3 := (hsa.below hb3).more hb3.size
  clear hs1 hs2 hsa
  go_wp2_with fail
  go_loopw [32] (fun k wr => ∃ (j : Nat), j ≤ m.length ∧ k = .int .i64 j ∧ Below w3.heap.size w3 wr) (fun k _ => m.length - (intOf k).toNat)
  case atStart => exact ⟨0, by omega, rfl, Below.refl _ _⟩
  case round =>
    obtain ⟨j, hj, rfl, hbr⟩ := hrel
    have hbw := hb13.trans (hbr.mono hb13.size)
    rcases Nat.lt_or_ge j m.length with hlt | hge
    · obtain ⟨p, o, rfl, hp, hfa⟩ := hsa3.flag (by omega)
      obtain ⟨q, o', rfl, hq, hfc⟩ := hsc.flag (by omega)
      have ca := hfa j hlt
      have cc := hfc j hlt
      have t1 := ht1 j (by omega) (by omega) _ hbw
      have t2 := ht2 j (by omega) (by omega)
      have n1 := hn1 j (by omega) (by omega)
      have n2 := hn2 j (by omega) (by omega)
      clear ht1 ht2 hn1 hn2 hfa hfc hsa3 hsc
      generalize SB m j = s at *
      generalize targetM m j = tm at *
      obtain ⟨t0, tb⟩ := tm
      simp only at t1 t2
      generalize nextI m j = nx at *
      go_wp2_with fail
      refine t1.mono ?_
      rintro e w4 ⟨rfl, hb4⟩
      clear t1
      have hbr4 := hbr.trans (hb4.mono hbr.size)
      have hbw4 := hb13.trans (hbr4.mono hb13.size)
      replace t2 := t2 _ hbw4
      go_wp2_with fail
      refine t2.mono ?_
      rintro e w5 ⟨rfl, hb5⟩
      clear t2
      have hbr5 := hbr4.trans (hb5.mono hbr4.size)
      have hbw5 := hb13.trans (hbr5.mono hb13.size)
      replace n1 := fun w1 (hb : Below w5.heap.size w5 w1) => n1 w1 (hbw5.trans (hb.mono hbw5.size))
      replace n2 := fun w1 (hb : Below w5.heap.size w5 w1) => n2 w1 (hbw5.trans (hb.mono hbw5.size))
      replace ca := fun w1 (hb : Below w5.heap.size w5 w1) => ca w1 (hbr5.trans (hb.mono hbr5.size))
      replace cc := fun w1 (hb : Below w5.heap.size w5 w1) => cc w1 (hbr5.trans (hb.mono hbr5.size))
      have hB5 := Below.refl w5.heap.size w5
      have hj1 : (j : Int) < (m.length : Int) := by omega
      have hs0 : (s != s) = false := by simp
      clear hb1 hb2 hb3 hb12 hbw hb4 hb5 hbr4 hbw4
      go_wp2_with fail
      go_region_held3 (fun w' => Below w5.heap.size w5 w') (with_reducible repeat (first | assumption | refine sbelow_drew ?_)) (first | (go_at_call 41; refine (n1 _ (by assumption)).mono ?_; rintro e w' ⟨rfl, hb⟩; have hS := below_on' (by assumption) (Nat.le_refl _) hb) | (go_at_call 48; refine (n2 _ (by assumption)).mono ?_; rintro e w' ⟨rfl, hb⟩; have hS := below_on' (by assumption) (Nat.le_refl _) hb))
      all_goals
        go_wp2_with fail
        go_roundw
        case rel =>
          refine ⟨j + 1, by omega, by go_num, hbr5.trans (Below.mono ?_ hbr5.size)⟩
          (with_reducible repeat (first | assumption | refine sbelow_drew ?_))
        case measure => simp [intOf]; omega
    · have t1 := ht1 i hi0 hi1 _ hbw
      have t2 := ht2 i hi0 hi1
      have n1 := hn1 i hi0 hi1
      have n2 := hn2 i hi0 hi1
      clear ht1 ht2 hn1 hn2 hsa3 hsc
      generalize targetM m i = tm at *
      obtain ⟨t0, tb⟩ := tm
      simp only at t1 t2
      generalize nextI m i = nx at *
      go_wp2_with fail
      refine t1.mono ?_
      rintro e w4 ⟨rfl, hb4⟩
      have hbw4 := hbw.trans (hb4.mono hbw.size)
      go_wp2_with fail
      refine (t2 _ hbw4).mono ?_
      rintro e w5 ⟨rfl, hb5⟩
      have hbw5 := hbw4.trans (hb5.mono hbw4.size)
      go_wp2_with fail
      refine (n1 _ hbw5).mono ?_
      rintro e w6 ⟨rfl, hb6⟩
      have hbw6 := hbw5.trans (hb6.mono hbw5.size)
      go_wp2_with fail
      refine (n2 _ hbw6).mono ?_
      rintro e w7 ⟨rfl, hb7⟩
      have hbw7 := hbw6.trans (hb7.mono hbw6.size)
      clear t1 t2 n1 n2
      go_wp2_with fail
      go_ret
      exact ⟨by simp, hbw7⟩
end Go.Proofs.Ytgbmeckhagklnaa
