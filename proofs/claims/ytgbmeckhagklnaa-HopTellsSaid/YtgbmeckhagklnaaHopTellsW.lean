/- The law HopTells, walked. No statement is proved here. -/
import Derived.Test.YtgbmeckhagklnaaHopD
namespace Go.Proofs.Ytgbmeckhagklnaa
open Go.RowKit
set_option linter.unusedSimpArgs false
set_option linter.unusedVariables false
set_option linter.unnecessarySimpa false
set_option maxRecDepth 100000 in
set_option maxHeartbeats 8000000 in
theorem hopTells_walk (l : List Insn) (hl : ∀ x ∈ l, x.Ok) (A : Option Addr) (c : Nat) (hc : l.length ≤ c) (hc' : c ≤ maxLen) (i : Int) (hi0 : -9223372036854775808 ≤ i) (hi1 : i ≤ 9223372036854775807) (w : World) (h : SAt w w.heap.size 5 A l.length (insnsV l)) :
    Calls Try.prog 17 #[.slice A l.length c, .int .i64 i] w fun e w' => e = .returned (.bool true) ∧ Below w.heap.size w w' := by
  have hf := few21_is l A c hc hc'
  have hm := h.few 100
  have hml : ∀ x ∈ l.take 100, x.Ok := fun x hx => hl x (List.mem_of_mem_take hx)
  have hmn : (l.take 100).length ≤ 100 := by simp; omega
  replace hf := hf w h
  generalize l.take 100 = m at *
  clear h hl hc hc'
  have h1 := fun w1 (hb : Below w.heap.size w w1) => Follow_any m hml A c (by omega) i hi0 hi1 w1 ((hm.below hb).more hb.size)
  have h2 := fun w1 (hb : Below w.heap.size w w1) => rFollow_any m hml A c (by omega) i hi0 hi1 w1 ((hm.below hb).more hb.size)
  have h3 := fun w1 (hb : Below w.heap.size w w1) => edits_any m hml A c (by omega) w1 ((hm.below hb).more hb.size)
  have h4 := fun w1 (hb : Below w.heap.size w w1) => redits_any m hml A c (by omega) w1 ((hm.below hb).more hb.size)
  have hlen := editsM_len m
  generalize editsM m = es at *
  generalize followI m i = fo at *
  go_enter Try.func17, Try.ntmps17
  go_wp2_with fail
  refine hf.mono ?_
  rintro e w0 ⟨rfl, rfl⟩
  clear hf
  go_wp2_with fail
  refine (shown21_any _).mono ?_
  rintro e w1 ⟨rfl, hb1⟩
  go_wp2_with fail
  refine (h1 _ hb1).mono ?_
  rintro e w2 ⟨rfl, hb2⟩
  have hb12 := hb1.trans (hb2.mono hb1.size)
  go_wp2_with fail
  refine (h2 _ hb12).mono ?_
  rintro e w3 ⟨rfl, hb3⟩
  have hb13 := hb12.trans (hb3.mono hb12.size)
  go_wp2_with fail
  refine (h3 _ hb13).mono ?_
  rintro e w4 ⟨B, b, rfl, hsB, hcB, hmB, hb4⟩
  have hb14 := hb13.trans (hb4.mono hb13.size)
  go_wp2_with fail
  refine (h4 _ hb14).mono ?_
  rintro e w5 ⟨C, d, rfl, hsC, hcC, hmC, hb5⟩
  have hb15 := hb14.trans (hb5.mono hb14.size)
  have hsm := sameE_any es es B C b d (by omega) (by omega) w5 ((hsB.below hb5).more hb5.size) hsC
  rw [decide_eq_true rfl] at hsm
  clear h1 h2 h3 h4
  go_wp2_with fail
  refine hsm.mono ?_
  rintro e w6 ⟨rfl, hb6⟩
  have hb16 := hb15.trans (hb6.mono hb15.size)
  clear hsm
  go_wp2_with fail
  go_ret
  exact ⟨rfl, hb16⟩
end Go.Proofs.Ytgbmeckhagklnaa
