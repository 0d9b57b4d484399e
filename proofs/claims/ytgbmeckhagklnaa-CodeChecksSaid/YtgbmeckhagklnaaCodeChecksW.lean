/- The law CodeChecks, walked. No statement is proved here. -/
import Derived.Test.YtgbmeckhagklnaaRLists
namespace Go.Proofs.Ytgbmeckhagklnaa
open Go.RowKit
set_option linter.unusedSimpArgs false
set_option linter.unusedVariables false
set_option linter.unnecessarySimpa false
theorem enc_len (m : List Insn) (h : m.length ≤ 520) : (encM m).1.length ≤ 5000 := by
  unfold encM
  split
  · simp only [encL_length]; omega
  · simp
set_option maxRecDepth 100000 in
set_option maxHeartbeats 16000000 in
theorem codeChecks_walk (l : List Insn) (hl : ∀ x ∈ l, x.Ok) (A : Option Addr) (c : Nat) (hc : l.length ≤ c) (hc' : c ≤ maxLen) (w : World) (h : SAt w w.heap.size 5 A l.length (insnsV l)) :
    Calls Try.prog 14 #[.slice A l.length c] w fun e w' => e = .returned (.bool true) ∧ Below w.heap.size w w' := by
  have hf := few_is l A c hc hc'
  have hm := h.few 520
  have hml : ∀ x ∈ l.take 520, x.Ok := fun x hx => hl x (List.mem_of_mem_take hx)
  have hmn : (l.take 520).length ≤ 520 := by simp; omega
  have hfew : Calls Try.prog 43 #[.slice A l.length c] w fun e w' => e = .returned (.slice A (l.take 520).length c) ∧ w' = w := hf w h
  clear hf
  generalize l.take 520 = m at *
  clear h hl hc hc'
  have hlen := enc_len m hmn
  have hc1 := fun w1 (hb : Below w.heap.size w w1) => check_any m hml A c (by omega) w1 ((hm.below hb).more hb.size)
  have hc2 := fun w1 (hb : Below w.heap.size w w1) => rcheck_any m hml A c (by omega) w1 ((hm.below hb).more hb.size)
  have hc3 := fun w1 (hb : Below w.heap.size w w1) => encode_any m hml A c (by omega) w1 ((hm.below hb).more hb.size)
  have hc4 := fun w1 (hb : Below w.heap.size w w1) => rencode_any m hml A c (by omega) w1 ((hm.below hb).more hb.size)
  generalize checkM m = r at *
  obtain ⟨r0, r1⟩ := r
  generalize encM m = s at *
  obtain ⟨s0, s1, s2⟩ := s
  simp only at hlen
  go_enter Try.func14, Try.ntmps14
  go_wp2_with fail
  refine hfew.mono ?_
  rintro e w1' ⟨rfl, rfl⟩
  have hB0 := Below.refl w1'.heap.size w1'
  clear hfew
  go_wp2_with fail
  refine (hc1 _ hB0).mono ?_
  rintro e w1 ⟨rfl, hb1⟩
  go_wp2_with fail
  refine (hc2 _ hb1).mono ?_
  rintro e w2 ⟨rfl, hb2⟩
  have hb12 := hb1.trans (hb2.mono hb1.size)
  go_wp2_with fail
  refine (hc3 _ hb12).mono ?_
  rintro e w3 ⟨P, pc, rfl, hps, hpc, hpm, hb3⟩
  have hb13 := hb12.trans (hb3.mono hb12.size)
  go_wp2_with fail
  refine (hc4 _ hb13).mono ?_
  rintro e w4 ⟨Q, qc, rfl, hqs, hqc, hqm, hb4⟩
  have hb14 := hb13.trans (hb4.mono hb13.size)
  clear hc1 hc2 hc3 hc4
  go_wp2_with fail
  refine (shown07_any _).mono ?_
  rintro e w5 ⟨rfl, hb5⟩
  have hb15 := hb14.trans (hb5.mono hb14.size)
  have hb35 := hb4.trans (hb5.mono hb4.size)
  try simp only at hps hpc hqs hqc
  have hs1 := run_string_sat (P := Try.prog) (c := pc) s0 (hps.below hb35) 26 9 5 Try.underlying26 Try.underlying5 Try.underlying9
  have hs2 := run_string_sat (P := Try.prog) (c := qc) s0 (hqs.below hb5) 26 9 5 Try.underlying26 Try.underlying5 Try.underlying9
  clear hps hqs
  generalize strOfNums s0 = ss at *
  go_wp2_with fail
  go_ret
  exact ⟨rfl, hb15⟩
end Go.Proofs.Ytgbmeckhagklnaa
