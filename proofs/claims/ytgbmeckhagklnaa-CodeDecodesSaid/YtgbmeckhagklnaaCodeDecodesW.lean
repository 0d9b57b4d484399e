/- The law CodeDecodes, walked. No statement is proved here. -/
import Derived.Test.YtgbmeckhagklnaaRLists
namespace Go.Proofs.Ytgbmeckhagklnaa
open Go.RowKit
set_option linter.unusedSimpArgs false
set_option linter.unusedVariables false
set_option linter.unnecessarySimpa false
theorem bytes_few2 (bs : List Int) (hbl : ∀ b ∈ bs, isByte b) (B : Option Addr) (d : Nat) (hd : bs.length ≤ d) (hd' : d ≤ maxLen) (w : World) (hbt : SAt w w.heap.size 1 B bs.length (bytesV bs)) :
    ∃ (q : List Int) (n k : Nat), bs.length = n ∧ k = min 4200 n ∧ q.length = k ∧ (∀ w1, Below w.heap.size w w1 → Calls Try.prog 38 #[.slice B q.length d] w1 (DecOk w1 (decM q))) ∧ (∀ w1, Below w.heap.size w w1 → Calls Try.prog 39 #[.slice B q.length d] w1 (DecOk w1 (decM q))) := by
  have ht : (bs.take 4200).length = min 4200 bs.length := by simp
  have htl : ∀ b ∈ bs.take 4200, isByte b := fun b hb => hbl b (List.mem_of_mem_take hb)
  have hcut := hbt.cut (k := (bs.take 4200).length) (by simp; omega)
  have hcut' : SAt w w.heap.size 1 B (bs.take 4200).length (bytesV (bs.take 4200)) := by
    have e : (bytesV bs).take ((bs.take 4200).length * 1) = bytesV (bs.take 4200) := by
      rw [bytesV, bytesV, ← List.map_take]
      congr 1
      rw [ht, Nat.mul_one]
      rcases Nat.le_total bs.length 4200 with h1 | h1
      · rw [Nat.min_eq_right h1, List.take_of_length_le (Nat.le_refl _), List.take_of_length_le h1]
      · rw [Nat.min_eq_left h1]
    rwa [e] at hcut
  exact ⟨bs.take 4200, bs.length, _, rfl, rfl, ht, fun w1 hb1 => decode_any _ htl B d (by rw [ht]; omega) hd' w1 ((hcut'.below hb1).more hb1.size), fun w1 hb1 => rdecode_any _ htl B d (by rw [ht]; omega) hd' w1 ((hcut'.below hb1).more hb1.size)⟩
theorem slice_upto2 (A : Option Addr) (n c m : Nat) (hc : c ≤ maxLen) (hm : m ≤ c) (w : World) : (Instr.slice 26 (.slice A n c) none (some (.int .i64 (m : Int))) none).run Try.prog w = .ok (.slice A m c) w := by
  unfold maxLen at hc
  have h0 : (m : Int) ≤ (c : Int) := by omega
  simp [go_sem, Instr.slice, h0]
theorem dec_len (q : List Int) (h : q.length ≤ 4200) : (decM q).1.length ≤ 1000 := by
  unfold decM
  split
  · simp
  · rename_i hn
    split
    · have := insns_len (b := q) (by omega)
      simp only
      omega
    · simp
set_option maxRecDepth 1000000 in
set_option maxHeartbeats 16000000 in
theorem codeDecodes_walk (bs : List Int) (hbl : ∀ b ∈ bs, isByte b) (B : Option Addr) (d : Nat) (hd : bs.length ≤ d) (hd' : d ≤ maxLen) (w : World) (hbt : SAt w w.heap.size 1 B bs.length (bytesV bs)) :
    Calls Try.prog 9 #[.slice B bs.length d] w fun e w' => e = .returned (.bool true) ∧ Below w.heap.size w w' := by
  obtain ⟨q, n, k, hn, hk, hqk, hqd, hqr⟩ := bytes_few2 bs hbl B d hd hd' w hbt
  rw [hn]
  have hdn : n ≤ d := by omega
  have hd'' := hd'
  unfold maxLen at hd''
  clear hn hbt hbl hd
  have hsl : 4200 < n → ∀ w, (Instr.slice 26 (.slice B n d) none (some (.int .i64 4200)) none).run Try.prog w = .ok (.slice B 4200 d) w := fun h42 w => by
    have := slice_upto2 B n d 4200 hd' (by omega) w
    rw [show ((4200 : Nat) : Int) = 4200 from rfl] at this
    exact this
  have hlen := dec_len q (by omega)
  generalize decM q = r at *
  obtain ⟨m, r0, r1⟩ := r
  simp only at hlen
  have HK := Lib.hid hk
  have HQ := Lib.hid hqk
  clear hk hqk
  have hB0 := Below.refl w.heap.size w
  by_cases h42 : 4200 < n
  · replace hsl := hsl h42
    have HL := Lib.hid (show q.length = 4200 by have := HK.out; have := HQ.out; omega)
    rw [HL.out] at hqd hqr
    go_enter Try.func9, Try.ntmps9
    go_wp2_with fail
    clear hsl
    refine (hqd _ hB0).mono ?_
    rintro e w1 ⟨F, fc, rfl, hfs, hfc, hb1⟩
    go_wp2_with fail
    refine (hqr _ hb1).mono ?_
    rintro e w2 ⟨G, gc, rfl, hgs, hgc, hb2⟩
    have hb12 := hb1.trans (hb2.mono hb1.size)
    clear hqd hqr
    go_wp2_with fail
    refine (shown07_any _).mono ?_
    rintro e w3 ⟨rfl, hb3⟩
    have hb13 := hb12.trans (hb3.mono hb12.size)
    have hb23 := hb2.trans (hb3.mono hb2.size)
    have hsm := same_any m m F G fc gc (by omega) (by omega) w3 ((hfs.below hb23).more hb23.size) ((hgs.below hb3).more hb3.size)
    rw [decide_eq_true rfl] at hsm
    clear hfs hgs
    go_wp2_with fail
    refine hsm.mono ?_
    rintro e w4 ⟨rfl, hb4⟩
    have hb14 := hb13.trans (hb4.mono hb13.size)
    clear hsm
    go_wp2_with fail
    go_ret
    exact ⟨rfl, hb14⟩
  · clear hsl
    have HL := Lib.hid (show q.length = n by have := HK.out; have := HQ.out; omega)
    rw [HL.out] at hqd hqr
    go_enter Try.func9, Try.ntmps9
    go_wp2_with fail
    refine (hqd _ hB0).mono ?_
    rintro e w1 ⟨F, fc, rfl, hfs, hfc, hb1⟩
    go_wp2_with fail
    refine (hqr _ hb1).mono ?_
    rintro e w2 ⟨G, gc, rfl, hgs, hgc, hb2⟩
    have hb12 := hb1.trans (hb2.mono hb1.size)
    clear hqd hqr
    go_wp2_with fail
    refine (shown07_any _).mono ?_
    rintro e w3 ⟨rfl, hb3⟩
    have hb13 := hb12.trans (hb3.mono hb12.size)
    have hb23 := hb2.trans (hb3.mono hb2.size)
    have hsm := same_any m m F G fc gc (by omega) (by omega) w3 ((hfs.below hb23).more hb23.size) ((hgs.below hb3).more hb3.size)
    rw [decide_eq_true rfl] at hsm
    clear hfs hgs
    go_wp2_with fail
    refine hsm.mono ?_
    rintro e w4 ⟨rfl, hb4⟩
    have hb14 := hb13.trans (hb4.mono hb13.size)
    clear hsm
    go_wp2_with fail
    go_ret
    exact ⟨rfl, hb14⟩
end Go.Proofs.Ytgbmeckhagklnaa
