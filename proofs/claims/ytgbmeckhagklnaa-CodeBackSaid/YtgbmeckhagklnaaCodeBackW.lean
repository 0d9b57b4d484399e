/- The law CodeBack, walked. No statement is proved here. -/
import Derived.Test.YtgbmeckhagklnaaEncode
namespace Go.Proofs.Ytgbmeckhagklnaa
open Go.RowKit
set_option linter.unusedSimpArgs false
set_option linter.unusedVariables false
set_option linter.unnecessarySimpa false
theorem bytes_few (bs : List Int) (hbl : ∀ b ∈ bs, isByte b) (B : Option Addr) (d : Nat) (hd : bs.length ≤ d) (hd' : d ≤ maxLen) (w : World) (hbt : SAt w w.heap.size 1 B bs.length (bytesV bs)) :
    ∃ (q : List Int) (n k : Nat), bs.length = n ∧ k = min 4200 n ∧ q.length = k ∧ (∀ b ∈ q, isByte b) ∧ SAt w w.heap.size 1 B q.length (bytesV q) ∧ (∀ w1, Below w.heap.size w w1 → Calls Try.prog 38 #[.slice B q.length d] w1 (DecOk w1 (decM q))) := by
  have ht : (bs.take 4200).length = min 4200 bs.length := by simp
  have htl : ∀ b ∈ bs.take 4200, isByte b := fun b hb => hbl b (List.mem_of_mem_take hb)
  have hcut := hbt.cut (k := (bs.take 4200).length) (by simp; omega)
  have hcut' : SAt w w.heap.size 1 B (bs.take 4200).length (bytesV (bs.take 4200)) := by
    have e : (bytesV bs).take ((bs.take 4200).length * 1) = bytesV (bs.take 4200) := by
      rw [bytesV, bytesV, ← List.map_take]
      congr 1
      rw [ht, Nat.mul_one]
      rcases Nat.le_total bs.length 4200 with h1 | h1
      · rw [Nat.min_eq_right h1, List.take_of_length_le (Nat.le_refl _), List.take_of_length_le h1]
      · rw [Nat.min_eq_left h1]
    rwa [e] at hcut
  exact ⟨bs.take 4200, bs.length, _, rfl, rfl, ht, htl, hcut', fun w1 hb1 => decode_any _ htl B d (by rw [ht]; omega) hd' w1 ((hcut'.below hb1).more hb1.size)⟩
theorem slice_upto (A : Option Addr) (n c m : Nat) (hc : c ≤ maxLen) (hm : m ≤ c) (w : World) : (Instr.slice 26 (.slice A n c) none (some (.int .i64 (m : Int))) none).run Try.prog w = .ok (.slice A m c) w := by
  unfold maxLen at hc
  have h0 : (m : Int) ≤ (c : Int) := by omega
  simp [go_sem, Instr.slice, h0]
set_option maxRecDepth 1000000 in
set_option maxHeartbeats 16000000 in
theorem codeBack_walk (l : List Insn) (hl : ∀ x ∈ l, x.Ok) (A : Option Addr) (c : Nat) (hc : l.length ≤ c) (hc' : c ≤ maxLen) (bs : List Int) (hbl : ∀ b ∈ bs, isByte b) (B : Option Addr) (d : Nat) (hd : bs.length ≤ d) (hd' : d ≤ maxLen) (w : World)
    (h : SAt w w.heap.size 5 A l.length (insnsV l)) (hbt : SAt w w.heap.size 1 B bs.length (bytesV bs)) :
    Calls Try.prog 15 #[.slice A l.length c, .slice B bs.length d] w fun e w' => e = .returned (.bool true) ∧ Below w.heap.size w w' := by
  obtain ⟨q, n, k, hn, hk, hqk, hqb, hqs, hqd⟩ := bytes_few bs hbl B d hd hd' w hbt
  rw [hn]
  have hdn : n ≤ d := by omega
  have hd'' := hd'
  unfold maxLen at hd''
  clear hn hbt hbl hd
  have hf := few_is l A c hc hc'
  have hm := h.few 520
  have hml : ∀ x ∈ l.take 520, x.Ok := fun x hx => hl x (List.mem_of_mem_take hx)
  have hmn : (l.take 520).length ≤ 520 := by simp; omega
  have hfew : ∀ w1, Below w.heap.size w w1 → Calls Try.prog 43 #[.slice A l.length c] w1 fun e w' => e = .returned (.slice A (l.take 520).length c) ∧ w' = w1 := fun w1 hb1 => hf w1 ((h.below hb1).more hb1.size)
  clear hf
  generalize l.take 520 = m at *
  clear h hl hc
  have hsl : 4200 < n → ∀ w, (Instr.slice 26 (.slice B n d) none (some (.int .i64 4200)) none).run Try.prog w = .ok (.slice B 4200 d) w := fun h42 w => by
    have := slice_upto B n d 4200 hd' (by omega) w
    rw [show ((4200 : Nat) : Int) = 4200 from rfl] at this
    exact this
  have HK := Lib.hid hk
  have HQ := Lib.hid hqk
  clear hk hqk
  go_enter Try.func15, Try.ntmps15
  go_wp2_with fail
  refine (shown07_any _).mono ?_
  rintro e w1 ⟨rfl, hb1⟩
  go_wp2_with fail
  refine (hfew _ hb1).mono ?_
  rintro e w1' ⟨rfl, rfl⟩
  have hen := encode_any m hml A c (by omega) w1' ((hm.below hb1).more hb1.size)
  go_wp2_with fail
  refine hen.mono ?_
  rintro e w2 ⟨P, pc, rfl, hps, hpc, hpm, hb2⟩
  clear hen
  have hb12 := hb1.trans (hb2.mono hb1.size)
  by_cases he : (checkM m).2 = 0
  · have hz := check_zero he
    have hE : encM m = (encL m, 0, 0) := by unfold encM; rw [if_pos he]
    have hD := back_one hml he
    have hreg := (check_prog he).all_regs
    have hby := encL_ok hml hreg
    rw [hE] at hps hpc ⊢
    simp only at hps hpc ⊢
    have hde := decode_any (encL m) hby P pc hpc hpm w2 hps
    rw [hD] at hde
    clear hE hD hby hreg hps hpc hpm he
    generalize (encL m).length = pn at *
    go_wp2_with fail
    refine hde.mono ?_
    rintro e w3 ⟨D, dc, rfl, hds, hdc, hb3⟩
    clear hde
    have hb13 := hb12.trans (hb3.mono hb12.size)
    go_wp2_with fail
    refine (hfew _ hb13).mono ?_
    rintro e w3' ⟨rfl, rfl⟩
    have hck := check_any m hml A c (by omega) w3' ((hm.below hb13).more hb13.size)
    rw [hz] at hck
    clear hz
    simp only at hds hdc ⊢
    go_wp2_with fail
    refine hck.mono ?_
    rintro e w4 ⟨rfl, hb4⟩
    clear hck
    have hb14 := hb13.trans (hb4.mono hb13.size)
    go_wp2_with fail
    refine (hfew _ hb14).mono ?_
    rintro e w4' ⟨rfl, rfl⟩
    have hsm := same_any m m D A dc c (by omega) (by omega) w4' ((hds.below hb4).more hb4.size) ((hm.below hb14).more hb14.size)
    rw [decide_eq_true rfl] at hsm
    go_wp2_with fail
    refine hsm.mono ?_
    rintro e w5 ⟨rfl, hb5⟩
    clear hsm hds hdc
    have hb15 := hb14.trans (hb5.mono hb14.size)
    clear hb2 hb3 hb4 hb5 hb12 hb13 hb14 hfew hm hml hmn
    by_cases h42 : 4200 < n
    · replace hsl := hsl h42
      have HL := Lib.hid (show q.length = 4200 by have := HK.out; have := HQ.out; omega)
      go_wp2_with fail
      clear hsl
      have hde := hqd w5 hb15
      rw [HL.out] at hde
      clear hqd
      go_wp2_with fail
      refine hde.mono ?_
      rintro e w6 ⟨F, fc, rfl, hfs, hfc, hb6⟩
      clear hde
      have hb16 := hb15.trans (hb6.mono hb15.size)
      by_cases hh : (decM q).2.2 = 0
      · obtain ⟨-, -, h3, h4, h5, h6⟩ := dec_yes hqb hh
        have hok : ∀ x ∈ insns q, x.Ok := insns_ok (n := q.length / 8) (by omega) hqb
        have hlim := (check_prog h4).few
        rw [h3] at hfs hfc ⊢
        simp only at hfs hfc ⊢
        have hen := encode_any (insns q) hok F fc (by omega) w6 hfs
        rw [h5] at hen
        clear h3 h4 h5 h6 hh hok hlim hfs hfc
        go_wp2_with fail
        refine hen.mono ?_
        rintro e w7 ⟨G, gc, rfl, hgs, hgc, hgm, hb7⟩
        clear hen
        have hb17 := hb16.trans (hb7.mono hb16.size)
        simp only at hgs hgc ⊢
        have hs1 := run_string_sat (P := Try.prog) (c := gc) q hgs 26 9 5 Try.underlying26 Try.underlying5 Try.underlying9
        have hs2 := run_string_sat (P := Try.prog) (c := d) q (hqs.below hb17) 26 9 5 Try.underlying26 Try.underlying5 Try.underlying9
        rw [HL.out] at hs1 hs2 ⊢
        clear hgs hgc hgm hqb hqs
        generalize strOfNums q = ss at *
        go_wp2_with fail
        go_ret
        exact ⟨rfl, hb17⟩
      · have hnil := dec_no hh
        generalize decM q = r at *
        obtain ⟨m2, s0, s1⟩ := r
        simp only at hnil hh hfs hfc ⊢
        subst hnil
        simp only [List.length_nil] at hfs hfc ⊢
        have hen := encode_any [] (fun x hx => absurd hx (List.not_mem_nil)) F fc (by simp) w6 hfs
        rw [show encM [] = ([], 0, 70) by decide +kernel] at hen
        simp only [List.length_nil] at hen
        clear hfs hfc hqs
        go_wp2_with fail
        refine hen.mono ?_
        rintro e w7 ⟨G, gc, rfl, hgs, hgc, hgm, hb7⟩
        clear hen hgs hgc hgm
        have hb17 := hb16.trans (hb7.mono hb16.size)
        go_wp2_with fail
        go_ret
        exact ⟨rfl, hb17⟩
    · clear hsl
      have HL := Lib.hid (show q.length = n by have := HK.out; have := HQ.out; omega)
      go_wp2_with fail
      have hde := hqd w5 hb15
      rw [HL.out] at hde
      clear hqd
      go_wp2_with fail
      refine hde.mono ?_
      rintro e w6 ⟨F, fc, rfl, hfs, hfc, hb6⟩
      clear hde
      have hb16 := hb15.trans (hb6.mono hb15.size)
      by_cases hh : (decM q).2.2 = 0
      · obtain ⟨-, -, h3, h4, h5, h6⟩ := dec_yes hqb hh
        have hok : ∀ x ∈ insns q, x.Ok := insns_ok (n := q.length / 8) (by omega) hqb
        have hlim := (check_prog h4).few
        rw [h3] at hfs hfc ⊢
        simp only at hfs hfc ⊢
        have hen := encode_any (insns q) hok F fc (by omega) w6 hfs
        rw [h5] at hen
        clear h3 h4 h5 h6 hh hok hlim hfs hfc
        go_wp2_with fail
        refine hen.mono ?_
        rintro e w7 ⟨G, gc, rfl, hgs, hgc, hgm, hb7⟩
        clear hen
        have hb17 := hb16.trans (hb7.mono hb16.size)
        simp only at hgs hgc ⊢
        have hs1 := run_string_sat (P := Try.prog) (c := gc) q hgs 26 9 5 Try.underlying26 Try.underlying5 Try.underlying9
        have hs2 := run_string_sat (P := Try.prog) (c := d) q (hqs.below hb17) 26 9 5 Try.underlying26 Try.underlying5 Try.underlying9
        rw [HL.out] at hs1 hs2 ⊢
        clear hgs hgc hgm hqb hqs
        generalize strOfNums q = ss at *
        go_wp2_with fail
        go_ret
        exact ⟨rfl, hb17⟩
      · have hnil := dec_no hh
        generalize decM q = r at *
        obtain ⟨m2, s0, s1⟩ := r
        simp only at hnil hh hfs hfc ⊢
        subst hnil
        simp only [List.length_nil] at hfs hfc ⊢
        have hen := encode_any [] (fun x hx => absurd hx (List.not_mem_nil)) F fc (by simp) w6 hfs
        rw [show encM [] = ([], 0, 70) by decide +kernel] at hen
        simp only [List.length_nil] at hen
        clear hfs hfc hqs
        go_wp2_with fail
        refine hen.mono ?_
        rintro e w7 ⟨G, gc, rfl, hgs, hgc, hgm, hb7⟩
        clear hen hgs hgc hgm
        have hb17 := hb16.trans (hb7.mono hb16.size)
        go_wp2_with fail
        go_ret
        exact ⟨rfl, hb17⟩
  · have hE : encM m = ([], (checkM m).1, (checkM m).2) := by unfold encM; rw [if_neg he]
    rw [hE] at hps hpc ⊢
    simp only [List.length_nil] at hps hpc ⊢
    have hde := decode_any [] (fun b hb => absurd hb (List.not_mem_nil)) P pc hpc hpm w2 hps
    rw [show decM [] = ([], 0, 70) by decide +kernel] at hde
    simp only [List.length_nil] at hde
    clear hE hps hpc hpm
    go_wp2_with fail
    refine hde.mono ?_
    rintro e w3 ⟨D, dc, rfl, hds, hdc, hb3⟩
    clear hde
    have hb13 := hb12.trans (hb3.mono hb12.size)
    simp only [List.length_nil] at hds hdc ⊢
    go_wp2_with fail
    refine (hfew _ hb13).mono ?_
    rintro e w3' ⟨rfl, rfl⟩
    have hck := check_any m hml A c (by omega) w3' ((hm.below hb13).more hb13.size)
    generalize checkM m = r at *
    obtain ⟨r0, r1⟩ := r
    simp only at he hck ⊢
    go_wp2_with fail
    refine hck.mono ?_
    rintro e w5 ⟨rfl, hb5⟩
    clear hck hds hdc
    have hb15 := hb13.trans (hb5.mono hb13.size)
    clear hb2 hb3 hb5 hb12 hb13 hfew hm hml hmn
    by_cases h42 : 4200 < n
    · replace hsl := hsl h42
      have HL := Lib.hid (show q.length = 4200 by have := HK.out; have := HQ.out; omega)
      go_wp2_with fail
      clear hsl
      have hde := hqd w5 hb15
      rw [HL.out] at hde
      clear hqd
      go_wp2_with fail
      refine hde.mono ?_
      rintro e w6 ⟨F, fc, rfl, hfs, hfc, hb6⟩
      clear hde
      have hb16 := hb15.trans (hb6.mono hb15.size)
      by_cases hh : (decM q).2.2 = 0
      · obtain ⟨-, -, h3, h4, h5, h6⟩ := dec_yes hqb hh
        have hok : ∀ x ∈ insns q, x.Ok := insns_ok (n := q.length / 8) (by omega) hqb
        have hlim := (check_prog h4).few
        rw [h3] at hfs hfc ⊢
        simp only at hfs hfc ⊢
        have hen := encode_any (insns q) hok F fc (by omega) w6 hfs
        rw [h5] at hen
        clear h3 h4 h5 h6 hh hok hlim hfs hfc
        go_wp2_with fail
        refine hen.mono ?_
        rintro e w7 ⟨G, gc, rfl, hgs, hgc, hgm, hb7⟩
        clear hen
        have hb17 := hb16.trans (hb7.mono hb16.size)
        simp only at hgs hgc ⊢
        have hs1 := run_string_sat (P := Try.prog) (c := gc) q hgs 26 9 5 Try.underlying26 Try.underlying5 Try.underlying9
        have hs2 := run_string_sat (P := Try.prog) (c := d) q (hqs.below hb17) 26 9 5 Try.underlying26 Try.underlying5 Try.underlying9
        rw [HL.out] at hs1 hs2 ⊢
        clear hgs hgc hgm hqb hqs
        generalize strOfNums q = ss at *
        go_wp2_with fail
        go_ret
        exact ⟨rfl, hb17⟩
      · have hnil := dec_no hh
        generalize decM q = r at *
        obtain ⟨m2, s0, s1⟩ := r
        simp only at hnil hh hfs hfc ⊢
        subst hnil
        simp only [List.length_nil] at hfs hfc ⊢
        have hen := encode_any [] (fun x hx => absurd hx (List.not_mem_nil)) F fc (by simp) w6 hfs
        rw [show encM [] = ([], 0, 70) by decide +kernel] at hen
        simp only [List.length_nil] at hen
        clear hfs hfc hqs
        go_wp2_with fail
        refine hen.mono ?_
        rintro e w7 ⟨G, gc, rfl, hgs, hgc, hgm, hb7⟩
        clear hen hgs hgc hgm
        have hb17 := hb16.trans (hb7.mono hb16.size)
        go_wp2_with fail
        go_ret
        exact ⟨rfl, hb17⟩
    · clear hsl
      have HL := Lib.hid (show q.length = n by have := HK.out; have := HQ.out; omega)
      go_wp2_with fail
      have hde := hqd w5 hb15
      rw [HL.out] at hde
      clear hqd
      go_wp2_with fail
      refine hde.mono ?_
      rintro e w6 ⟨F, fc, rfl, hfs, hfc, hb6⟩
      clear hde
      have hb16 := hb15.trans (hb6.mono hb15.size)
      by_cases hh : (decM q).2.2 = 0
      · obtain ⟨-, -, h3, h4, h5, h6⟩ := dec_yes hqb hh
        have hok : ∀ x ∈ insns q, x.Ok := insns_ok (n := q.length / 8) (by omega) hqb
        have hlim := (check_prog h4).few
        rw [h3] at hfs hfc ⊢
        simp only at hfs hfc ⊢
        have hen := encode_any (insns q) hok F fc (by omega) w6 hfs
        rw [h5] at hen
        clear h3 h4 h5 h6 hh hok hlim hfs hfc
        go_wp2_with fail
        refine hen.mono ?_
        rintro e w7 ⟨G, gc, rfl, hgs, hgc, hgm, hb7⟩
        clear hen
        have hb17 := hb16.trans (hb7.mono hb16.size)
        simp only at hgs hgc ⊢
        have hs1 := run_string_sat (P := Try.prog) (c := gc) q hgs 26 9 5 Try.underlying26 Try.underlying5 Try.underlying9
        have hs2 := run_string_sat (P := Try.prog) (c := d) q (hqs.below hb17) 26 9 5 Try.underlying26 Try.underlying5 Try.underlying9
        rw [HL.out] at hs1 hs2 ⊢
        clear hgs hgc hgm hqb hqs
        generalize strOfNums q = ss at *
        go_wp2_with fail
        go_ret
        exact ⟨rfl, hb17⟩
      · have hnil := dec_no hh
        generalize decM q = r at *
        obtain ⟨m2, s0, s1⟩ := r
        simp only at hnil hh hfs hfc ⊢
        subst hnil
        simp only [List.length_nil] at hfs hfc ⊢
        have hen := encode_any [] (fun x hx => absurd hx (List.not_mem_nil)) F fc (by simp) w6 hfs
        rw [show encM [] = ([], 0, 70) by decide +kernel] at hen
        simp only [List.length_nil] at hen
        clear hfs hfc hqs
        go_wp2_with fail
        refine hen.mono ?_
        rintro e w7 ⟨G, gc, rfl, hgs, hgc, hgm, hb7⟩
        clear hen hgs hgc hgm
        have hb17 := hb16.trans (hb7.mono hb16.size)
        go_wp2_with fail
        go_ret
        exact ⟨rfl, hb17⟩
end Go.Proofs.Ytgbmeckhagklnaa
