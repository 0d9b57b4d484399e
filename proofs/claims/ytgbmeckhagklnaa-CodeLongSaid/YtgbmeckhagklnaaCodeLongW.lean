/- The law CodeLong, walked. No statement is proved here. -/
import Derived.Test.YtgbmeckhagklnaaShown
namespace Go.Proofs.Ytgbmeckhagklnaa
open Go.RowKit
set_option linter.unusedSimpArgs false
set_option linter.unusedVariables false
set_option linter.unnecessarySimpa false
theorem cnt_all (l : List Insn) {i : Nat} (h : l.length ≤ i) : True := trivial
theorem decM_few {b : List Int} (h : (decM b).2.2 = 0) : (decM b).2.1 = 0 := by
  unfold decM at *
  split at h
  · simp at h
  · rename_i hn
    rw [if_neg hn]
    split at h
    · rename_i hc; rw [if_pos hc]
    · simp at h; contradiction
theorem slice_upto (A : Option Addr) (n c m : Nat) (hc : c ≤ maxLen) (hm : m ≤ c) (w : World) : (Instr.slice 26 (.slice A n c) none (some (.int .i64 (m : Int))) none).run Try.prog w = .ok (.slice A m c) w := by
  unfold maxLen at hc
  have h0 : (m : Int) ≤ (c : Int) := by omega
  simp [go_sem, Instr.slice, h0]
set_option maxRecDepth 1000000 in
set_option maxHeartbeats 8000000 in
theorem codeLong_walk (l : List Int) (hl : ∀ b ∈ l, isByte b) (A : Option Addr) (c : Nat) (hc : l.length ≤ c) (hc' : c ≤ maxLen) (w : World) (h : SAt w w.heap.size 1 A l.length (bytesV l)) :
    Calls Try.prog 10 #[.slice A l.length c] w fun e w' => e = .returned (.bool true) ∧ Below w.heap.size w w' := by
  have hc'' := hc'
  unfold maxLen at hc''
  have ht : (l.take 4200).length = min 4200 l.length := by simp
  have htl : ∀ b ∈ l.take 4200, isByte b := fun b hb => hl b (List.mem_of_mem_take hb)
  have hcut := h.cut (k := (l.take 4200).length) (by simp; omega)
  have hcut' : SAt w w.heap.size 1 A (l.take 4200).length (bytesV (l.take 4200)) := by
    have e : (bytesV l).take ((l.take 4200).length * 1) = bytesV (l.take 4200) := by
      rw [bytesV, bytesV, ← List.map_take]
      congr 1
      rw [ht, Nat.mul_one]
      rcases Nat.le_total l.length 4200 with h1 | h1
      · rw [Nat.min_eq_right h1, List.take_of_length_le (Nat.le_refl _), List.take_of_length_le h1]
      · rw [Nat.min_eq_left h1]
    rwa [e] at hcut
  have htc : (l.take 4200).length ≤ c := by rw [ht]; omega
  clear hcut
  generalize hN : l.length = n at *
  have HN := Lib.hid hN
  generalize hB : l.take 4200 = q at *
  have hdec := fun w1 (hb1 : Below w.heap.size w w1) => decode_any q htl A c htc hc' w1 ((hcut'.below hb1).more hb1.size)
  clear hN hB hcut' h hl
  have HT := Lib.hid ht
  clear ht
  have key : ∀ (w1 : World), Below w.heap.size w w1 → ∃ k : Nat, k = min 4200 n ∧ Calls Try.prog 38 #[.slice A k c] w1 (DecOk w1 (decM q)) := fun w1 hb => ⟨q.length, HT.out, hdec w1 hb⟩
  have hsl : 4200 < n → ∀ w, (Instr.slice 26 (.slice A n c) none (some (.int .i64 4200)) none).run Try.prog w = .ok (.slice A 4200 c) w := fun h42 w => by
    have := slice_upto A n c 4200 hc' (by omega) w
    rw [show ((4200 : Nat) : Int) = 4200 from rfl] at this
    exact this
  by_cases h42 : 4200 < n
  · replace hsl := hsl h42
    go_enter Try.func10, Try.ntmps10
    go_wp2_with fail
    refine (shown07_any _).mono ?_
    rintro e w1 ⟨rfl, hb1⟩
    obtain ⟨k, hk, hd⟩ := key w1 hb1
    obtain rfl : k = 4200 := by omega
    clear hk
    have hqk : q.length = 4200 := by have := HT.out; omega
    go_wp2_with fail
    clear hsl
    refine hd.mono ?_
    rintro e w2 ⟨A', c', rfl, hs2, hc2, hb2⟩
    clear hd key
    have hb12 := hb1.trans (hb2.mono hb1.size)
    by_cases he : (decM q).2.2 = 0
    · obtain ⟨-, -, h3, h4, -, h6⟩ := dec_yes htl he
      rw [h3] at hs2 hc2 ⊢
      simp only at hs2 hc2 ⊢
      have hok : ∀ x ∈ insns q, x.Ok := insns_ok (n := q.length / 8) (by omega) htl
      have hp := check_prog h4
      clear h3 h4 he hdec htc
      generalize insns q = m at *
      have h512 := hp.few
      have h1 := hp.pos
      rw [hqk] at h6
      clear hqk htl
      have H6 := Lib.hid h6
      clear h6
      have hcl := cnt_le m
      have hB2 : Below w2.heap.size w2 w2 := Below.refl _ _
      go_wp2_with fail
      go_loopw [8, 9, 10, 11] (fun t8 t9 _ _ wr => ∃ (j : Nat), SB m j = true ∧ j ≤ m.length ∧ t8 = .int .i64 (cntS m j : Nat) ∧ t9 = .int .i64 j ∧ Below w2.heap.size w2 wr) (fun _ t9 _ _ _ => m.length - (intOf t9).toNat)
      case atStart => exact ⟨0, rfl, by omega, rfl, rfl, hB2⟩
      case round =>
        obtain ⟨j, hs, hj, rfl, rfl, hbr⟩ := hrel
        have hcj := hcl j
        have hbw := hb12.trans (hbr.mono hb12.size)
        rcases Nat.lt_or_ge j m.length with hlt | hge
        · obtain ⟨b, o, rfl, hb, c0, c1, c2, c3, c4⟩ := hs2.insn hlt
          have hyes := hp.ok hlt hs
          have hsem := fun w => sem_any (at' m j) (at_ok hok j) w
          have hstep := hp.step_le hlt hs
          have hgt := step_gt m j
          have hcs := cnt_step hs
          clear hcl
          go_wp2_with fail
          refine (hsem _).mono ?_
          rintro e w5 ⟨rfl, hb5⟩
          generalize sem (at' m j) = r at *
          obtain ⟨⟨r0, r1, r2, r3, r4, r5⟩, rb⟩ := r
          simp only at *
          subst hyes
          have hbr5 := hbr.trans (hb5.mono hbr.size)
          have hbr6 := hbr5.alloc hbr5.size (What.obj ⟨r0, r1, r2, r3, r4, r5⟩)
          have hnx := next_at m (some ⟨b, o, none⟩) c' j (by omega) hlt w2 _ hs2 hbr6
          clear hsem
          go_wp2_with fail
          refine hnx.mono ?_
          rintro e w6 ⟨rfl, hb6⟩
          clear hnx
          go_wp2_with fail
          go_roundw
          case rel => exact ⟨stepN m j, SB_step hs, hstep, by rw [hcs]; rfl, rfl, hbr6.trans (hb6.mono hbr6.size)⟩
          case measure => simp [intOf]; omega
        · obtain rfl : j = m.length := by omega
          have hpos := cnt_pos m m.length h1
          have hst := starts_any m A' c' (by omega) _ ((hs2.below hbr).more hbr.size)
          go_wp2_with fail
          refine hst.mono ?_
          rintro e w7 ⟨A2, c2, rfl, hs7, hb7⟩
          clear hst
          have hb17 := hbw.trans (hb7.mono hbw.size)
          obtain ⟨b2, o2, rfl, hb2', hfl⟩ := hs7.flag (by omega)
          go_wp2_with fail
          go_loopw [67, 12, 14] (fun k t12 _ wr => ∃ (j : Nat), j ≤ m.length ∧ k = .int .i64 j ∧ t12 = .int .i64 (cntS m j : Nat) ∧ Below w7.heap.size w7 wr) (fun k _ _ _ => m.length - (intOf k).toNat)
          case atStart => exact ⟨0, by omega, rfl, rfl, Below.refl _ _⟩
          case round =>
            obtain ⟨i, hi, rfl, rfl, hbs⟩ := hrel
            have hci := hcl i
            have hbe := hb17.trans (hbs.mono hb17.size)
            rcases Nat.lt_or_ge i m.length with hlt | hge
            · have hcell := hfl i hlt _ hbs
              cases hs : SB m i
              · rw [hs] at hcell
                go_wp2_with fail
                go_roundw
                case rel => exact ⟨i + 1, by omega, by go_num, by simp [cntS, hs], hbs⟩
                case measure => simp [intOf]; omega
              · rw [hs] at hcell
                go_wp2_with fail
                go_roundw
                case rel => exact ⟨i + 1, by omega, by go_num, by simp [cntS, hs], hbs⟩
                case measure => simp [intOf]; omega
            · obtain rfl : i = m.length := by omega
              clear hcl
              have h6 := H6.out
              go_wp2_with fail
              all_goals
                go_ret
                exact ⟨by rw [decide_eq_true (show (1 : Int) ≤ (cntS m m.length : Nat) by omega)]; rfl, hbe⟩
    · have hm := dec_no he
      generalize decM q = r at *
      obtain ⟨m, r0, r1⟩ := r
      simp only at *
      subst hm
      go_wp2_with fail
      go_ret
      exact ⟨rfl, hb12⟩
  · clear hsl
    go_enter Try.func10, Try.ntmps10
    go_wp2_with fail
    refine (shown07_any _).mono ?_
    rintro e w1 ⟨rfl, hb1⟩
    obtain ⟨k, hk, hd⟩ := key w1 hb1
    obtain rfl : k = n := by omega
    clear hk
    have hqk : q.length = k := by have := HT.out; omega
    go_wp2_with fail
    refine hd.mono ?_
    rintro e w2 ⟨A', c', rfl, hs2, hc2, hb2⟩
    clear hd key
    have hb12 := hb1.trans (hb2.mono hb1.size)
    by_cases he : (decM q).2.2 = 0
    · obtain ⟨-, -, h3, h4, -, h6⟩ := dec_yes htl he
      rw [h3] at hs2 hc2 ⊢
      simp only at hs2 hc2 ⊢
      have hok : ∀ x ∈ insns q, x.Ok := insns_ok (n := q.length / 8) (by omega) htl
      have hp := check_prog h4
      clear h3 h4 he hdec htc
      generalize insns q = m at *
      have h512 := hp.few
      have h1 := hp.pos
      rw [hqk] at h6
      clear hqk htl
      have H6 := Lib.hid h6
      clear h6
      have hcl := cnt_le m
      have hB2 : Below w2.heap.size w2 w2 := Below.refl _ _
      go_wp2_with fail
      go_loopw [8, 9, 10, 11] (fun t8 t9 _ _ wr => ∃ (j : Nat), SB m j = true ∧ j ≤ m.length ∧ t8 = .int .i64 (cntS m j : Nat) ∧ t9 = .int .i64 j ∧ Below w2.heap.size w2 wr) (fun _ t9 _ _ _ => m.length - (intOf t9).toNat)
      case atStart => exact ⟨0, rfl, by omega, rfl, rfl, hB2⟩
      case round =>
        obtain ⟨j, hs, hj, rfl, rfl, hbr⟩ := hrel
        have hcj := hcl j
        have hbw := hb12.trans (hbr.mono hb12.size)
        rcases Nat.lt_or_ge j m.length with hlt | hge
        · obtain ⟨b, o, rfl, hb, c0, c1, c2, c3, c4⟩ := hs2.insn hlt
          have hyes := hp.ok hlt hs
          have hsem := fun w => sem_any (at' m j) (at_ok hok j) w
          have hstep := hp.step_le hlt hs
          have hgt := step_gt m j
          have hcs := cnt_step hs
          clear hcl
          go_wp2_with fail
          refine (hsem _).mono ?_
          rintro e w5 ⟨rfl, hb5⟩
          generalize sem (at' m j) = r at *
          obtain ⟨⟨r0, r1, r2, r3, r4, r5⟩, rb⟩ := r
          simp only at *
          subst hyes
          have hbr5 := hbr.trans (hb5.mono hbr.size)
          have hbr6 := hbr5.alloc hbr5.size (What.obj ⟨r0, r1, r2, r3, r4, r5⟩)
          have hnx := next_at m (some ⟨b, o, none⟩) c' j (by omega) hlt w2 _ hs2 hbr6
          clear hsem
          go_wp2_with fail
          refine hnx.mono ?_
          rintro e w6 ⟨rfl, hb6⟩
          clear hnx
          go_wp2_with fail
          go_roundw
          case rel => exact ⟨stepN m j, SB_step hs, hstep, by rw [hcs]; rfl, rfl, hbr6.trans (hb6.mono hbr6.size)⟩
          case measure => simp [intOf]; omega
        · obtain rfl : j = m.length := by omega
          have hpos := cnt_pos m m.length h1
          have hst := starts_any m A' c' (by omega) _ ((hs2.below hbr).more hbr.size)
          go_wp2_with fail
          refine hst.mono ?_
          rintro e w7 ⟨A2, c2, rfl, hs7, hb7⟩
          clear hst
          have hb17 := hbw.trans (hb7.mono hbw.size)
          obtain ⟨b2, o2, rfl, hb2', hfl⟩ := hs7.flag (by omega)
          go_wp2_with fail
          go_loopw [67, 12, 14] (fun k t12 _ wr => ∃ (j : Nat), j ≤ m.length ∧ k = .int .i64 j ∧ t12 = .int .i64 (cntS m j : Nat) ∧ Below w7.heap.size w7 wr) (fun k _ _ _ => m.length - (intOf k).toNat)
          case atStart => exact ⟨0, by omega, rfl, rfl, Below.refl _ _⟩
          case round =>
            obtain ⟨i, hi, rfl, rfl, hbs⟩ := hrel
            have hci := hcl i
            have hbe := hb17.trans (hbs.mono hb17.size)
            rcases Nat.lt_or_ge i m.length with hlt | hge
            · have hcell := hfl i hlt _ hbs
              cases hs : SB m i
              · rw [hs] at hcell
                go_wp2_with fail
                go_roundw
                case rel => exact ⟨i + 1, by omega, by go_num, by simp [cntS, hs], hbs⟩
                case measure => simp [intOf]; omega
              · rw [hs] at hcell
                go_wp2_with fail
                go_roundw
                case rel => exact ⟨i + 1, by omega, by go_num, by simp [cntS, hs], hbs⟩
                case measure => simp [intOf]; omega
            · obtain rfl : i = m.length := by omega
              clear hcl
              have h6 := H6.out
              go_wp2_with fail
              all_goals
                go_ret
                exact ⟨by rw [decide_eq_true (show (1 : Int) ≤ (cntS m m.length : Nat) by omega)]; rfl, hbe⟩
    · have hm := dec_no he
      generalize decM q = r at *
      obtain ⟨m, r0, r1⟩ := r
      simp only at *
      subst hm
      go_wp2_with fail
      go_ret
      exact ⟨rfl, hb12⟩
end Go.Proofs.Ytgbmeckhagklnaa
