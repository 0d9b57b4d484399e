/- The law HopFollows, walked. No statement is proved here. -/
import Derived.Test.YtgbmeckhagklnaaHopD
import Derived.Deep.LoopGhost
namespace Go.Proofs.Ytgbmeckhagklnaa
open Go.RowKit
set_option linter.unusedSimpArgs false
set_option linter.unusedVariables false
set_option linter.unnecessarySimpa false
theorem hop_stop_at {l : List Insn} {i : Nat} (hk : kindM l i ≠ 9) : followM l i = i := follow_stop hk
theorem count_set_true {S : List Bool} {p : Nat} (hp : p < S.length) (hf : S[p] = false) : (S.set p true).count true = S.count true + 1 := by
  rw [List.count_set hp, hf]
  simp
theorem boolsV_set {S : List Bool} {p : Nat} : (boolsV S).set p (.bool true) = boolsV (S.set p true) := by simp [boolsV, List.map_set]
set_option maxRecDepth 100000 in
set_option maxHeartbeats 8000000 in
theorem hopFollows_walk (l : List Insn) (hl : ∀ x ∈ l, x.Ok) (A : Option Addr) (c : Nat) (hc : l.length ≤ c) (hc' : c ≤ maxLen) (i : Int) (hi0 : -9223372036854775808 ≤ i) (hi1 : i ≤ 9223372036854775807) (w : World) (h : SAt w w.heap.size 5 A l.length (insnsV l)) :
    Calls Try.prog 18 #[.slice A l.length c, .int .i64 i] w fun e w' => e = .returned (.bool true) ∧ Below w.heap.size w w' := by
  have hf := few21_is l A c hc hc'
  have hm := h.few 100
  have hml : ∀ x ∈ l.take 100, x.Ok := fun x hx => hl x (List.mem_of_mem_take hx)
  have hmn : (l.take 100).length ≤ 100 := by simp; omega
  replace hf := fun w1 (hb : Below w.heap.size w w1) => hf w1 ((h.below hb).more hb.size)
  generalize l.take 100 = m at *
  clear h hl hc hc'
  have hfo := fun (j : Int) (h0 : -9223372036854775808 ≤ j) (h1 : j ≤ 9223372036854775807) w1 (hb : Below w.heap.size w w1) => Follow_any m hml A c (by omega) j h0 h1 w1 ((hm.below hb).more hb.size)
  have hta := fun (j : Int) (h0 : -9223372036854775808 ≤ j) (h1 : j ≤ 9223372036854775807) w1 (hb : Below w.heap.size w w1) => rtarget_any m hml A c (by omega) j h0 h1 w1 ((hm.below hb).more hb.size)
  have hsem := fun (k : Nat) w => rsem_any (at' m k) (at_ok hml k) w
  by_cases hno : (checkM m).2 ≠ 0 ∨ i < 0 ∨ (m.length : Int) ≤ i ∨ SB m i.toNat = false
  · have h1 := fun w1 hb => hfo i hi0 hi1 w1 hb
    rw [followI_no hno] at h1
    clear hno hfo hta hsem hm hml
    go_enter Try.func18, Try.ntmps18
    go_wp2_with fail
    refine (shown21_any _).mono ?_
    rintro e w1 ⟨rfl, hb1⟩
    go_wp2_with fail
    refine (hf _ hb1).mono ?_
    rintro e w1' ⟨rfl, rfl⟩
    go_wp2_with fail
    refine (h1 _ hb1).mono ?_
    rintro e w2 ⟨rfl, hb2⟩
    have hb12 := hb1.trans (hb2.mono hb1.size)
    clear h1 hf
    go_wp2_with fail
    go_ret
    exact ⟨rfl, hb12⟩
  have he : (checkM m).2 = 0 := by
    by_cases he : (checkM m).2 = 0
    · exact he
    · exact absurd (.inl he) hno
  obtain ⟨k, rfl⟩ := Int.eq_ofNat_of_zero_le (show 0 ≤ i by
    rcases Int.lt_or_le i 0 with h0 | h0
    · exact absurd (.inr (.inl h0)) hno
    · exact h0)
  have hk : k < m.length := by
    rcases Nat.lt_or_ge k m.length with h0 | h0
    · exact h0
    · exact absurd (.inr (.inr (.inl (by omega)))) hno
  have hs : SB m k = true := by
    cases hs : SB m k
    · exact absurd (.inr (.inr (.inr (by rw [Int.toNat_natCast]; exact hs)))) hno
    · rfl
  clear hno
  have hp := check_prog he
  obtain ⟨hfl, hfs⟩ := hp.follow_in hk hs
  have h1 := fun w1 hb => hfo k hi0 hi1 w1 hb
  rw [followI_yes he hk hs] at h1
  have hself : kindM m (followM m k) ≠ 9 → followI m (followM m k) = followM m k := fun hk9 => by rw [followI_yes he hfl hfs, follow_stop hk9]
  have hnext : kindM m k = 9 → kindM m (followM m k) ≠ 9 → ∃ t : Nat, t < m.length ∧ targetM m k = ((t : Int), true) ∧ followI m t = followM m k := fun h9 hk9 => by
    obtain ⟨t, ht, hst, htg, htn⟩ := hp.goes_at hk hs (.inl h9)
    refine ⟨t, ht, htg, ?_⟩
    rw [followI_yes he ht hst, ← htn, follow_next (by omega) h9 hk9]
  have hway : kindM m (followM m k) = 9 → ∀ j, j ≤ m.length → kindM m (wayN m k j) = 9 := fun h => hop_way m.length h
  have hin : kindM m (followM m k) = 9 → ∀ j, j ≤ m.length → wayN m k j < m.length ∧ SB m (wayN m k j) = true := fun h => hp.way_in hk hs (hway h)
  have hstay : kindM m k ≠ 9 → followM m k = k := fun h => follow_stop h
  have hmk := run_make_row' (P := Try.prog) 52 4 (.bool false) 1 Try.underlying52 info4 rfl .i64 .i64 m.length (by omega) (by omega)
  generalize hfd : followM m k = f at *
  obtain ⟨b, o, rfl, hb, -⟩ := hm.insn hk
  obtain ⟨x0, x1, x2, x3, x4⟩ := insn_at hm hk
  obtain ⟨y0, y1, y2, y3, y4⟩ := insn_at hm hfl
  have hsk := hsem k
  have hsf := hsem f
  have hkk : kindM m k = (sem (at' m k)).1.kind := rfl
  have hkf : kindM m f = (sem (at' m f)).1.kind := rfl
  have HKK := Lib.hid hkk
  have HKF := Lib.hid hkf
  clear hkk hkf
  generalize hrk : sem (at' m k) = r at *
  obtain ⟨⟨r0, r1, r2, r3, r4, r5⟩, rb⟩ := r
  generalize hrf : sem (at' m f) = s at *
  obtain ⟨⟨s0, s1, s2, s3, s4, s5⟩, sb⟩ := s
  have hKK : kindM m k = r0 := HKK.out
  have hKF : kindM m f = s0 := HKF.out
  rw [hKK] at hnext hstay
  rw [hKF] at hself hnext hway hin
  have HRK := Lib.hid hrk
  have HKK2 := Lib.hid hKK
  clear hrk hrf hKK hKF HKK HKF hfd HRK
  generalize at' m k = xk at *
  obtain ⟨a0, a1, a2, a3, a4⟩ := xk
  generalize hxf : at' m f = xf at *
  obtain ⟨b0, b1, b2, b3, b4⟩ := xf
  clear hxf
  simp only at x0 x1 x2 x3 x4 y0 y1 y2 y3 y4
  have hk1 : (k : Int) < (m.length : Int) := by omega
  have hf1 : (f : Int) < (m.length : Int) := by omega
  have HSELF := Lib.hid hself
  have HNEXT := Lib.hid hnext
  have HWAY := Lib.hid hway
  have HIN := Lib.hid hin
  have HSTAY := Lib.hid hstay
  clear hself hnext hway hin hstay hfo
  have hfo := fun (j : Int) (h0 : -9223372036854775808 ≤ j) (h1 : j ≤ 9223372036854775807) w1 (hb : Below w.heap.size w w1) => Follow_any m hml (some ⟨b, o, none⟩) c (by omega) j h0 h1 w1 ((hm.below hb).more hb.size)
  go_enter Try.func18, Try.ntmps18
  go_wp2_with fail
  refine (shown21_any _).mono ?_
  rintro e w1 ⟨rfl, hb1⟩
  go_wp2_with fail
  refine (hf _ hb1).mono ?_
  rintro e w1' ⟨rfl, rfl⟩
  clear hf
  go_wp2_with fail
  refine (h1 _ hb1).mono ?_
  rintro e w2 ⟨rfl, hb2⟩
  clear h1
  have hb12 := hb1.trans (hb2.mono hb1.size)
  replace x0 := x0 _ hb12
  replace x1 := x1 _ hb12
  replace x2 := x2 _ hb12
  replace x3 := x3 _ hb12
  replace x4 := x4 _ hb12
  go_wp2_with fail
  refine (hsk _).mono ?_
  rintro e w3 ⟨rfl, hb3⟩
  clear hsk x0 x1 x2 x3 x4
  have hb13 := hb12.trans (hb3.mono hb12.size)
  have hbA := hb13.alloc hb13.size (.cells #[.int .u8 r0, .int .u8 r1, .bool r2, .bool r3, .bool r4, .int .i64 r5] 44)
  obtain ⟨g0, -, -, -, -, -⟩ := box44 (W := w3.alloc (.cells #[.int .u8 r0, .int .u8 r1, .bool r2, .bool r3, .bool r4, .int .i64 r5] 44)) (g := w3.heap.size) (B := w3.heap.size + 1) ⟨r0, r1, r2, r3, r4, r5⟩ (by omega) (heap_alloc_new _ _)
  simp only at g0
  have hs3 : (w3.alloc (.cells #[.int .u8 r0, .int .u8 r1, .bool r2, .bool r3, .bool r4, .int .i64 r5] 44)).heap.size = w3.heap.size + 1 := by simp
  have HS := Lib.hid hs3
  clear hs3
  replace y0 := y0 _ hbA
  replace y1 := y1 _ hbA
  replace y2 := y2 _ hbA
  replace y3 := y3 _ hbA
  replace y4 := y4 _ hbA
  go_wp2_with fail
  generalize hV : w3.alloc (.cells #[.int .u8 r0, .int .u8 r1, .bool r2, .bool r3, .bool r4, .int .i64 r5] 44) = V at *
  refine (hsf _).mono ?_
  rintro e w4 ⟨rfl, hb4⟩
  clear hsf y0 y1 y2 y3 y4
  have hb4' : Below (w3.heap.size + 1) V w4 := hb4.mono (by rw [HS.out]; exact Nat.le_refl _)
  have hbB := hbA.trans (hb4.mono hbA.size)
  have hbB' := hb4'.alloc (Nat.le_trans (by rw [HS.out]; exact Nat.le_refl _) hb4.size) (.cells #[.int .u8 s0, .int .u8 s1, .bool s2, .bool s3, .bool s4, .int .i64 s5] 44)
  have hbC := hbB.alloc hbB.size (.cells #[.int .u8 s0, .int .u8 s1, .bool s2, .bool s3, .bool s4, .int .i64 s5] 44)
  have g0' := g0 _ hbB'
  obtain ⟨z0, -, -, -, -, -⟩ := box44 (W := w4.alloc (.cells #[.int .u8 s0, .int .u8 s1, .bool s2, .bool s3, .bool s4, .int .i64 s5] 44)) (g := w4.heap.size) (B := w4.heap.size + 1) ⟨s0, s1, s2, s3, s4, s5⟩ (by omega) (heap_alloc_new _ _)
  have z0' := z0 _ (Below.refl _ _)
  simp only at z0'
  clear z0 g0
  by_cases e9 : r0 = 9
  · have q9 : (r0 != 9) = false := by simp [e9]
    by_cases f9 : s0 = 9
    · have p9 : (s0 == 9) = true := by simp [f9]
      have hway := HWAY.out f9
      have hin := HIN.out f9
      have HW2 := Lib.hid hway
      have HI2 := Lib.hid hin
      clear hway hin e9 f9 HWAY HIN HNEXT HSELF HSTAY hfo
      subst V
      generalize hU : w4.alloc (.cells #[.int .u8 s0, .int .u8 s1, .bool s2, .bool s3, .bool s4, .int .i64 s5] 44) = U at *
      have hown0 := own_new U U.heap.size (madeCells #[.bool false] m.length) 4 1 m.length m.length w.heap.size rfl hbC.size (Nat.le_refl _) (by simp only [maxLen]; omega) (by simp [madeCells])
      have hm0 : ((madeCells #[Value.bool false] m.length).toList.take (m.length * 1)) = boolsV (List.replicate m.length false) := by
        rw [toList_madeCells_one, Nat.mul_one, List.take_of_length_le (by simp)]
        simp [boolsV]
      rw [hm0] at hown0
      generalize madeCells #[Value.bool false] m.length = mc at *
      have hbD := hbC.alloc hbC.size (.cells mc 4)
      have hszU : (U.alloc (.cells mc 4)).heap.size = U.heap.size + 1 := by simp
      have HZ := Lib.hid hszU
      clear hszU
      go_wp2_with fail
      clear hmk
      generalize hT : U.alloc (.cells mc 4) = T at *
      clear hT
      have hg := hbC.size
      generalize hgU : U.heap.size = g at *
      clear hgU
      have hszT : g < T.heap.size := by rw [HZ.out]; omega
      clear HZ
      go_loopg [1] m.length (fun gk a wr => ∃ (j : Nat) (S : List Bool), j + gk = m.length ∧ a = .int .i64 (wayN m k j : Nat) ∧ S.length = m.length ∧ S.count true = j ∧ wr.ownsRow w.heap.size 4 1 (.slice (some ⟨g, 0, none⟩) m.length m.length) m.length (boolsV S) ∧ g < wr.heap.size ∧ Below w.heap.size w wr)
      case atStart => exact ⟨0, List.replicate m.length false, by omega, rfl, by simp, by simp [List.count_replicate], hown0, hszT, hbD⟩
      case round =>
        obtain ⟨j, S, hj, rfl, hS, hcnt, hown, hszr, hbw⟩ := hrel
        have hjn : j ≤ m.length := by omega
        obtain ⟨hp1, hps⟩ := HI2.out j hjn
        have hk9 := HW2.out j hjn
        generalize hpj : wayN m k j = p at *
        obtain ⟨t, ht, hst, htg, htn⟩ := hp.goes_at hp1 hps (.inl hk9)
        have hwn : wayN m k (j + 1) = t := by
          show (targetM m (wayN m k j)).1.toNat = t
          rw [hpj]
          exact htn
        have HWN := Lib.hid hwn
        have hk9' : j + 1 ≤ m.length → kindM m t = 9 := fun h => by rw [← HWN.out]; exact HW2.out (j + 1) h
        clear hwn hpj
        have hpS : p < S.length := by omega
        have hcell := hown.cellAt p (by omega)
        rw [show (boolsV S)[p]? = some (.bool S[p]) by simp [boolsV, hpS]] at hcell
        have hp2 : (p : Int) < (m.length : Int) := by omega
        have hp3 : (0 : Int) ≤ (p : Int) := by omega
        have HCN := Lib.hid hcnt
        have HJ := Lib.hid hj
        cases hsp : S[p]
        · have hlt : j + 1 ≤ m.length := by
            have h1 := count_set_true hpS hsp
            have h2 := List.count_le_length (a := true) (l := S.set p true)
            rw [List.length_set] at h2
            omega
          have hk2 := hk9' hlt
          have HCS := Lib.hid (count_set_true hpS hsp)
          rw [hsp] at hcell
          have hfz := hown.frozenAt p
          obtain ⟨hst2, -⟩ := hown.stored p (.bool true)
          rw [boolsV_set] at hst2
          have HL := Lib.hid (show (S.set p true).length = m.length by rw [List.length_set]; exact hS)
          generalize S.set p true = S2 at *
          clear hcnt hj hk9 hk9' hown hpS hsp hS
          have hbx : Below w.heap.size w (wr.setCell ⟨g, p, none⟩ (.bool true)) := hbw.setCell (p := ⟨g, p, none⟩) hg _
          have hszx : g < (wr.setCell ⟨g, p, none⟩ (.bool true)).heap.size := by simpa using hszr
          have htp := hta p (by omega) (by omega) _ hbx
          rw [htg] at htp
          simp only at htp
          have hst3 := hsem t
          have hkt : kindM m t = (sem (at' m t)).1.kind := rfl
          rw [hk2] at hkt
          obtain ⟨x0, x1, x2, x3, x4⟩ := insn_at hm ht
          generalize sem (at' m t) = v at *
          obtain ⟨⟨v0, v1, v2, v3, v4, v5⟩, vb⟩ := v
          simp only at hkt
          subst hkt
          generalize at' m t = xt at *
          obtain ⟨n0, n1, n2, n3, n4⟩ := xt
          simp only at x0 x1 x2 x3 x4
          have ht1 : (t : Int) < (m.length : Int) := by omega
          clear htg htn hk2
          go_wp2_with fail
          generalize hX : wr.setCell ⟨g, p, none⟩ (.bool true) = X at *
          refine htp.mono ?_
          rintro e w5 ⟨rfl, hb5⟩
          clear htp
          have hbw5 := hbx.trans (hb5.mono hbx.size)
          have hown5 := own_below hst2 hb5 hszx
          have hsz5 := Nat.lt_of_lt_of_le hszx hb5.size
          clear hst2
          replace x0 := x0 _ hbw5
          replace x1 := x1 _ hbw5
          replace x2 := x2 _ hbw5
          replace x3 := x3 _ hbw5
          replace x4 := x4 _ hbw5
          go_wp2_with fail
          refine (hst3 _).mono ?_
          rintro e w6 ⟨rfl, hb6⟩
          clear hst3 x0 x1 x2 x3 x4
          have hbw6 := hbw5.trans (hb6.mono hbw5.size)
          have hown6 := own_below hown5 hb6 hsz5
          have hsz6 := Nat.lt_of_lt_of_le hsz5 hb6.size
          have hbw7 := hbw6.alloc hbw6.size (.cells #[.int .u8 9, .int .u8 v1, .bool v2, .bool v3, .bool v4, .int .i64 v5] 44)
          have hown7 := hown6.alloc (.cells #[.int .u8 9, .int .u8 v1, .bool v2, .bool v3, .bool v4, .int .i64 v5] 44)
          have hsz7 : g < (w6.alloc (.cells #[.int .u8 9, .int .u8 v1, .bool v2, .bool v3, .bool v4, .int .i64 v5] 44)).heap.size := by simp; omega
          obtain ⟨u0, -, -, -, -, -⟩ := box44 (W := w6.alloc (.cells #[.int .u8 9, .int .u8 v1, .bool v2, .bool v3, .bool v4, .int .i64 v5] 44)) (g := w6.heap.size) (B := w6.heap.size + 1) ⟨9, v1, v2, v3, v4, v5⟩ (by omega) (heap_alloc_new _ _)
          have u0' := u0 _ (Below.refl _ _)
          simp only at u0'
          clear u0 hown5 hown6
          go_wp2_with fail
          go_roundg (m.length - (j + 1))
          case measure => have := HJ.out; omega
          case rel => exact ⟨j + 1, S2, by omega, by rw [HWN.out], HL.out, by rw [HCS.out, HCN.out], hown7, hsz7, hbw7⟩
        · rw [hsp] at hcell
          clear hcnt hj hk9 hk9' hown hpS hsp hS
          go_wp2_with fail
          go_ret
          exact ⟨rfl, hbw⟩
    · have p9 : (s0 == 9) = false := by simp [f9]
      obtain ⟨t, ht, htg, hft⟩ := HNEXT.out e9 f9
      have hself := HSELF.out f9
      have htp := hta k hi0 hi1 _ hbC
      rw [htg] at htp
      simp only at htp
      have hf1' := fun w1 hb => hfo t (by omega) (by omega) w1 hb
      rw [hft] at hf1'
      have hf2' := fun w1 hb => hfo f (by omega) (by omega) w1 hb
      rw [hself] at hf2'
      clear HWAY HIN HNEXT HSELF HSTAY hfo hta hself hft htg e9 f9
      go_wp2_with fail
      refine htp.mono ?_
      rintro e w5 ⟨rfl, hb5⟩
      clear htp
      have hbw5 := hbC.trans (hb5.mono hbC.size)
      go_wp2_with fail
      refine (hf1' _ hbw5).mono ?_
      rintro e w6 ⟨rfl, hb6⟩
      clear hf1'
      have hbw6 := hbw5.trans (hb6.mono hbw5.size)
      go_wp2_with fail
      refine (hf2' _ hbw6).mono ?_
      rintro e w7 ⟨rfl, hb7⟩
      clear hf2'
      have hbw7 := hbw6.trans (hb7.mono hbw6.size)
      go_wp2_with fail
      go_ret
      exact ⟨rfl, hbw7⟩
  · have q9 : (r0 != 9) = true := by simp [e9]
    have hst := HSTAY.out e9
    clear HSTAY HNEXT HWAY HIN HSELF
    have q : ((f : Int) == (k : Int)) = true := by simp [hst]
    clear hst
    go_wp2_with fail
    go_ret
    exact ⟨rfl, hbC⟩
end Go.Proofs.Ytgbmeckhagklnaa
