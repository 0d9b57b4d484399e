/- The law CodeClosed, walked. No statement is proved here. -/
import Derived.Test.YtgbmeckhagklnaaShown
namespace Go.Proofs.Ytgbmeckhagklnaa
open Go.RowKit
set_option linter.unusedSimpArgs false
set_option linter.unusedVariables false
set_option linter.unnecessarySimpa false
set_option maxRecDepth 100000 in
set_option maxHeartbeats 8000000 in
theorem codeClosed_walk (l : List Insn) (hl : ∀ x ∈ l, x.Ok) (A : Option Addr) (c : Nat) (hc : l.length ≤ c) (hc' : c ≤ maxLen) (w : World) (h : SAt w w.heap.size 5 A l.length (insnsV l)) :
    Calls Try.prog 13 #[.slice A l.length c] w fun e w' => e = .returned (.bool true) ∧ Below w.heap.size w w' := by
  have hf := few_is l A c hc hc'
  have hm := h.few 520
  have hml : ∀ x ∈ l.take 520, x.Ok := fun x hx => hl x (List.mem_of_mem_take hx)
  have hmn : (l.take 520).length ≤ 520 := by simp; omega
  go_enter Try.func13, Try.ntmps13
  go_wp2_with fail
  refine (shown07_any _).mono ?_
  rintro e w1 ⟨rfl, hb1⟩
  replace hf := hf w1 ((h.below hb1).more hb1.size)
  go_wp2_with fail
  refine hf.mono ?_
  rintro e w2 ⟨rfl, rfl⟩
  clear hf
  generalize l.take 520 = m at *
  clear h hl hc
  have hck := check_any m hml A c (by omega) w2 ((hm.below hb1).more hb1.size)
  go_wp2_with fail
  refine hck.mono ?_
  rintro e w3 ⟨rfl, hb3⟩
  clear hck
  have hb13 := hb1.trans (hb3.mono hb1.size)
  by_cases he : (checkM m).2 = 0
  · have hp := check_prog he
    rw [check_zero he]
    simp only
    have h1 := hp.pos
    have hst := starts_any m A c (by omega) w3 ((hm.below hb13).more hb13.size)
    go_wp2_with fail
    refine hst.mono ?_
    rintro e w4 ⟨A', c', rfl, hs4, hb4⟩
    clear hst
    obtain ⟨b', o', rfl, hb', hfl⟩ := hs4.flag (by omega)
    clear hs4
    have hb14 := hb13.trans (hb4.mono hb13.size)
    have hB4 : Below w4.heap.size w4 w4 := Below.refl _ _
    have hc0 := hfl 0 (by omega) _ hB4
    simp only [Nat.add_zero] at hc0
    rw [show SB m 0 = true from rfl] at hc0
    go_wp2_with fail
    go_loopw [41, 8, 9, 10, 11, 12, 13, 14] (fun k _ _ _ _ _ _ _ wr => ∃ (j : Nat), j ≤ m.length ∧ k = .int .i64 j ∧ Below w4.heap.size w4 wr) (fun k _ _ _ _ _ _ _ _ => m.length - (intOf k).toNat)
    case atStart => exact ⟨0, by omega, rfl, hB4⟩
    case round =>
      obtain ⟨j, hj, rfl, hbr⟩ := hrel
      have hbw := hb14.trans (hbr.mono hb14.size)
      rcases Nat.lt_or_ge j m.length with hlt | hge
      · have hcell := hfl j hlt _ hbr
        cases hs : SB m j
        · rw [hs] at hcell
          go_wp2_with fail
          go_roundw
          case rel => exact ⟨j + 1, by omega, by go_num, hbr⟩
          case measure => simp [intOf]; omega
        · rw [hs] at hcell
          obtain ⟨b, o, rfl, hb, c0, c1, c2, c3, c4⟩ := hm.insn hlt
          have hok := hp.ok hlt hs
          have hnext := fun h1 h2 => hp.next hlt hs h1 h2
          have hgo := toM_jumps m j
          have htar := fun h1 => hp.target hlt hs h1
          have htno := fun h1 => target_none (l := m) (i := j) h1
          rw [hgo] at htar htno
          have hsem := fun w => sem_any (at' m j) (at_ok hml j) w
          have hgt := step_gt m j
          go_wp2_with fail
          refine (hsem _).mono ?_
          rintro e w5 ⟨rfl, hb5⟩
          generalize sem (at' m j) = r at *
          obtain ⟨⟨r0, r1, r2, r3, r4, r5⟩, rb⟩ := r
          simp only at *
          subst hok
          have hb15 := hbw.trans (hb5.mono hbw.size)
          have hbr5 := hbr.trans (hb5.mono hbr.size)
          obtain ⟨g0, -⟩ := box44 (W := w5.alloc (What.obj ⟨r0, r1, r2, r3, r4, r5⟩)) (g := w5.heap.size) (B := w5.heap.size + 1) ⟨r0, r1, r2, r3, r4, r5⟩ (by omega) (heap_alloc_new _ _)
          simp only at g0
          have hb16 := hb15.alloc hb15.size (What.obj ⟨r0, r1, r2, r3, r4, r5⟩)
          have hbr6 := hbr5.alloc hbr5.size (What.obj ⟨r0, r1, r2, r3, r4, r5⟩)
          have hnx := next_at m (some ⟨b, o, none⟩) c j (by omega) hlt w _ hm hb16
          clear hsem
          go_wp2_with fail
          refine hnx.mono ?_
          rintro e w6 ⟨rfl, hb6⟩
          clear hnx
          have g0' := g0 w6 (hb6.mono (by simp))
          have hb17 := hb16.trans (hb6.mono hb16.size)
          have hbr7 := hbr6.trans (hb6.mono hbr6.size)
          have hta := target_any m hml (some ⟨b, o, none⟩) c (by omega) j (by omega) (by omega) w6 ((hm.below hb17).more hb17.size)
          by_cases e12 : r0 = 12
          · subst e12
            rw [htno (by simp)] at hta
            clear hnext htar htno
            go_wp2_with fail
            refine hta.mono ?_
            rintro e w7 ⟨rfl, hb7⟩
            clear hta
            have g0'' := g0 w7 ((hb6.trans (hb7.mono hb6.size)).mono (by simp))
            have hbr8 := hbr7.trans (hb7.mono hbr7.size)
            go_wp2_with fail
            go_roundw
            case rel => exact ⟨j + 1, by omega, by go_num, hbr8⟩
            case measure => simp [intOf]; omega
          by_cases e9 : r0 = 9
          · subst e9
            obtain ⟨t, ht1, ht2, ht3⟩ := htar (by simp)
            rw [ht3] at hta
            clear hnext htar htno
            go_wp2_with fail
            refine hta.mono ?_
            rintro e w7 ⟨rfl, hb7⟩
            clear hta
            have g0'' := g0 w7 ((hb6.trans (hb7.mono hb6.size)).mono (by simp))
            have hbr8 := hbr7.trans (hb7.mono hbr7.size)
            have hct := hfl t ht1 w7 hbr8
            rw [ht2] at hct
            go_wp2_with fail
            go_roundw
            case rel => exact ⟨j + 1, by omega, by go_num, hbr8⟩
            case measure => simp [intOf]; omega
          by_cases e10 : r0 = 10
          · subst e10
            obtain ⟨hn1, hn2⟩ := hnext (by simpa using (show (10 : Int) ≠ 12 by decide)) (by simpa using (show (10 : Int) ≠ 9 by decide))
            have hcn := hfl (stepN m j) hn1 w6 hbr7
            rw [hn2] at hcn
            obtain ⟨t, ht1, ht2, ht3⟩ := htar (by simp)
            rw [ht3] at hta
            clear hnext htar htno
            go_wp2_with fail
            refine hta.mono ?_
            rintro e w7 ⟨rfl, hb7⟩
            clear hta
            have g0'' := g0 w7 ((hb6.trans (hb7.mono hb6.size)).mono (by simp))
            have hbr8 := hbr7.trans (hb7.mono hbr7.size)
            have hct := hfl t ht1 w7 hbr8
            rw [ht2] at hct
            go_wp2_with fail
            go_roundw
            case rel => exact ⟨j + 1, by omega, by go_num, hbr8⟩
            case measure => simp [intOf]; omega
          · have q12 : (r0 != 12) = true := by simp [e12]
            have q9 : (r0 != 9) = true := by simp [e9]
            have p9 : (r0 == 9) = false := by simp [e9]
            have p10 : (r0 == 10) = false := by simp [e10]
            obtain ⟨hn1, hn2⟩ := hnext (by simpa using e12) (by simpa using e9)
            have hcn := hfl (stepN m j) hn1 w6 hbr7
            rw [hn2] at hcn
            rw [htno (by simp [e9, e10])] at hta
            clear hnext htar htno
            go_wp2_with fail
            refine hta.mono ?_
            rintro e w7 ⟨rfl, hb7⟩
            clear hta
            have g0'' := g0 w7 ((hb6.trans (hb7.mono hb6.size)).mono (by simp))
            have hbr8 := hbr7.trans (hb7.mono hbr7.size)
            go_wp2_with fail
            go_roundw
            case rel => exact ⟨j + 1, by omega, by go_num, hbr8⟩
            case measure => simp [intOf]; omega
      · go_wp2_with fail
        go_ret
        exact ⟨rfl, hbw⟩
  · generalize checkM m = r at *
    obtain ⟨r0, r1⟩ := r
    simp only at *
    go_wp2_with fail
    go_ret
    exact ⟨rfl, hb13⟩
end Go.Proofs.Ytgbmeckhagklnaa
