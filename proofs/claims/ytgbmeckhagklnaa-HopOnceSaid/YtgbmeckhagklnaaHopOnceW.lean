/- The law HopOnce, walked. No statement is proved here. -/
import Derived.Test.YtgbmeckhagklnaaHopD
namespace Go.Proofs.Ytgbmeckhagklnaa
open Go.RowKit
set_option linter.unusedSimpArgs false
set_option linter.unusedVariables false
set_option linter.unnecessarySimpa false
theorem tmod_nat' (a n : Nat) : Int.tmod (a : Int) (n : Int) = ((a % n : Nat) : Int) := rfl
theorem kind_ten {x : Insn} (h : (sem x).1.kind = 10) : x.op ≠ 149 := by
  intro e
  have hy : (sem x).2 = true := by
    cases hs : (sem x).2
    · rw [sem_no hs] at h; simp [What.zero] at h
    · rfl
  have hd := sem_regs hy
  have hd' : ¬ (10 < x.dst ∨ 10 < x.src) := by omega
  unfold sem whatM at *
  rw [if_neg hd'] at *
  simp [e] at h hy
  obtain ⟨-, hw⟩ := norm_yes hy
  rw [hw] at h
  simp [jumpsM, e, kindW] at h
theorem once_cases {l : List Insn} (hp : Prog l) {i t : Nat} (hi : i < l.length) (hs : SB l i = true) (hk : kindM l i = 9 ∨ kindM l i = 10) (ht : t < l.length) (hst : SB l t = true) (htn : (targetM l i).1.toNat = t) :
    ((hopE l i).kind = 0 ∧ followM l t = t) ∨ (hopE l i).kind = 1 ∨ ((hopE l i).kind = 2 ∧ (hopE l i).x.op = 149) ∨
    ((hopE l i).kind = 2 ∧ (hopE l i).x.op ≠ 149 ∧ (hopE l i).to = followM l t) := by
  rcases hk with hk | hk
  · have e : hopE l i = jumpE l i t := by simp [hopE, hs, hk, htn]
    rw [e]
    unfold jumpE
    by_cases c1 : followM l t = stepN l i
    · rw [if_pos c1]; exact .inr (.inl rfl)
    rw [if_neg c1]
    by_cases c2 : kindM l (followM l t) = 12
    · rw [if_pos c2]; exact .inr (.inr (.inl ⟨rfl, rfl⟩))
    rw [if_neg c2]
    by_cases c3 : followM l t = t
    · rw [if_neg (by simp [c3])]; exact .inl ⟨rfl, c3⟩
    · rw [if_pos c3]; exact .inr (.inr (.inr ⟨rfl, by simp, rfl⟩))
  · have e : hopE l i = branchE l i t := by simp [hopE, hs, hk, htn]
    rw [e]
    unfold branchE
    by_cases c1 : followM l t = followM l (stepN l i)
    · rw [if_pos c1]; exact .inr (.inl rfl)
    rw [if_neg c1]
    by_cases c3 : followM l t = t
    · rw [if_neg (by simp [c3])]; exact .inl ⟨rfl, c3⟩
    · rw [if_pos c3]; exact .inr (.inr (.inr ⟨rfl, kind_ten hk, rfl⟩))
theorem hopE_stays {l : List Insn} {i : Nat} (h : ¬ (SB l i = true ∧ (kindM l i = 9 ∨ kindM l i = 10))) : hopE l i = Edit.none := by
  unfold hopE
  rw [if_neg (fun h1 => h ⟨h1.1, .inl h1.2⟩), if_neg (fun h1 => h ⟨h1.1, .inr h1.2⟩)]
theorem target_kind {l : List Insn} (hp : Prog l) {i : Nat} (hi : i < l.length) (hs : SB l i = true) (hk : ¬ (kindM l i = 9 ∨ kindM l i = 10)) : targetM l i = (0, false) := by
  refine target_none ?_
  rw [toM_jumps]
  unfold kindM at hk
  simpa using hk
set_option maxRecDepth 100000 in
set_option maxHeartbeats 8000000 in
theorem hopOnce_walk (l : List Insn) (hl : ∀ x ∈ l, x.Ok) (A : Option Addr) (c : Nat) (hc : l.length ≤ c) (hc' : c ≤ maxLen) (w : World) (h : SAt w w.heap.size 5 A l.length (insnsV l)) :
    Calls Try.prog 19 #[.slice A l.length c] w fun e w' => e = .returned (.bool true) ∧ Below w.heap.size w w' := by
  have hf := few21_is l A c hc hc'
  have hm := h.few 100
  have hml : ∀ x ∈ l.take 100, x.Ok := fun x hx => hl x (List.mem_of_mem_take hx)
  have hmn : (l.take 100).length ≤ 100 := by simp; omega
  replace hf := fun w1 (hb : Below w.heap.size w w1) => hf w1 ((h.below hb).more hb.size)
  generalize l.take 100 = m at *
  clear h hl hc hc'
  have h3 := fun w1 (hb : Below w.heap.size w w1) => edits_any m hml A c (by omega) w1 ((hm.below hb).more hb.size)
  have hck := fun w1 (hb : Below w.heap.size w w1) => rcheck_any m hml A c (by omega) w1 ((hm.below hb).more hb.size)
  by_cases he : (checkM m).2 = 0
  case neg =>
    rw [editsM_no he] at h3
    generalize checkM m = r at *
    obtain ⟨r0, r1⟩ := r
    simp only at he
    go_enter Try.func19, Try.ntmps19
    go_wp2_with fail
    refine (shown21_any _).mono ?_
    rintro e w1 ⟨rfl, hb1⟩
    go_wp2_with fail
    refine (hf _ hb1).mono ?_
    rintro e w1' ⟨rfl, rfl⟩
    clear hf
    go_wp2_with fail
    refine (h3 _ hb1).mono ?_
    rintro e w2 ⟨B, b, rfl, hsB, hcB, hmB, hb2⟩
    clear h3
    have hb12 := hb1.trans (hb2.mono hb1.size)
    simp only [List.length_nil]
    go_wp2_with fail
    refine (hck _ hb12).mono ?_
    rintro e w3 ⟨rfl, hb3⟩
    have hb13 := hb12.trans (hb3.mono hb12.size)
    clear hck
    go_wp2_with fail
    go_ret
    exact ⟨rfl, hb13⟩
  have hp := check_prog he
  have hat := fun j => editsM_at (l := m) (j := j)
  have hlen : (editsM m).length = m.length := by rw [editsM_yes he, partE_length]
  rw [check_zero he] at hck
  try simp only at hck
  generalize editsM m = es at *
  have hfo := fun (k : Nat) (hk : k < m.length) (hs : SB m k = true) w1 (hb : Below w.heap.size w w1) => Follow_any m hml A c (by omega) k (by omega) (by omega) w1 ((hm.below hb).more hb.size)
  have hfo2 : ∀ (k : Nat) (hk : k < m.length) (hs : SB m k = true) w1 (hb : Below w.heap.size w w1), Calls Try.prog 54 #[.slice A m.length c, .int .i64 k] w1 fun e w' => e = .returned (.int .i64 (followM m k)) ∧ Below w1.heap.size w1 w' := fun k hk hs w1 hb => by
    have := hfo k hk hs w1 hb
    rwa [followI_yes he hk hs] at this
  have hta := fun (k : Nat) (hk : k < m.length) w1 (hb : Below w.heap.size w w1) => rtarget_any m hml A c (by omega) k (by omega) (by omega) w1 ((hm.below hb).more hb.size)
  have hst := fun w1 (hb : Below w.heap.size w w1) => rstarts_any m A c (by omega) w1 ((hm.below hb).more hb.size)
  clear hfo
  go_enter Try.func19, Try.ntmps19
  go_wp2_with fail
  refine (shown21_any _).mono ?_
  rintro e w1 ⟨rfl, hb1⟩
  go_wp2_with fail
  refine (hf _ hb1).mono ?_
  rintro e w1' ⟨rfl, rfl⟩
  clear hf
  go_wp2_with fail
  refine (h3 _ hb1).mono ?_
  rintro e w2 ⟨B, b, rfl, hsB, hcB, hmB, hb2⟩
  clear h3
  have hb12 := hb1.trans (hb2.mono hb1.size)
  rw [hlen] at hcB ⊢
  go_wp2_with fail
  refine (hck _ hb12).mono ?_
  rintro e w20 ⟨rfl, hb20⟩
  clear hck
  have hb13 := hb12.trans (hb20.mono hb12.size)
  go_wp2_with fail
  go_loopw [41] (fun k wr => ∃ (j : Nat), j ≤ m.length ∧ k = .int .i64 j ∧ Below w2.heap.size w2 wr) (fun k _ => m.length - (intOf k).toNat)
  case atStart => exact ⟨0, by omega, rfl, hb20⟩
  case round =>
    obtain ⟨j, hj, rfl, hbr⟩ := hrel
    have hbw := hb12.trans (hbr.mono hb12.size)
    rcases Nat.lt_or_ge j m.length with hlt | hge
    · obtain ⟨hed, -⟩ := hat j (by omega)
      obtain ⟨p, o, rfl, hpp, c0, c1, c2, c3, c4, c5, c6⟩ := hsB.edit (k := j) (by omega)
      obtain ⟨q, o', rfl, hq, -⟩ := hm.insn hlt
      obtain ⟨d0, d1, d2, d3, d4⟩ := insn_at hm hlt
      replace d0 := d0
      replace c0 := c0 _ hbr
      replace c1 := c1 _ hbr
      replace c2 := c2 _ hbr
      replace c3 := c3 _ hbr
      replace c4 := c4 _ hbr
      replace c5 := c5 _ hbr
      replace c6 := c6 _ hbr
      rw [hed] at c0 c1 c2 c3 c4 c5 c6
      have hsem := fun (k : Nat) w => rsem_any (at' m k) (at_ok hml k) w
      have hsj := hsem j
      have hkk : kindM m j = (sem (at' m j)).1.kind := rfl
      have hstay := hopE_stays (l := m) (i := j)
      have hnt := fun (hs : SB m j = true) hk => target_kind hp hlt hs hk
      have hyt := fun (hs : SB m j = true) (hk : kindM m j = 9 ∨ kindM m j = 10) => hp.goes_at hlt hs hk
      have hon := fun (t : Nat) (hs : SB m j = true) (hk : kindM m j = 9 ∨ kindM m j = 10) ht hst htn => once_cases (t := t) hp hlt hs hk ht hst htn
      rw [hkk] at hstay hnt hyt hon
      have qn := neq_edit (hopE m j) Edit.none
      clear hed hkk hat
      generalize hopE m j = d at *
      have htj := hta j hlt
      generalize at' m j = x at *
      generalize sem x = r at *
      obtain ⟨x1, x2, x3, x4, x5⟩ := x
      obtain ⟨⟨r0, r1, r2, r3, r4, r5⟩, rb⟩ := r
      have HSTAY := Lib.hid hstay
      have HNT := Lib.hid hnt
      have HYT := Lib.hid hyt
      have HON := Lib.hid hon
      clear hstay hnt hyt hon
      obtain ⟨y0, ⟨y1, y2, y3, y4, y5⟩, y6⟩ := d
      simp only [Edit.val, Edit.none, Insn.zero] at qn c0 c1 c2 c3 c4 c5 c6 d0 d1 d2 d3 d4 hsj
      have hbrV := hbr.alloc hbr.size (.cells #[.int .u8 y0, .int .u8 y1, .int .u8 y2, .int .u8 y3, .int .i16 y4, .int .i32 y5, .int .i64 y6] 71)
      have hbwV := hbw.alloc hbw.size (.cells #[.int .u8 y0, .int .u8 y1, .int .u8 y2, .int .u8 y3, .int .i16 y4, .int .i32 y5, .int .i64 y6] 71)
      have hh := heap_alloc_new wr (.cells #[.int .u8 y0, .int .u8 y1, .int .u8 y2, .int .u8 y3, .int .i16 y4, .int .i32 y5, .int .i64 y6] 71)
      obtain ⟨e0, e1, e2, e3, e4, e5, e6⟩ := box71 (B := wr.heap.size + 1) ⟨y0, ⟨y1, y2, y3, y4, y5⟩, y6⟩ (by omega) hh
      simp only at e0 e1 e2 e3 e4 e5 e6
      have hsz : wr.heap.size + 1 = (wr.alloc (.cells #[.int .u8 y0, .int .u8 y1, .int .u8 y2, .int .u8 y3, .int .i16 y4, .int .i32 y5, .int .i64 y6] 71)).heap.size := by simp
      have HS := Lib.hid hsz
      clear hh hsz
      replace d0 := d0 _ hbwV
      replace d1 := d1 _ hbwV
      replace d2 := d2 _ hbwV
      replace d3 := d3 _ hbwV
      replace d4 := d4 _ hbwV
      go_wp2_with fail
      generalize hV : wr.alloc (.cells #[.int .u8 y0, .int .u8 y1, .int .u8 y2, .int .u8 y3, .int .i16 y4, .int .i32 y5, .int .i64 y6] 71) = V at *
      clear hV c0 c1 c2 c3 c4 c5 c6
      have hbvV : Below (wr.heap.size + 1) V V := Below.refl _ _
      refine (hsj _).mono ?_
      rintro e w3 ⟨rfl, hb3⟩
      clear hsj d0 d1 d2 d3 d4
      have hbw3 := hbwV.trans (hb3.mono hbwV.size)
      have hbr3 := hbrV.trans (hb3.mono hbrV.size)
      have hbv3 : Below (wr.heap.size + 1) V _ := hbvV.trans (hb3.mono (Nat.le_trans (by rw [HS.out]; exact Nat.le_refl _) hbvV.size))
      have hbr4 := hbr3.alloc hbr3.size (.cells #[.int .u8 r0, .int .u8 r1, .bool r2, .bool r3, .bool r4, .int .i64 r5] 44)
      have hbw4 := hbw3.alloc hbw3.size (.cells #[.int .u8 r0, .int .u8 r1, .bool r2, .bool r3, .bool r4, .int .i64 r5] 44)
      have hbv4 := hbv3.alloc (Nat.le_trans (by rw [HS.out]; exact Nat.le_refl _) hb3.size) (.cells #[.int .u8 r0, .int .u8 r1, .bool r2, .bool r3, .bool r4, .int .i64 r5] 44)
      obtain ⟨g0, -, -, -, -, -⟩ := box44 (W := w3.alloc (.cells #[.int .u8 r0, .int .u8 r1, .bool r2, .bool r3, .bool r4, .int .i64 r5] 44)) (g := w3.heap.size) (B := w3.heap.size + 1) ⟨r0, r1, r2, r3, r4, r5⟩ (by omega) (heap_alloc_new _ _)
      simp only at g0
      have hsq : w3.heap.size + 1 = (w3.alloc (.cells #[.int .u8 r0, .int .u8 r1, .bool r2, .bool r3, .bool r4, .int .i64 r5] 44)).heap.size := by simp
      have HQ := Lib.hid hsq
      clear hsq
      go_wp2_with fail
      generalize hV2 : w3.alloc (.cells #[.int .u8 r0, .int .u8 r1, .bool r2, .bool r3, .bool r4, .int .i64 r5] 44) = V2 at *
      clear hV2
      have hbq4 : Below (w3.heap.size + 1) V2 V2 := Below.refl _ _
      refine (htj _ hbw4).mono ?_
      rintro e w5 ⟨rfl, hb5⟩
      clear htj
      have hbw5 := hbw4.trans (hb5.mono hbw4.size)
      have hbr5 := hbr4.trans (hb5.mono hbr4.size)
      have hbv5 : Below (wr.heap.size + 1) V _ := hbv4.trans (hb5.mono (Nat.le_trans (by rw [HS.out]; exact Nat.le_refl _) hbv4.size))
      have hbq5 : Below (w3.heap.size + 1) V2 _ := hbq4.trans (hb5.mono (Nat.le_trans (by rw [HQ.out]; exact Nat.le_refl _) hbq4.size))
      have hst5 := hst _ hbw5
      clear hst
      have HT := Lib.hid (rfl : targetM m j = targetM m j)
      generalize htm : targetM m j = tm at *
      obtain ⟨t0, tb⟩ := tm
      simp only
      have HTM := Lib.hid htm
      clear htm HT
      go_wp2_with fail
      refine hst5.mono ?_
      rintro e w6 ⟨SA, sc, rfl, hss, hb6⟩
      clear hst5
      obtain ⟨sb, so, rfl, hsb, hfl⟩ := hss.flag (by omega)
      clear hss
      have hbw6 := hbw5.trans (hb6.mono hbw5.size)
      have hbr6 := hbr5.trans (hb6.mono hbr5.size)
      have hbv6 : Below (wr.heap.size + 1) V _ := hbv5.trans (hb6.mono (Nat.le_trans (by rw [HS.out]; exact Nat.le_refl _) hbv5.size))
      have hbq6 : Below (w3.heap.size + 1) V2 _ := hbq5.trans (hb6.mono (Nat.le_trans (by rw [HQ.out]; exact Nat.le_refl _) hbq5.size))
      have hcell := hfl j hlt _ (Below.refl _ _)
      clear hfl
      have hjl : (j : Int) < (m.length : Int) := by omega
      have e0' := e0 _ hbv6
      have e1' := e1 _ hbv6
      have e2' := e2 _ hbv6
      have e3' := e3 _ hbv6
      have e4' := e4 _ hbv6
      have e5' := e5 _ hbv6
      have e6' := e6 _ hbv6
      have g0' := g0 _ hbq6
      clear e0 e1 e2 e3 e4 e5 e6 g0
      by_cases hgo : SB m j = true ∧ (r0 = 9 ∨ r0 = 10)
      case neg =>
        have hnone := HSTAY.out hgo
        simp only [Edit.mk.injEq, Edit.none, Insn.zero, Insn.mk.injEq] at hnone
        obtain ⟨rfl, ⟨rfl, rfl, rfl, rfl, rfl⟩, rfl⟩ := hnone
        simp only [decide_true, Bool.not_true] at qn
        cases hs : SB m j
        · rw [hs] at hcell
          clear HSTAY HNT HYT HON hgo
          go_wp2_with fail
          go_roundw
          case rel => exact ⟨j + 1, by omega, by go_num, hbr6⟩
          case measure => simp [intOf]; omega
        · rw [hs] at hcell
          have hk : ¬ (r0 = 9 ∨ r0 = 10) := fun hk => hgo ⟨hs, hk⟩
          have htz := HNT.out hs hk
          try rw [HTM.out] at htz
          simp only [Prod.mk.injEq] at htz
          obtain ⟨rfl, rfl⟩ := htz
          clear HSTAY HNT HYT HON hgo hk HTM
          go_wp2_with fail
          go_roundw
          case rel => exact ⟨j + 1, by omega, by go_num, hbr6⟩
          case measure => simp [intOf]; omega
      obtain ⟨hs, hk⟩ := hgo
      obtain ⟨t, ht, hst, htg, htn⟩ := HYT.out hs hk
      have hcs := HON.out t hs hk ht hst htn
      try rw [HTM.out] at htg
      simp only [Prod.mk.injEq] at htg
      obtain ⟨rfl, rfl⟩ := htg
      rw [hs] at hcell
      obtain ⟨hfl, hfs⟩ := hp.follow_in ht hst
      obtain ⟨hfl2, hfs2⟩ := hp.follow_in hfl hfs
      have hag := hp.follow_again ht hst
      have hf1 := hfo2 t ht hst
      have hf2 := hfo2 (followM m t) hfl hfs
      clear HSTAY HNT HYT HON HTM htn hfo2 hta qn
      try simp only at hcs
      have hcs2 := Lib.hid hcs
      clear hcs
      rcases hk with rfl | rfl
      all_goals
        rcases hcs2.out with ⟨rfl, hft⟩ | rfl | ⟨rfl, rfl⟩ | ⟨rfl, hop, rfl⟩
        · rw [hft] at hf1
          clear hf2 hag hcs2 hft hfl hfs hfl2 hfs2
          replace hf1 := hf1 _ hbw6
          go_wp2_with fail
          refine hf1.mono ?_
          rintro e w7 ⟨rfl, hb7⟩
          have hbr7 := hbr6.trans (hb7.mono hbr6.size)
          clear hf1
          go_wp2_with fail
          go_roundw
          case rel => exact ⟨j + 1, by omega, by go_num, hbr7⟩
          case measure => simp [intOf]; omega
        · clear hf1 hf2 hag hcs2 hfl hfs hfl2 hfs2
          go_wp2_with fail
          go_roundw
          case rel => exact ⟨j + 1, by omega, by go_num, hbr6⟩
          case measure => simp [intOf]; omega
        · clear hf1 hf2 hag hcs2 hfl hfs hfl2 hfs2
          go_wp2_with fail
          go_roundw
          case rel => exact ⟨j + 1, by omega, by go_num, hbr6⟩
          case measure => simp [intOf]; omega
        · have q1 : (y1 != 149) = true := by simp [hop]
          have q2 : (y1 == 149) = false := by simp [hop]
          clear hop hcs2 hf1
          generalize followM m t = f at *
          replace hf3 := hf2 _ hbw6
          by_cases hff : followM m f = f
          · rw [hff] at hf3
            clear hag hf2 hff hfl2 hfs2
            go_wp2_with fail
            refine hf3.mono ?_
            rintro e w7 ⟨rfl, hb7⟩
            have hbr7 := hbr6.trans (hb7.mono hbr6.size)
            clear hf3
            go_wp2_with fail
            go_roundw
            case rel => exact ⟨j + 1, by omega, by go_num, hbr7⟩
            case measure => simp [intOf]; omega
          · have hk9 : kindM m (followM m f) = 9 := by
              rcases hag with h1 | h1
              · exact absurd h1 hff
              · exact h1
            have hsg := hsem (followM m f)
            have hkk : kindM m (followM m f) = (sem (at' m (followM m f))).1.kind := rfl
            rw [hk9] at hkk
            obtain ⟨z0, z1, z2, z3, z4⟩ := insn_at hm hfl2
            generalize followM m f = g at *
            generalize sem (at' m g) = v at *
            obtain ⟨⟨v0, v1, v2, v3, v4, v5⟩, vb⟩ := v
            simp only at hkk
            subst hkk
            generalize at' m g = xg at *
            obtain ⟨n0, n1, n2, n3, n4⟩ := xg
            simp only at z0 z1 z2 z3 z4
            have q3 : ((g : Int) != (f : Int)) = true := by simp; omega
            have q4 : (g : Int).tmod (m.length : Int) = (g : Int) := by
              rw [tmod_nat', Nat.mod_eq_of_lt hfl2]
            have q5 : ¬ ((m.length : Int) = 0) := by omega
            have q6 : (g : Int) < (m.length : Int) := by omega
            have q7 : max (g : Int) 0 = (g : Int) := by omega
            clear hag hff hk9
            go_wp2_with fail
            refine hf3.mono ?_
            rintro e w7 ⟨rfl, hb7⟩
            clear hf3
            have hbr7 := hbr6.trans (hb7.mono hbr6.size)
            have hbw7 := hbw6.trans (hb7.mono hbw6.size)
            have hf4 := hf2 _ hbw7
            go_wp2_with fail
            refine hf4.mono ?_
            rintro e w8 ⟨rfl, hb8⟩
            clear hf4 hf2
            have hbr8 := hbr7.trans (hb8.mono hbr7.size)
            have hbw8 := hbw7.trans (hb8.mono hbw7.size)
            replace z0 := z0 _ hbw8
            replace z1 := z1 _ hbw8
            replace z2 := z2 _ hbw8
            replace z3 := z3 _ hbw8
            replace z4 := z4 _ hbw8
            go_wp2_with fail
            refine (hsg _).mono ?_
            rintro e w9 ⟨rfl, hb9⟩
            clear hsg z0 z1 z2 z3 z4
            have hbr9 := hbr8.trans (hb9.mono hbr8.size)
            have hbr10 := hbr9.alloc hbr9.size (.cells #[.int .u8 9, .int .u8 v1, .bool v2, .bool v3, .bool v4, .int .i64 v5] 44)
            obtain ⟨u0, -, -, -, -, -⟩ := box44 (W := w9.alloc (.cells #[.int .u8 9, .int .u8 v1, .bool v2, .bool v3, .bool v4, .int .i64 v5] 44)) (g := w9.heap.size) (B := w9.heap.size + 1) ⟨9, v1, v2, v3, v4, v5⟩ (by omega) (heap_alloc_new _ _)
            have u0' := u0 _ (Below.refl _ _)
            simp only at u0'
            clear u0
            go_wp2_with fail
            go_roundw
            case rel => exact ⟨j + 1, by omega, by go_num, hbr10⟩
            case measure => simp [intOf]; omega
    · go_wp2_with fail
      go_ret
      exact ⟨rfl, hbw⟩
end Go.Proofs.Ytgbmeckhagklnaa
