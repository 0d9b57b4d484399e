/- The law PackPlaces, walked. No statement is proved here. -/
import Derived.Test.YtgbmeckhagklnaaPackD
namespace Go.Proofs.Ytgbmeckhagklnaa
open Go.RowKit
set_option linter.unusedSimpArgs false
set_option linter.unusedVariables false
set_option linter.unnecessarySimpa false
theorem SAt.fewE {W : World} {B : Nat} {A : Option Addr} {l : List Edit} (h : SAt W B 7 A l.length (editsV l)) (n : Nat) : SAt W B 7 A (l.take n).length (editsV (l.take n)) := by
  have := h.cut (k := (l.take n).length) (by simp; omega)
  have e : (editsV l).take ((l.take n).length * 7) = editsV (l.take n) := by
    have e2 : editsV l = editsV (l.take n) ++ editsV (l.drop n) := by rw [← editsV_append, List.take_append_drop]
    rw [e2, List.take_append_of_le_length (by rw [editsV_length]; exact Nat.le_refl _)]
    exact List.take_of_length_le (by rw [editsV_length]; exact Nat.le_refl _)
  rwa [e] at this
theorem rwM_ok {l : List Insn} (hl : ∀ x ∈ l, x.Ok) (hn : l.length ≤ 5000) {es : List Edit} (h : EOk es) : ∀ x ∈ (rwM l es).1, x.Ok := by
  unfold rwM
  split
  · intro x hx; cases hx
  · split
    · intro x hx; cases hx
    · rename_i out e
      split
      · exact rwA_ok hl hn h _ (Nat.le_refl _) e
      · intro x hx; cases hx
theorem becL_drop {l : List Insn} {es : List Edit} {i : Nat} (h : (editM es i).kind = 1) : (becL l es i).length = 0 := by unfold becL; rw [if_pos h]; rfl
theorem becL_other {l : List Insn} {es : List Edit} {i : Nat} (h : (editM es i).kind = 2) : (becL l es i).length = 1 := by unfold becL; rw [if_neg (by omega), if_pos h]; rfl
theorem editM_at {es : List Edit} {i : Nat} (h : i < es.length) (hk : (edAt es i).kind ≤ 2) : editM es i = edAt es i := by unfold editM; rw [if_pos ⟨h, hk⟩]
theorem editM_far {es : List Edit} {i : Nat} (h : ¬ (i < es.length ∧ (edAt es i).kind ≤ 2)) : (editM es i).kind = 0 := by unfold editM; rw [if_neg h]; rfl
set_option maxRecDepth 100000 in
set_option maxHeartbeats 8000000 in
theorem packPlaces_walk (l : List Insn) (hl : ∀ x ∈ l, x.Ok) (A : Option Addr) (c : Nat) (hc : l.length ≤ c) (hc' : c ≤ maxLen) (es : List Edit) (hes : EOk es) (hek : ∀ x ∈ es, 0 ≤ x.kind) (E : Option Addr) (d : Nat) (hd : es.length ≤ d) (hd' : d ≤ maxLen) (w : World) (h : SAt w w.heap.size 5 A l.length (insnsV l)) (he : SAt w w.heap.size 7 E es.length (editsV es)) :
    Calls Try.prog 25 #[.slice A l.length c, .slice E es.length d] w fun e w' => e = .returned (.bool true) ∧ Below w.heap.size w w' := by
  have hf := few18_is l A c hc hc'
  have hg := some18_is es E d hd hd'
  have hm := h.few 150
  have hy := he.fewE 160
  have hml : ∀ x ∈ l.take 150, x.Ok := fun x hx => hl x (List.mem_of_mem_take hx)
  have hyo : EOk (es.take 160) := fun x hx => hes x (List.mem_of_mem_take hx)
  have hyk : ∀ x ∈ es.take 160, 0 ≤ x.kind := fun x hx => hek x (List.mem_of_mem_take hx)
  have hmn : (l.take 150).length ≤ 150 := by simp; omega
  have hyn : (es.take 160).length ≤ 160 := by simp; omega
  have hmc : (l.take 150).length ≤ c := by simp; omega
  replace hf := fun w1 (hb : Below w.heap.size w w1) => hf w1 ((h.below hb).more hb.size)
  replace hg := fun w1 (hb : Below w.heap.size w w1) => hg w1 ((he.below hb).more hb.size)
  generalize l.take 150 = m at *
  generalize es.take 160 = y at *
  clear h he hl hc hes hek hd hd'
  have hrw := fun w1 (hb : Below w.heap.size w w1) => rewrite_any m hml A c hmc hc' (by omega) y hyo E d (by omega) w1 ((hm.below hb).more hb.size) ((hy.below hb).more hb.size)
  have hck := fun w1 (hb : Below w.heap.size w w1) => rcheck_any m hml A c (by omega) w1 ((hm.below hb).more hb.size)
  have hpl := fun (i : Int) (h0 : -9223372036854775808 ≤ i) (h1 : i ≤ 9223372036854775807) w1 (hb : Below w.heap.size w w1) => Place_any m hml A c hmc hc' (by omega) y E d (by omega) i h0 h1 w1 ((hm.below hb).more hb.size) ((hy.below hb).more hb.size)
  have hst := fun w1 (hb : Below w.heap.size w w1) => rstarts_any m A c (by omega) w1 ((hm.below hb).more hb.size)
  have hnx := fun (j : Nat) (hj : j < m.length) w1 (hb : Below w.heap.size w w1) => rnext_at m A c j (by omega) hj w w1 hm hb
  by_cases hz : (checkM m).2 = 0
  case neg =>
    have hp0 := hpl 0 (by omega) (by omega)
    rw [placeI_no (.inl hz)] at hp0
    rw [rwM_not hz] at hrw
    try simp only [List.length_nil] at hrw
    generalize checkM m = r at *
    obtain ⟨r0, r1⟩ := r
    simp only at hz
    clear hpl hst hnx
    go_enter Try.func25, Try.ntmps25
    go_wp2_with fail
    refine (shown18_any _).mono ?_
    rintro e w1 ⟨rfl, hb1⟩
    go_wp2_with fail
    refine (hf _ hb1).mono ?_
    rintro e w1' ⟨rfl, rfl⟩
    go_wp2_with fail
    refine (hg _ hb1).mono ?_
    rintro e w1'' ⟨rfl, rfl⟩
    clear hf hg
    go_wp2_with fail
    refine (hrw _ hb1).mono ?_
    rintro e w2 ⟨X, xc, rfl, hx1, hx2, hx3, hb2⟩
    clear hrw
    have hb12 := hb1.trans (hb2.mono hb1.size)
    simp only [List.length_nil]
    go_wp2_with fail
    refine (hck _ hb12).mono ?_
    rintro e w3 ⟨rfl, hb3⟩
    have hb13 := hb12.trans (hb3.mono hb12.size)
    go_wp2_with fail
    refine (hp0 _ hb13).mono ?_
    rintro e w4 ⟨rfl, hb4⟩
    have hb14 := hb13.trans (hb4.mono hb13.size)
    go_wp2_with fail
    go_ret
    exact ⟨rfl, hb14⟩
  have hp := check_prog hz
  have hpos := hp.pos
  rw [check_zero hz] at hck
  try simp only at hck
  have hplN : ∀ (i : Nat), i ≤ m.length → ∀ w1, Below w.heap.size w w1 → Calls Try.prog 67 #[.slice A m.length c, .slice E y.length d, .int .i64 i] w1 fun e w' => e = .returned (.int .i64 (plN m y i : Nat)) ∧ Below w1.heap.size w1 w' := fun i hi w1 hb => by
    have := hpl i (by omega) (by omega) w1 hb
    rwa [placeI_yes hz hi] at this
  have hok := rwM_ok hml (by omega) hyo
  have hno := rwM_no (l := m) (es := y)
  have hyes := rwM_yes (l := m) (es := y)
  have hlenX : (rwM m y).1.length ≤ 10000 := by
    cases hr : (rwM m y).2
    · rw [hno hr]; simp
    · rw [(hyes hr).2.2]; have := plN_le m y m.length; omega
  generalize rwM m y = rr at *
  obtain ⟨out, ok⟩ := rr
  simp only at hok hno hyes hlenX
  clear hpl hz
  go_enter Try.func25, Try.ntmps25
  go_wp2_with fail
  refine (shown18_any _).mono ?_
  rintro e w1 ⟨rfl, hb1⟩
  go_wp2_with fail
  refine (hf _ hb1).mono ?_
  rintro e w1' ⟨rfl, rfl⟩
  go_wp2_with fail
  refine (hg _ hb1).mono ?_
  rintro e w1'' ⟨rfl, rfl⟩
  clear hf hg
  go_wp2_with fail
  refine (hrw _ hb1).mono ?_
  rintro e w2 ⟨X, xc, rfl, hx1, hx2, hx3, hb2⟩
  clear hrw
  have hb12 := hb1.trans (hb2.mono hb1.size)
  simp only at hx1 hx2 ⊢
  go_wp2_with fail
  refine (hck _ hb12).mono ?_
  rintro e w3 ⟨rfl, hb3⟩
  clear hck
  have hb13 := hb12.trans (hb3.mono hb12.size)
  have hx13 := (hx1.below hb3).more hb3.size
  go_wp2_with fail
  refine (hst _ hb13).mono ?_
  rintro e w4 ⟨SA, sc, rfl, hss, hb4⟩
  clear hst hx1
  have hb14 := hb13.trans (hb4.mono hb13.size)
  have hx14 := (hx13.below hb4).more hb4.size
  obtain ⟨sb, so, rfl, hsb, hfl⟩ := hss.flag (by omega)
  clear hss hx13
  go_wp2_with fail
  go_loopw [52] (fun k wr => ∃ (j : Nat), j ≤ m.length ∧ k = .int .i64 j ∧ Below w4.heap.size w4 wr) (fun k _ => m.length - (intOf k).toNat)
  case atStart => exact ⟨0, by omega, rfl, Below.refl _ _⟩
  case round =>
    obtain ⟨j, hj, rfl, hbr⟩ := hrel
    have hbw := hb14.trans (hbr.mono hb14.size)
    by_cases hlt : j < m.length
    · have hcell := hfl j hlt
      have hpj := hplN j (by omega)
      have hpj1 : ∀ w1, Below w.heap.size w w1 → Calls Try.prog 67 #[.slice A m.length c, .slice E y.length d, .int .i64 ((j : Int) + 1)] w1 fun e w' => e = .returned (.int .i64 (plN m y (j + 1) : Nat)) ∧ Below w1.heap.size w1 w' := fun w1 hb => hplN (j + 1) (by omega) w1 hb
      have hb1 := plN_le m y j
      have hb2 := plN_le m y (j + 1)
      have hnxj := hnx j hlt
      have hgt := step_gt m j
      have hjm : (j : Int) < (m.length : Int) := by omega
      have hq0 : SB m j = false → plN m y (j + 1) = plN m y j := fun hs => plN_same hs
      have hq1 : SB m j = true → (editM y j).kind = 1 → plN m y (j + 1) = plN m y j := fun hs hk => by rw [plN_next hs, becL_drop hk]; rfl
      have hq2 : SB m j = true → (editM y j).kind = 2 → ((plN m y (j + 1) : Nat) : Int) - (plN m y j : Nat) = 1 := fun hs hk => by rw [plN_next hs, becL_other hk]; omega
      have hqk : SB m j = true → (editM y j).kind = 0 → ((plN m y (j + 1) : Nat) : Int) - (plN m y j : Nat) = (stepN m j : Int) - j := fun hs hk => by
        rw [plN_next hs]
        have := becL_len (l := m) (es := y) (i := j) (by omega) (by omega)
        omega
      clear hplN hnx hfl hpos
      generalize plN m y (j + 1) = q at *
      generalize plN m y j = pj at *
      generalize SB m j = s at *
      generalize stepN m j = sn at *
      by_cases hin : j < y.length
      · obtain ⟨p, o, rfl, hpp, c0, -⟩ := hy.edit hin
        have hin' : (j : Int) < (y.length : Int) := by omega
        by_cases hk2 : (edAt y j).kind ≤ 2
        · rw [editM_at hin hk2] at hq1 hq2 hqk
          have hk0 : 0 ≤ (edAt y j).kind := by rw [edAt_get hin]; exact hyk _ (List.getElem_mem hin)
          generalize (edAt y j).kind = K at *
          have hKK : K = 0 ∨ K = 1 ∨ K = 2 := by omega
          rcases hKK with rfl | rfl | rfl
          · have HK := Lib.hid (show (0 : Int) = 0 from rfl)
            cases s
            · have hqq : (q : Int) - (pj : Int) = 0 := by rw [hq0 rfl]; omega
              clear hq0 hq1 hq2 hqk
              go_wp2_with fail
              refine (hpj1 _ hbw).mono ?_
              rintro e w5 ⟨rfl, hb5⟩
              clear hpj1
              have hbw5 := hbw.trans (hb5.mono hbw.size)
              have hbr5 := hbr.trans (hb5.mono hbr.size)
              go_wp2_with fail
              refine (hpj _ hbw5).mono ?_
              rintro e w6 ⟨rfl, hb6⟩
              clear hpj
              have hbw6 := hbw5.trans (hb6.mono hbw5.size)
              have hbr6 := hbr5.trans (hb6.mono hbr5.size)
              have c0' := c0 _ hbw6
              have hc := hcell _ hbr6
              clear hnxj
              go_wp2_with fail
              go_roundw
              case rel => exact ⟨j + 1, by omega, by go_num, hbr6⟩
              case measure => simp [intOf]; omega
            · have hqq := hqk rfl HK.out
              clear hq0 hq1 hq2 hqk
              go_wp2_with fail
              refine (hpj1 _ hbw).mono ?_
              rintro e w5 ⟨rfl, hb5⟩
              clear hpj1
              have hbw5 := hbw.trans (hb5.mono hbw.size)
              have hbr5 := hbr.trans (hb5.mono hbr.size)
              go_wp2_with fail
              refine (hpj _ hbw5).mono ?_
              rintro e w6 ⟨rfl, hb6⟩
              clear hpj
              have hbw6 := hbw5.trans (hb6.mono hbw5.size)
              have hbr6 := hbr5.trans (hb6.mono hbr5.size)
              have c0' := c0 _ hbw6
              have hc := hcell _ hbr6
              go_wp2_with fail
              refine (hnxj _ hbw6).mono ?_
              rintro e w7 ⟨rfl, hb7⟩
              have hbr7 := hbr6.trans (hb7.mono hbr6.size)
              clear hnxj
              go_wp2_with fail
              go_roundw
              case rel => exact ⟨j + 1, by omega, by go_num, hbr7⟩
              case measure => simp [intOf]; omega
          · have HK := Lib.hid (show (1 : Int) = 1 from rfl)
            cases s
            · have hqq : (q : Int) - (pj : Int) = 0 := by rw [hq0 rfl]; omega
              clear hq0 hq1 hq2 hqk
              go_wp2_with fail
              refine (hpj1 _ hbw).mono ?_
              rintro e w5 ⟨rfl, hb5⟩
              clear hpj1
              have hbw5 := hbw.trans (hb5.mono hbw.size)
              have hbr5 := hbr.trans (hb5.mono hbr.size)
              go_wp2_with fail
              refine (hpj _ hbw5).mono ?_
              rintro e w6 ⟨rfl, hb6⟩
              clear hpj
              have hbw6 := hbw5.trans (hb6.mono hbw5.size)
              have hbr6 := hbr5.trans (hb6.mono hbr5.size)
              have c0' := c0 _ hbw6
              have hc := hcell _ hbr6
              clear hnxj
              go_wp2_with fail
              go_roundw
              case rel => exact ⟨j + 1, by omega, by go_num, hbr6⟩
              case measure => simp [intOf]; omega
            · have hqq : (q : Int) - (pj : Int) = 0 := by rw [hq1 rfl HK.out]; omega
              clear hq0 hq1 hq2 hqk
              go_wp2_with fail
              refine (hpj1 _ hbw).mono ?_
              rintro e w5 ⟨rfl, hb5⟩
              clear hpj1
              have hbw5 := hbw.trans (hb5.mono hbw.size)
              have hbr5 := hbr.trans (hb5.mono hbr.size)
              go_wp2_with fail
              refine (hpj _ hbw5).mono ?_
              rintro e w6 ⟨rfl, hb6⟩
              clear hpj
              have hbw6 := hbw5.trans (hb6.mono hbw5.size)
              have hbr6 := hbr5.trans (hb6.mono hbr5.size)
              have c0' := c0 _ hbw6
              have hc := hcell _ hbr6
              clear hnxj
              go_wp2_with fail
              go_roundw
              case rel => exact ⟨j + 1, by omega, by go_num, hbr6⟩
              case measure => simp [intOf]; omega
          · have HK := Lib.hid (show (2 : Int) = 2 from rfl)
            cases s
            · have hqq : (q : Int) - (pj : Int) = 0 := by rw [hq0 rfl]; omega
              clear hq0 hq1 hq2 hqk
              go_wp2_with fail
              refine (hpj1 _ hbw).mono ?_
              rintro e w5 ⟨rfl, hb5⟩
              clear hpj1
              have hbw5 := hbw.trans (hb5.mono hbw.size)
              have hbr5 := hbr.trans (hb5.mono hbr.size)
              go_wp2_with fail
              refine (hpj _ hbw5).mono ?_
              rintro e w6 ⟨rfl, hb6⟩
              clear hpj
              have hbw6 := hbw5.trans (hb6.mono hbw5.size)
              have hbr6 := hbr5.trans (hb6.mono hbr5.size)
              have c0' := c0 _ hbw6
              have hc := hcell _ hbr6
              clear hnxj
              go_wp2_with fail
              go_roundw
              case rel => exact ⟨j + 1, by omega, by go_num, hbr6⟩
              case measure => simp [intOf]; omega
            · have hqq := hq2 rfl HK.out
              clear hq0 hq1 hq2 hqk
              go_wp2_with fail
              refine (hpj1 _ hbw).mono ?_
              rintro e w5 ⟨rfl, hb5⟩
              clear hpj1
              have hbw5 := hbw.trans (hb5.mono hbw.size)
              have hbr5 := hbr.trans (hb5.mono hbr.size)
              go_wp2_with fail
              refine (hpj _ hbw5).mono ?_
              rintro e w6 ⟨rfl, hb6⟩
              clear hpj
              have hbw6 := hbw5.trans (hb6.mono hbw5.size)
              have hbr6 := hbr5.trans (hb6.mono hbr5.size)
              have c0' := c0 _ hbw6
              have hc := hcell _ hbr6
              clear hnxj
              go_wp2_with fail
              go_roundw
              case rel => exact ⟨j + 1, by omega, by go_num, hbr6⟩
              case measure => simp [intOf]; omega
        · have hk3 : 2 < (edAt y j).kind := by omega
          have HK := Lib.hid (editM_far (es := y) (i := j) (fun h => hk2 h.2))
          generalize (edAt y j).kind = K at *
          generalize (editM y j).kind = KK at *
          cases s
          · have hqq : (q : Int) - (pj : Int) = 0 := by rw [hq0 rfl]; omega
            clear hq0 hq1 hq2 hqk
            go_wp2_with fail
            refine (hpj1 _ hbw).mono ?_
            rintro e w5 ⟨rfl, hb5⟩
            clear hpj1
            have hbw5 := hbw.trans (hb5.mono hbw.size)
            have hbr5 := hbr.trans (hb5.mono hbr.size)
            go_wp2_with fail
            refine (hpj _ hbw5).mono ?_
            rintro e w6 ⟨rfl, hb6⟩
            clear hpj
            have hbw6 := hbw5.trans (hb6.mono hbw5.size)
            have hbr6 := hbr5.trans (hb6.mono hbr5.size)
            have c0' := c0 _ hbw6
            have hc := hcell _ hbr6
            clear hnxj
            go_wp2_with fail
            go_roundw
            case rel => exact ⟨j + 1, by omega, by go_num, hbr6⟩
            case measure => simp [intOf]; omega
          · have hqq := hqk rfl HK.out
            clear hq0 hq1 hq2 hqk
            go_wp2_with fail
            refine (hpj1 _ hbw).mono ?_
            rintro e w5 ⟨rfl, hb5⟩
            clear hpj1
            have hbw5 := hbw.trans (hb5.mono hbw.size)
            have hbr5 := hbr.trans (hb5.mono hbr.size)
            go_wp2_with fail
            refine (hpj _ hbw5).mono ?_
            rintro e w6 ⟨rfl, hb6⟩
            clear hpj
            have hbw6 := hbw5.trans (hb6.mono hbw5.size)
            have hbr6 := hbr5.trans (hb6.mono hbr5.size)
            have c0' := c0 _ hbw6
            have hc := hcell _ hbr6
            go_wp2_with fail
            refine (hnxj _ hbw6).mono ?_
            rintro e w7 ⟨rfl, hb7⟩
            have hbr7 := hbr6.trans (hb7.mono hbr6.size)
            clear hnxj
            go_wp2_with fail
            go_roundw
            case rel => exact ⟨j + 1, by omega, by go_num, hbr7⟩
            case measure => simp [intOf]; omega
      · have HK := Lib.hid (editM_far (es := y) (i := j) (fun h => hin h.1))
        have hin' : ¬ (j : Int) < (y.length : Int) := by omega
        generalize (editM y j).kind = KK at *
        cases s
        · have hqq : (q : Int) - (pj : Int) = 0 := by rw [hq0 rfl]; omega
          clear hq0 hq1 hq2 hqk
          go_wp2_with fail
          refine (hpj1 _ hbw).mono ?_
          rintro e w5 ⟨rfl, hb5⟩
          clear hpj1
          have hbw5 := hbw.trans (hb5.mono hbw.size)
          have hbr5 := hbr.trans (hb5.mono hbr.size)
          go_wp2_with fail
          refine (hpj _ hbw5).mono ?_
          rintro e w6 ⟨rfl, hb6⟩
          clear hpj
          have hbw6 := hbw5.trans (hb6.mono hbw5.size)
          have hbr6 := hbr5.trans (hb6.mono hbr5.size)
          have hc := hcell _ hbr6
          clear hnxj
          go_wp2_with fail
          go_roundw
          case rel => exact ⟨j + 1, by omega, by go_num, hbr6⟩
          case measure => simp [intOf]; omega
        · have hqq := hqk rfl HK.out
          clear hq0 hq1 hq2 hqk
          go_wp2_with fail
          refine (hpj1 _ hbw).mono ?_
          rintro e w5 ⟨rfl, hb5⟩
          clear hpj1
          have hbw5 := hbw.trans (hb5.mono hbw.size)
          have hbr5 := hbr.trans (hb5.mono hbr.size)
          go_wp2_with fail
          refine (hpj _ hbw5).mono ?_
          rintro e w6 ⟨rfl, hb6⟩
          clear hpj
          have hbw6 := hbw5.trans (hb6.mono hbw5.size)
          have hbr6 := hbr5.trans (hb6.mono hbr5.size)
          have hc := hcell _ hbr6
          go_wp2_with fail
          refine (hnxj _ hbw6).mono ?_
          rintro e w7 ⟨rfl, hb7⟩
          have hbr7 := hbr6.trans (hb7.mono hbr6.size)
          clear hnxj
          go_wp2_with fail
          go_roundw
          case rel => exact ⟨j + 1, by omega, by go_num, hbr7⟩
          case measure => simp [intOf]; omega
    · obtain rfl : j = m.length := by omega
      cases ok
      · have hnil := hno rfl
        subst hnil
        simp only [List.length_nil] at *
        clear hplN hnx hfl hx14
        go_wp2_with fail
        go_ret
        exact ⟨rfl, hbw⟩
      · obtain ⟨-, hc0, hlen⟩ := hyes rfl
        have hckX := rcheck_any out hok X xc (by omega) _ ((hx14.below hbr).more hbr.size)
        rw [check_zero hc0] at hckX
        have hpn := hplN m.length (Nat.le_refl _)
        have hp0 : ∀ w1, Below w.heap.size w w1 → Calls Try.prog 67 #[.slice A m.length c, .slice E y.length d, .int .i64 0] w1 fun e w' => e = .returned (.int .i64 0) ∧ Below w1.heap.size w1 w' := fun w1 hb => hplN 0 (by omega) w1 hb
        rw [← hlen] at hpn
        have HL := Lib.hid hlen
        clear hplN hnx hfl hx14 hlen hno hyes hok hc0
        try simp only at hckX
        go_wp2_with fail
        refine hckX.mono ?_
        rintro e w5 ⟨rfl, hb5⟩
        have hbw5 := hbw.trans (hb5.mono hbw.size)
        clear hckX
        go_wp2_with fail
        refine (hpn _ hbw5).mono ?_
        rintro e w6 ⟨rfl, hb6⟩
        have hbw6 := hbw5.trans (hb6.mono hbw5.size)
        clear hpn
        go_wp2_with fail
        refine (hp0 _ hbw6).mono ?_
        rintro e w7 ⟨rfl, hb7⟩
        have hbw7 := hbw6.trans (hb7.mono hbw6.size)
        go_wp2_with fail
        go_ret
        exact ⟨rfl, hbw7⟩
end Go.Proofs.Ytgbmeckhagklnaa
