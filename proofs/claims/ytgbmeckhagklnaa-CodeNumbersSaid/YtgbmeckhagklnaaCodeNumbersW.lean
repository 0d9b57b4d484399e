/- The law CodeNumbers, walked. No statement is proved here. -/
import Derived.Test.YtgbmeckhagklnaaEncode
namespace Go.Proofs.Ytgbmeckhagklnaa
open Go.RowKit
set_option linter.unusedSimpArgs false
set_option linter.unusedVariables false
set_option linter.unnecessarySimpa false
theorem own_some {w : World} {base e size n c : Nat} {A : Option Addr} {xs : List Value} (h : w.ownsRow base e size (.slice A n c) n xs) (hn : 0 < n) : ∃ g, A = some ⟨g, 0, none⟩ ∧ base ≤ g ∧ g < w.heap.size := by
  rcases h.2 with ⟨hv, h0⟩ | ⟨g, cap, cur, hv, hb, hh, _⟩
  · omega
  · injection hv with hA
    exact ⟨g, hA, hb, (Array.getElem?_eq_some_iff.1 hh).1⟩
theorem insnsV_one (l : List Insn) : ∀ u ∈ insnsV l, u.oneCell' = true := by
  intro u hu
  simp only [insnsV, List.mem_flatten, List.mem_map] at hu
  obtain ⟨_, ⟨x, _, rfl⟩, hu⟩ := hu
  simp [Insn.cells] at hu
  rcases hu with rfl | rfl | rfl | rfl | rfl <;> rfl
theorem insnsV_set {l : List Insn} {i : Nat} (hi : i < l.length) (n : Int) : (insnsV l).set (i * 5 + 4) (.int .i32 n) = insnsV (l.set i (withImm (at' l i) n)) := by
  apply List.ext_getElem?
  intro k
  rcases Nat.lt_or_ge k (l.length * 5) with hk | hk
  · have e : k = k / 5 * 5 + k % 5 := by omega
    have h1 : (insnsV l)[k]? = (at' l (k / 5)).cells[k % 5]? := by
      conv => lhs; rw [e]
      exact insnsV_get (by omega) (by omega)
    have h2 : (insnsV (l.set i (withImm (at' l i) n)))[k]? = (at' (l.set i (withImm (at' l i) n)) (k / 5)).cells[k % 5]? := by
      conv => lhs; rw [e]
      exact insnsV_get (by rw [List.length_set]; omega) (by omega)
    rw [h2, at_set hi, List.getElem?_set, h1]
    by_cases hk1 : k / 5 = i
    · rw [if_pos hk1, hk1]
      have hm : k % 5 = 0 ∨ k % 5 = 1 ∨ k % 5 = 2 ∨ k % 5 = 3 ∨ k % 5 = 4 := by omega
      rcases hm with hm | hm | hm | hm | hm
      · rw [if_neg (by omega), hm]; rfl
      · rw [if_neg (by omega), hm]; rfl
      · rw [if_neg (by omega), hm]; rfl
      · rw [if_neg (by omega), hm]; rfl
      · rw [if_pos (by omega), if_pos (by rw [insnsV_length]; omega), hm]; rfl
    · rw [if_neg hk1, if_neg (by omega)]
  · rw [List.getElem?_eq_none (by rw [List.length_set, insnsV_length]; exact hk), List.getElem?_eq_none (by rw [insnsV_length, List.length_set]; exact hk)]
theorem eq_what (r : What) (w : World) : (binOp .eql 44 r.val r.val).run Try.prog w = .ok (.bool true) w := by
  simp [go_sem]
theorem tmod_nat (a n : Nat) : Int.tmod (a : Int) (n : Int) = ((a % n : Nat) : Int) := rfl
set_option maxRecDepth 100000 in
set_option maxHeartbeats 16000000 in
theorem codeNumbers_walk (l : List Insn) (hl : ∀ x ∈ l, x.Ok) (A : Option Addr) (c : Nat) (hc : l.length ≤ c) (hc' : c ≤ maxLen) (a : Nat) (ha : a ≤ 65535) (n : Int) (hn0 : -2147483648 ≤ n) (hn1 : n ≤ 2147483647) (w : World)
    (h : SAt w w.heap.size 5 A l.length (insnsV l)) :
    Calls Try.prog 11 #[.slice A l.length c, .int .u16 a, .int .i32 n] w fun e w' => e = .returned (.bool true) ∧ Below w.heap.size w w' := by
  obtain ⟨i0, hinf, hz0, hz1, hz2⟩ := info_parts info24
  have hf := few_is l A c hc hc'
  have hm := h.few 520
  have hml : ∀ x ∈ l.take 520, x.Ok := fun x hx => hl x (List.mem_of_mem_take hx)
  have hmn : (l.take 520).length ≤ 520 := by simp; omega
  have hfew : ∀ w1, Below w.heap.size w w1 → Calls Try.prog 43 #[.slice A l.length c] w1 fun e w' => e = .returned (.slice A (l.take 520).length c) ∧ w' = w1 := fun w1 hb1 => hf w1 ((h.below hb1).more hb1.size)
  clear hf
  generalize l.take 520 = m at *
  clear h hl hc hc'
  go_enter Try.func11, Try.ntmps11
  go_wp2_with fail
  refine (shown07_any _).mono ?_
  rintro e w1 ⟨rfl, hb1⟩
  go_wp2_with fail
  have hbA := hb1.alloc hb1.size (.cells #[] 24)
  have hown0 := own_new w1 w1.heap.size #[] 24 5 0 0 w.heap.size rfl hb1.size (Nat.le_refl _) (by simp [maxLen]) rfl
  simp only [List.take_zero, Nat.zero_mul] at hown0
  refine (hfew _ hbA).mono ?_
  rintro e w1' ⟨rfl, rfl⟩
  have hat := (hm.below hbA).more hbA.size
  have hszA := hbA.size
  clear hfew
  go_wp2_with (at_builtin; refine wpList_append_sat rfl (.tmp 20) (.tmp 22) 47 rfl w.heap.size 24 i0 Insn.zero.val 5 12 Try.underlying47 hinf hz0 hz1 hz2 rfl (by decide) _ 0 0 _ rfl hown0 _ A m.length c _ rfl hat (insnsV_one _) ?c2 ?c3 ?c4 ?c5)
  case c2 => simp only [maxLen]; omega
  case c3 => omega
  case c4 => exact hszA
  case c5 =>
    intro X xc w2 hown h3 hb2 h5
    clear h3 h5 hown0 hat
    try simp only [Nat.zero_add, List.nil_append] at hown
    try simp only [Nat.zero_add]
    have hb12 := hbA.trans hb2
    have hck := check_any m hml X xc (by omega) w2 (SAt.own hown)
    go_wp2_with fail
    refine hck.mono ?_
    rintro e w3 ⟨rfl, hb3⟩
    clear hck
    have hb13 := hb12.trans (hb3.mono hb12.size)
    have hown3 := own_keep hown hb3
    clear hown
    by_cases he : (checkM m).2 = 0
    · have hp := check_prog he
      rw [check_zero he]
      simp only
      have h1 := hp.pos
      obtain ⟨g, rfl, hg1, hg2⟩ := own_some hown3 (by omega)
      have hlt : a % m.length < m.length := Nat.mod_lt _ (by omega)
      have htm := tmod_nat a m.length
      have hne : ¬ ((m.length : Int) = 0) := by omega
      generalize hi : a % m.length = i at *
      have hsat3 := SAt.own hown3
      have hB3 : Below w3.heap.size w3 w3 := Below.refl _ _
      obtain ⟨b, o, hbo, hb, c0, c1, c2, c3, c4⟩ := hsat3.insn hlt
      simp only [Option.some.injEq, Addr.mk.injEq, and_true] at hbo
      obtain ⟨rfl, rfl⟩ := hbo
      simp only [Nat.zero_add] at c0 c1 c2 c3 c4
      have hsem := fun w => sem_any (at' m i) (at_ok hml i) w
      have hpo : SB m i = true → (sem (at' m i)).2 = true := fun hs => hp.ok hlt hs
      have hps : SB m i = true → freeImm (sem (at' m i)).1 = true → Prog (m.set i (withImm (at' m i) n)) := fun hs hf => hp.set hlt hs hf n
      have hpi : SB m i = true → freeImm (sem (at' m i)).1 = true → sem (withImm (at' m i) n) = sem (at' m i) := fun hs hf => sem_imm n (hp.ok hlt hs) hf
      go_wp2_with fail
      refine (hsem _).mono ?_
      rintro e w4 ⟨rfl, hb4⟩
      clear hsem
      generalize hR : sem (at' m i) = r at *
      obtain ⟨⟨r0, r1, r2, r3, r4, r5⟩, rb⟩ := r
      simp only at hpo hps hpi ⊢
      have hb14 := hb13.trans (hb4.mono hb13.size)
      have hs34 := hb4.size
      have hbX := hb4.alloc hb4.size (What.obj ⟨r0, r1, r2, r3, r4, r5⟩)
      have hst := starts_any m (some ⟨g, 0, none⟩) xc (by omega) _ ((hsat3.below hbX).more hbX.size)
      obtain ⟨g0, g1, g2, g3, g4, g5⟩ := box44 (W := w4.alloc (What.obj ⟨r0, r1, r2, r3, r4, r5⟩)) (g := w4.heap.size) (B := w4.heap.size + 1) ⟨r0, r1, r2, r3, r4, r5⟩ (by omega) (heap_alloc_new _ _)
      simp only at g0 g1 g2 g3 g4 g5
      go_wp2_with fail
      refine hst.mono ?_
      rintro e w5 ⟨SA, sc, rfl, hss, hb5⟩
      clear hst
      obtain ⟨sb, so, rfl, hsb, hfl⟩ := hss.flag (by omega)
      clear hss
      have hb5' : Below (w4.heap.size + 1) (w4.alloc (What.obj ⟨r0, r1, r2, r3, r4, r5⟩)) w5 := hb5.mono (by simp)
      have hbY := hbX.trans (hb5.mono hbX.size)
      have hb15 := hb13.trans (hbY.mono hb13.size)
      have hB5 : Below w5.heap.size w5 w5 := Below.refl _ _
      have hcell := hfl i hlt _ hB5
      replace g0 := g0 w5 hb5'
      replace g1 := g1 w5 hb5'
      replace g2 := g2 w5 hb5'
      replace g3 := g3 w5 hb5'
      replace g4 := g4 w5 hb5'
      replace g5 := g5 w5 hb5'
      cases hs : SB m i
      · rw [hs] at hcell
        go_wp2_with fail
        go_ret
        exact ⟨rfl, hb15⟩
      rw [hs] at hcell
      have hyes := hpo hs
      try simp only at hyes
      subst hyes
      replace hps := hps hs
      replace hpi := hpi hs
      clear hpo
      cases r3
      · by_cases e1 : r0 = 1
        · subst e1
          by_cases e128 : r1 = 128
          · subst e128
            go_wp2_with fail
            go_ret
            exact ⟨rfl, hb15⟩
          · have q128 : (r1 == 128) = false := by simp [e128]
            have hfree : freeImm ⟨1, r1, r2, false, r4, r5⟩ = true := by simp [freeImm, q128]
            replace hps := hps hfree
            replace hpi := hpi hfree
            have hck2 := prog_check hps
            have hml2 : ∀ x ∈ m.set i (withImm (at' m i) n), x.Ok := by
              intro x hx
              rcases List.mem_or_eq_of_mem_set hx with h2 | h2
              · exact hml x h2
              · rw [h2]
                obtain ⟨p1, p2, p3, p4, p5, p6, p7, p8, p9, p10⟩ := at_ok hml i
                exact ⟨p1, p2, p3, p4, p5, p6, p7, p8, hn0, hn1⟩
            have hsem2 := fun w => sem_any (withImm (at' m i) n) (by
                obtain ⟨p1, p2, p3, p4, p5, p6, p7, p8, p9, p10⟩ := at_ok hml i
                exact ⟨p1, p2, p3, p4, p5, p6, p7, p8, hn0, hn1⟩) w
            rw [hpi] at hsem2
            have hown5 := own_keep (own_keep hown3 hb4 |>.alloc (What.obj ⟨1, r1, r2, false, r4, r5⟩)) hb5
            have hfz := hown5.frozenAt (i * 5 + 4)
            obtain ⟨hst5, -⟩ := hown5.stored (i * 5 + 4) (.int .i32 n)
            rw [insnsV_set hlt n] at hst5
            have hlen2 : (m.set i (withImm (at' m i) n)).length = m.length := by simp
            have hsat5 := SAt.own hst5
            generalize m.set i (withImm (at' m i) n) = m2 at *
            have c4' := c4 _ hbY
            have hbZ : Below w.heap.size w (w5.setCell ⟨g, i * 5 + 4, none⟩ (.int .i32 n)) := hb15.setCell hg1 _
            have d0 : (w5.setCell ⟨g, i * 5 + 4, none⟩ (.int .i32 n)).cell? ⟨g, i * 5, none⟩ = some (.int .u8 (at' m i).op) := (World.cell?_setCell_other _ _ _ _ (by simp)).trans (c0 _ hbY)
            have d1 : (w5.setCell ⟨g, i * 5 + 4, none⟩ (.int .i32 n)).cell? ⟨g, i * 5 + 1, none⟩ = some (.int .u8 (at' m i).dst) := (World.cell?_setCell_other _ _ _ _ (by simp)).trans (c1 _ hbY)
            have d2 : (w5.setCell ⟨g, i * 5 + 4, none⟩ (.int .i32 n)).cell? ⟨g, i * 5 + 2, none⟩ = some (.int .u8 (at' m i).src) := (World.cell?_setCell_other _ _ _ _ (by simp)).trans (c2 _ hbY)
            have d3 : (w5.setCell ⟨g, i * 5 + 4, none⟩ (.int .i32 n)).cell? ⟨g, i * 5 + 3, none⟩ = some (.int .i16 (at' m i).off) := (World.cell?_setCell_other _ _ _ _ (by simp)).trans (c3 _ hbY)
            have d4 : (w5.setCell ⟨g, i * 5 + 4, none⟩ (.int .i32 n)).cell? ⟨g, i * 5 + 4, none⟩ = some (.int .i32 n) := World.cell?_setCell_same _ _ _ c4'
            have hgw : w4.heap.size ≠ g := by omega
            have hw45 : w4.heap.size + 1 ≤ w5.heap.size := by have := hb5'.size; simpa using this
            clear c0 c1 c2 c3 c4 hown3 hown5 hst5 hsat3 hfl
            go_wp2_with fail
            generalize hW6 : w5.setCell ⟨g, i * 5 + 4, none⟩ (.int .i32 n) = W6 at *
            have hs6 : W6.heap.size = w5.heap.size := by subst hW6; simp
            have x0 : W6.cell? ⟨w4.heap.size, 0, none⟩ = some (.int .u8 1) := by subst hW6; exact (World.cell?_setCell_other _ _ _ _ (by simp [hgw])).trans g0
            have x1 : W6.cell? ⟨w4.heap.size, 1, none⟩ = some (.int .u8 r1) := by subst hW6; exact (World.cell?_setCell_other _ _ _ _ (by simp [hgw])).trans g1
            have x2 : W6.cell? ⟨w4.heap.size, 2, none⟩ = some (.bool r2) := by subst hW6; exact (World.cell?_setCell_other _ _ _ _ (by simp [hgw])).trans g2
            have x3 : W6.cell? ⟨w4.heap.size, 3, none⟩ = some (.bool false) := by subst hW6; exact (World.cell?_setCell_other _ _ _ _ (by simp [hgw])).trans g3
            have x4 : W6.cell? ⟨w4.heap.size, 4, none⟩ = some (.bool r4) := by subst hW6; exact (World.cell?_setCell_other _ _ _ _ (by simp [hgw])).trans g4
            have x5 : W6.cell? ⟨w4.heap.size, 5, none⟩ = some (.int .i64 r5) := by subst hW6; exact (World.cell?_setCell_other _ _ _ _ (by simp [hgw])).trans g5
            refine (hsem2 _).mono ?_
            rintro e w6 ⟨rfl, hb6⟩
            clear hsem2
            obtain ⟨y0, y1, y2, y3, y4, y5⟩ := box44 (W := w6.alloc (What.obj ⟨1, r1, r2, false, r4, r5⟩)) (g := w6.heap.size) (B := w6.heap.size + 1) ⟨1, r1, r2, false, r4, r5⟩ (by omega) (heap_alloc_new _ _)
            simp only at y0 y1 y2 y3 y4 y5
            have hb6A := hb6.alloc hb6.size (What.obj ⟨1, r1, r2, false, r4, r5⟩)
            have hb16 := hbZ.trans (hb6A.mono hbZ.size)
            have hsat6 := (hsat5.below hb6A).more hb6A.size
            rw [← hlen2] at hsat6
            have hck3 := check_any m2 hml2 (some ⟨g, 0, none⟩) xc (by omega) _ hsat6
            rw [hlen2, hck2] at hck3
            clear hsat5 hsat6 hck2 hml2 hps d0 d1 d2 d3 d4 hfz c4'
            go_wp2_with fail
            refine hck3.mono ?_
            rintro e w7 ⟨rfl, hb7⟩
            clear hck3
            have hb17 := hb16.trans (hb7.mono hb16.size)
            have hb7' := hb7.mono (show w6.heap.size + 1 ≤ _ by simp)
            have hb67 := hb6A.trans (hb7.mono hb6A.size)
            replace y0 := y0 w7 hb7'
            replace y1 := y1 w7 hb7'
            replace y2 := y2 w7 hb7'
            replace y3 := y3 w7 hb7'
            replace y4 := y4 w7 hb7'
            replace y5 := y5 w7 hb7'
            have hlt6 : w4.heap.size < W6.heap.size := by omega
            replace x0 := (hb67.cell (p := ⟨w4.heap.size, 0, none⟩) hlt6).trans x0
            replace x1 := (hb67.cell (p := ⟨w4.heap.size, 1, none⟩) hlt6).trans x1
            replace x2 := (hb67.cell (p := ⟨w4.heap.size, 2, none⟩) hlt6).trans x2
            replace x3 := (hb67.cell (p := ⟨w4.heap.size, 3, none⟩) hlt6).trans x3
            replace x4 := (hb67.cell (p := ⟨w4.heap.size, 4, none⟩) hlt6).trans x4
            replace x5 := (hb67.cell (p := ⟨w4.heap.size, 5, none⟩) hlt6).trans x5
            have heq := eq_what ⟨1, r1, r2, false, r4, r5⟩
            simp only [What.val] at heq
            go_wp2_with fail
            go_ret
            exact ⟨rfl, hb17⟩
        by_cases e6 : r0 = 6
        · subst e6
          have hfree : freeImm ⟨6, r1, r2, false, r4, r5⟩ = true := by simp [freeImm]
          replace hps := hps hfree
          replace hpi := hpi hfree
          have hck2 := prog_check hps
          have hml2 : ∀ x ∈ m.set i (withImm (at' m i) n), x.Ok := by
            intro x hx
            rcases List.mem_or_eq_of_mem_set hx with h2 | h2
            · exact hml x h2
            · rw [h2]
              obtain ⟨p1, p2, p3, p4, p5, p6, p7, p8, p9, p10⟩ := at_ok hml i
              exact ⟨p1, p2, p3, p4, p5, p6, p7, p8, hn0, hn1⟩
          have hsem2 := fun w => sem_any (withImm (at' m i) n) (by
              obtain ⟨p1, p2, p3, p4, p5, p6, p7, p8, p9, p10⟩ := at_ok hml i
              exact ⟨p1, p2, p3, p4, p5, p6, p7, p8, hn0, hn1⟩) w
          rw [hpi] at hsem2
          have hown5 := own_keep (own_keep hown3 hb4 |>.alloc (What.obj ⟨6, r1, r2, false, r4, r5⟩)) hb5
          have hfz := hown5.frozenAt (i * 5 + 4)
          obtain ⟨hst5, -⟩ := hown5.stored (i * 5 + 4) (.int .i32 n)
          rw [insnsV_set hlt n] at hst5
          have hlen2 : (m.set i (withImm (at' m i) n)).length = m.length := by simp
          have hsat5 := SAt.own hst5
          generalize m.set i (withImm (at' m i) n) = m2 at *
          have c4' := c4 _ hbY
          have hbZ : Below w.heap.size w (w5.setCell ⟨g, i * 5 + 4, none⟩ (.int .i32 n)) := hb15.setCell hg1 _
          have d0 : (w5.setCell ⟨g, i * 5 + 4, none⟩ (.int .i32 n)).cell? ⟨g, i * 5, none⟩ = some (.int .u8 (at' m i).op) := (World.cell?_setCell_other _ _ _ _ (by simp)).trans (c0 _ hbY)
          have d1 : (w5.setCell ⟨g, i * 5 + 4, none⟩ (.int .i32 n)).cell? ⟨g, i * 5 + 1, none⟩ = some (.int .u8 (at' m i).dst) := (World.cell?_setCell_other _ _ _ _ (by simp)).trans (c1 _ hbY)
          have d2 : (w5.setCell ⟨g, i * 5 + 4, none⟩ (.int .i32 n)).cell? ⟨g, i * 5 + 2, none⟩ = some (.int .u8 (at' m i).src) := (World.cell?_setCell_other _ _ _ _ (by simp)).trans (c2 _ hbY)
          have d3 : (w5.setCell ⟨g, i * 5 + 4, none⟩ (.int .i32 n)).cell? ⟨g, i * 5 + 3, none⟩ = some (.int .i16 (at' m i).off) := (World.cell?_setCell_other _ _ _ _ (by simp)).trans (c3 _ hbY)
          have d4 : (w5.setCell ⟨g, i * 5 + 4, none⟩ (.int .i32 n)).cell? ⟨g, i * 5 + 4, none⟩ = some (.int .i32 n) := World.cell?_setCell_same _ _ _ c4'
          have hgw : w4.heap.size ≠ g := by omega
          have hw45 : w4.heap.size + 1 ≤ w5.heap.size := by have := hb5'.size; simpa using this
          clear c0 c1 c2 c3 c4 hown3 hown5 hst5 hsat3 hfl
          go_wp2_with fail
          generalize hW6 : w5.setCell ⟨g, i * 5 + 4, none⟩ (.int .i32 n) = W6 at *
          have hs6 : W6.heap.size = w5.heap.size := by subst hW6; simp
          have x0 : W6.cell? ⟨w4.heap.size, 0, none⟩ = some (.int .u8 6) := by subst hW6; exact (World.cell?_setCell_other _ _ _ _ (by simp [hgw])).trans g0
          have x1 : W6.cell? ⟨w4.heap.size, 1, none⟩ = some (.int .u8 r1) := by subst hW6; exact (World.cell?_setCell_other _ _ _ _ (by simp [hgw])).trans g1
          have x2 : W6.cell? ⟨w4.heap.size, 2, none⟩ = some (.bool r2) := by subst hW6; exact (World.cell?_setCell_other _ _ _ _ (by simp [hgw])).trans g2
          have x3 : W6.cell? ⟨w4.heap.size, 3, none⟩ = some (.bool false) := by subst hW6; exact (World.cell?_setCell_other _ _ _ _ (by simp [hgw])).trans g3
          have x4 : W6.cell? ⟨w4.heap.size, 4, none⟩ = some (.bool r4) := by subst hW6; exact (World.cell?_setCell_other _ _ _ _ (by simp [hgw])).trans g4
          have x5 : W6.cell? ⟨w4.heap.size, 5, none⟩ = some (.int .i64 r5) := by subst hW6; exact (World.cell?_setCell_other _ _ _ _ (by simp [hgw])).trans g5
          refine (hsem2 _).mono ?_
          rintro e w6 ⟨rfl, hb6⟩
          clear hsem2
          obtain ⟨y0, y1, y2, y3, y4, y5⟩ := box44 (W := w6.alloc (What.obj ⟨6, r1, r2, false, r4, r5⟩)) (g := w6.heap.size) (B := w6.heap.size + 1) ⟨6, r1, r2, false, r4, r5⟩ (by omega) (heap_alloc_new _ _)
          simp only at y0 y1 y2 y3 y4 y5
          have hb6A := hb6.alloc hb6.size (What.obj ⟨6, r1, r2, false, r4, r5⟩)
          have hb16 := hbZ.trans (hb6A.mono hbZ.size)
          have hsat6 := (hsat5.below hb6A).more hb6A.size
          rw [← hlen2] at hsat6
          have hck3 := check_any m2 hml2 (some ⟨g, 0, none⟩) xc (by omega) _ hsat6
          rw [hlen2, hck2] at hck3
          clear hsat5 hsat6 hck2 hml2 hps d0 d1 d2 d3 d4 hfz c4'
          go_wp2_with fail
          refine hck3.mono ?_
          rintro e w7 ⟨rfl, hb7⟩
          clear hck3
          have hb17 := hb16.trans (hb7.mono hb16.size)
          have hb7' := hb7.mono (show w6.heap.size + 1 ≤ _ by simp)
          have hb67 := hb6A.trans (hb7.mono hb6A.size)
          replace y0 := y0 w7 hb7'
          replace y1 := y1 w7 hb7'
          replace y2 := y2 w7 hb7'
          replace y3 := y3 w7 hb7'
          replace y4 := y4 w7 hb7'
          replace y5 := y5 w7 hb7'
          have hlt6 : w4.heap.size < W6.heap.size := by omega
          replace x0 := (hb67.cell (p := ⟨w4.heap.size, 0, none⟩) hlt6).trans x0
          replace x1 := (hb67.cell (p := ⟨w4.heap.size, 1, none⟩) hlt6).trans x1
          replace x2 := (hb67.cell (p := ⟨w4.heap.size, 2, none⟩) hlt6).trans x2
          replace x3 := (hb67.cell (p := ⟨w4.heap.size, 3, none⟩) hlt6).trans x3
          replace x4 := (hb67.cell (p := ⟨w4.heap.size, 4, none⟩) hlt6).trans x4
          replace x5 := (hb67.cell (p := ⟨w4.heap.size, 5, none⟩) hlt6).trans x5
          have heq := eq_what ⟨6, r1, r2, false, r4, r5⟩
          simp only [What.val] at heq
          go_wp2_with fail
          go_ret
          exact ⟨rfl, hb17⟩
        by_cases e10 : r0 = 10
        · subst e10
          have hfree : freeImm ⟨10, r1, r2, false, r4, r5⟩ = true := by simp [freeImm]
          replace hps := hps hfree
          replace hpi := hpi hfree
          have hck2 := prog_check hps
          have hml2 : ∀ x ∈ m.set i (withImm (at' m i) n), x.Ok := by
            intro x hx
            rcases List.mem_or_eq_of_mem_set hx with h2 | h2
            · exact hml x h2
            · rw [h2]
              obtain ⟨p1, p2, p3, p4, p5, p6, p7, p8, p9, p10⟩ := at_ok hml i
              exact ⟨p1, p2, p3, p4, p5, p6, p7, p8, hn0, hn1⟩
          have hsem2 := fun w => sem_any (withImm (at' m i) n) (by
              obtain ⟨p1, p2, p3, p4, p5, p6, p7, p8, p9, p10⟩ := at_ok hml i
              exact ⟨p1, p2, p3, p4, p5, p6, p7, p8, hn0, hn1⟩) w
          rw [hpi] at hsem2
          have hown5 := own_keep (own_keep hown3 hb4 |>.alloc (What.obj ⟨10, r1, r2, false, r4, r5⟩)) hb5
          have hfz := hown5.frozenAt (i * 5 + 4)
          obtain ⟨hst5, -⟩ := hown5.stored (i * 5 + 4) (.int .i32 n)
          rw [insnsV_set hlt n] at hst5
          have hlen2 : (m.set i (withImm (at' m i) n)).length = m.length := by simp
          have hsat5 := SAt.own hst5
          generalize m.set i (withImm (at' m i) n) = m2 at *
          have c4' := c4 _ hbY
          have hbZ : Below w.heap.size w (w5.setCell ⟨g, i * 5 + 4, none⟩ (.int .i32 n)) := hb15.setCell hg1 _
          have d0 : (w5.setCell ⟨g, i * 5 + 4, none⟩ (.int .i32 n)).cell? ⟨g, i * 5, none⟩ = some (.int .u8 (at' m i).op) := (World.cell?_setCell_other _ _ _ _ (by simp)).trans (c0 _ hbY)
          have d1 : (w5.setCell ⟨g, i * 5 + 4, none⟩ (.int .i32 n)).cell? ⟨g, i * 5 + 1, none⟩ = some (.int .u8 (at' m i).dst) := (World.cell?_setCell_other _ _ _ _ (by simp)).trans (c1 _ hbY)
          have d2 : (w5.setCell ⟨g, i * 5 + 4, none⟩ (.int .i32 n)).cell? ⟨g, i * 5 + 2, none⟩ = some (.int .u8 (at' m i).src) := (World.cell?_setCell_other _ _ _ _ (by simp)).trans (c2 _ hbY)
          have d3 : (w5.setCell ⟨g, i * 5 + 4, none⟩ (.int .i32 n)).cell? ⟨g, i * 5 + 3, none⟩ = some (.int .i16 (at' m i).off) := (World.cell?_setCell_other _ _ _ _ (by simp)).trans (c3 _ hbY)
          have d4 : (w5.setCell ⟨g, i * 5 + 4, none⟩ (.int .i32 n)).cell? ⟨g, i * 5 + 4, none⟩ = some (.int .i32 n) := World.cell?_setCell_same _ _ _ c4'
          have hgw : w4.heap.size ≠ g := by omega
          have hw45 : w4.heap.size + 1 ≤ w5.heap.size := by have := hb5'.size; simpa using this
          clear c0 c1 c2 c3 c4 hown3 hown5 hst5 hsat3 hfl
          go_wp2_with fail
          generalize hW6 : w5.setCell ⟨g, i * 5 + 4, none⟩ (.int .i32 n) = W6 at *
          have hs6 : W6.heap.size = w5.heap.size := by subst hW6; simp
          have x0 : W6.cell? ⟨w4.heap.size, 0, none⟩ = some (.int .u8 10) := by subst hW6; exact (World.cell?_setCell_other _ _ _ _ (by simp [hgw])).trans g0
          have x1 : W6.cell? ⟨w4.heap.size, 1, none⟩ = some (.int .u8 r1) := by subst hW6; exact (World.cell?_setCell_other _ _ _ _ (by simp [hgw])).trans g1
          have x2 : W6.cell? ⟨w4.heap.size, 2, none⟩ = some (.bool r2) := by subst hW6; exact (World.cell?_setCell_other _ _ _ _ (by simp [hgw])).trans g2
          have x3 : W6.cell? ⟨w4.heap.size, 3, none⟩ = some (.bool false) := by subst hW6; exact (World.cell?_setCell_other _ _ _ _ (by simp [hgw])).trans g3
          have x4 : W6.cell? ⟨w4.heap.size, 4, none⟩ = some (.bool r4) := by subst hW6; exact (World.cell?_setCell_other _ _ _ _ (by simp [hgw])).trans g4
          have x5 : W6.cell? ⟨w4.heap.size, 5, none⟩ = some (.int .i64 r5) := by subst hW6; exact (World.cell?_setCell_other _ _ _ _ (by simp [hgw])).trans g5
          refine (hsem2 _).mono ?_
          rintro e w6 ⟨rfl, hb6⟩
          clear hsem2
          obtain ⟨y0, y1, y2, y3, y4, y5⟩ := box44 (W := w6.alloc (What.obj ⟨10, r1, r2, false, r4, r5⟩)) (g := w6.heap.size) (B := w6.heap.size + 1) ⟨10, r1, r2, false, r4, r5⟩ (by omega) (heap_alloc_new _ _)
          simp only at y0 y1 y2 y3 y4 y5
          have hb6A := hb6.alloc hb6.size (What.obj ⟨10, r1, r2, false, r4, r5⟩)
          have hb16 := hbZ.trans (hb6A.mono hbZ.size)
          have hsat6 := (hsat5.below hb6A).more hb6A.size
          rw [← hlen2] at hsat6
          have hck3 := check_any m2 hml2 (some ⟨g, 0, none⟩) xc (by omega) _ hsat6
          rw [hlen2, hck2] at hck3
          clear hsat5 hsat6 hck2 hml2 hps d0 d1 d2 d3 d4 hfz c4'
          go_wp2_with fail
          refine hck3.mono ?_
          rintro e w7 ⟨rfl, hb7⟩
          clear hck3
          have hb17 := hb16.trans (hb7.mono hb16.size)
          have hb7' := hb7.mono (show w6.heap.size + 1 ≤ _ by simp)
          have hb67 := hb6A.trans (hb7.mono hb6A.size)
          replace y0 := y0 w7 hb7'
          replace y1 := y1 w7 hb7'
          replace y2 := y2 w7 hb7'
          replace y3 := y3 w7 hb7'
          replace y4 := y4 w7 hb7'
          replace y5 := y5 w7 hb7'
          have hlt6 : w4.heap.size < W6.heap.size := by omega
          replace x0 := (hb67.cell (p := ⟨w4.heap.size, 0, none⟩) hlt6).trans x0
          replace x1 := (hb67.cell (p := ⟨w4.heap.size, 1, none⟩) hlt6).trans x1
          replace x2 := (hb67.cell (p := ⟨w4.heap.size, 2, none⟩) hlt6).trans x2
          replace x3 := (hb67.cell (p := ⟨w4.heap.size, 3, none⟩) hlt6).trans x3
          replace x4 := (hb67.cell (p := ⟨w4.heap.size, 4, none⟩) hlt6).trans x4
          replace x5 := (hb67.cell (p := ⟨w4.heap.size, 5, none⟩) hlt6).trans x5
          have heq := eq_what ⟨10, r1, r2, false, r4, r5⟩
          simp only [What.val] at heq
          go_wp2_with fail
          go_ret
          exact ⟨rfl, hb17⟩
        by_cases e11 : r0 = 11
        · subst e11
          have hfree : freeImm ⟨11, r1, r2, false, r4, r5⟩ = true := by simp [freeImm]
          replace hps := hps hfree
          replace hpi := hpi hfree
          have hck2 := prog_check hps
          have hml2 : ∀ x ∈ m.set i (withImm (at' m i) n), x.Ok := by
            intro x hx
            rcases List.mem_or_eq_of_mem_set hx with h2 | h2
            · exact hml x h2
            · rw [h2]
              obtain ⟨p1, p2, p3, p4, p5, p6, p7, p8, p9, p10⟩ := at_ok hml i
              exact ⟨p1, p2, p3, p4, p5, p6, p7, p8, hn0, hn1⟩
          have hsem2 := fun w => sem_any (withImm (at' m i) n) (by
              obtain ⟨p1, p2, p3, p4, p5, p6, p7, p8, p9, p10⟩ := at_ok hml i
              exact ⟨p1, p2, p3, p4, p5, p6, p7, p8, hn0, hn1⟩) w
          rw [hpi] at hsem2
          have hown5 := own_keep (own_keep hown3 hb4 |>.alloc (What.obj ⟨11, r1, r2, false, r4, r5⟩)) hb5
          have hfz := hown5.frozenAt (i * 5 + 4)
          obtain ⟨hst5, -⟩ := hown5.stored (i * 5 + 4) (.int .i32 n)
          rw [insnsV_set hlt n] at hst5
          have hlen2 : (m.set i (withImm (at' m i) n)).length = m.length := by simp
          have hsat5 := SAt.own hst5
          generalize m.set i (withImm (at' m i) n) = m2 at *
          have c4' := c4 _ hbY
          have hbZ : Below w.heap.size w (w5.setCell ⟨g, i * 5 + 4, none⟩ (.int .i32 n)) := hb15.setCell hg1 _
          have d0 : (w5.setCell ⟨g, i * 5 + 4, none⟩ (.int .i32 n)).cell? ⟨g, i * 5, none⟩ = some (.int .u8 (at' m i).op) := (World.cell?_setCell_other _ _ _ _ (by simp)).trans (c0 _ hbY)
          have d1 : (w5.setCell ⟨g, i * 5 + 4, none⟩ (.int .i32 n)).cell? ⟨g, i * 5 + 1, none⟩ = some (.int .u8 (at' m i).dst) := (World.cell?_setCell_other _ _ _ _ (by simp)).trans (c1 _ hbY)
          have d2 : (w5.setCell ⟨g, i * 5 + 4, none⟩ (.int .i32 n)).cell? ⟨g, i * 5 + 2, none⟩ = some (.int .u8 (at' m i).src) := (World.cell?_setCell_other _ _ _ _ (by simp)).trans (c2 _ hbY)
          have d3 : (w5.setCell ⟨g, i * 5 + 4, none⟩ (.int .i32 n)).cell? ⟨g, i * 5 + 3, none⟩ = some (.int .i16 (at' m i).off) := (World.cell?_setCell_other _ _ _ _ (by simp)).trans (c3 _ hbY)
          have d4 : (w5.setCell ⟨g, i * 5 + 4, none⟩ (.int .i32 n)).cell? ⟨g, i * 5 + 4, none⟩ = some (.int .i32 n) := World.cell?_setCell_same _ _ _ c4'
          have hgw : w4.heap.size ≠ g := by omega
          have hw45 : w4.heap.size + 1 ≤ w5.heap.size := by have := hb5'.size; simpa using this
          clear c0 c1 c2 c3 c4 hown3 hown5 hst5 hsat3 hfl
          go_wp2_with fail
          generalize hW6 : w5.setCell ⟨g, i * 5 + 4, none⟩ (.int .i32 n) = W6 at *
          have hs6 : W6.heap.size = w5.heap.size := by subst hW6; simp
          have x0 : W6.cell? ⟨w4.heap.size, 0, none⟩ = some (.int .u8 11) := by subst hW6; exact (World.cell?_setCell_other _ _ _ _ (by simp [hgw])).trans g0
          have x1 : W6.cell? ⟨w4.heap.size, 1, none⟩ = some (.int .u8 r1) := by subst hW6; exact (World.cell?_setCell_other _ _ _ _ (by simp [hgw])).trans g1
          have x2 : W6.cell? ⟨w4.heap.size, 2, none⟩ = some (.bool r2) := by subst hW6; exact (World.cell?_setCell_other _ _ _ _ (by simp [hgw])).trans g2
          have x3 : W6.cell? ⟨w4.heap.size, 3, none⟩ = some (.bool false) := by subst hW6; exact (World.cell?_setCell_other _ _ _ _ (by simp [hgw])).trans g3
          have x4 : W6.cell? ⟨w4.heap.size, 4, none⟩ = some (.bool r4) := by subst hW6; exact (World.cell?_setCell_other _ _ _ _ (by simp [hgw])).trans g4
          have x5 : W6.cell? ⟨w4.heap.size, 5, none⟩ = some (.int .i64 r5) := by subst hW6; exact (World.cell?_setCell_other _ _ _ _ (by simp [hgw])).trans g5
          refine (hsem2 _).mono ?_
          rintro e w6 ⟨rfl, hb6⟩
          clear hsem2
          obtain ⟨y0, y1, y2, y3, y4, y5⟩ := box44 (W := w6.alloc (What.obj ⟨11, r1, r2, false, r4, r5⟩)) (g := w6.heap.size) (B := w6.heap.size + 1) ⟨11, r1, r2, false, r4, r5⟩ (by omega) (heap_alloc_new _ _)
          simp only at y0 y1 y2 y3 y4 y5
          have hb6A := hb6.alloc hb6.size (What.obj ⟨11, r1, r2, false, r4, r5⟩)
          have hb16 := hbZ.trans (hb6A.mono hbZ.size)
          have hsat6 := (hsat5.below hb6A).more hb6A.size
          rw [← hlen2] at hsat6
          have hck3 := check_any m2 hml2 (some ⟨g, 0, none⟩) xc (by omega) _ hsat6
          rw [hlen2, hck2] at hck3
          clear hsat5 hsat6 hck2 hml2 hps d0 d1 d2 d3 d4 hfz c4'
          go_wp2_with fail
          refine hck3.mono ?_
          rintro e w7 ⟨rfl, hb7⟩
          clear hck3
          have hb17 := hb16.trans (hb7.mono hb16.size)
          have hb7' := hb7.mono (show w6.heap.size + 1 ≤ _ by simp)
          have hb67 := hb6A.trans (hb7.mono hb6A.size)
          replace y0 := y0 w7 hb7'
          replace y1 := y1 w7 hb7'
          replace y2 := y2 w7 hb7'
          replace y3 := y3 w7 hb7'
          replace y4 := y4 w7 hb7'
          replace y5 := y5 w7 hb7'
          have hlt6 : w4.heap.size < W6.heap.size := by omega
          replace x0 := (hb67.cell (p := ⟨w4.heap.size, 0, none⟩) hlt6).trans x0
          replace x1 := (hb67.cell (p := ⟨w4.heap.size, 1, none⟩) hlt6).trans x1
          replace x2 := (hb67.cell (p := ⟨w4.heap.size, 2, none⟩) hlt6).trans x2
          replace x3 := (hb67.cell (p := ⟨w4.heap.size, 3, none⟩) hlt6).trans x3
          replace x4 := (hb67.cell (p := ⟨w4.heap.size, 4, none⟩) hlt6).trans x4
          replace x5 := (hb67.cell (p := ⟨w4.heap.size, 5, none⟩) hlt6).trans x5
          have heq := eq_what ⟨11, r1, r2, false, r4, r5⟩
          simp only [What.val] at heq
          go_wp2_with fail
          go_ret
          exact ⟨rfl, hb17⟩
        have n1 : (r0 != 1) = true := by simp [e1]
        have n6 : (r0 != 6) = true := by simp [e6]
        have n10 : (r0 != 10) = true := by simp [e10]
        have n11 : (r0 != 11) = true := by simp [e11]
        have m1 : (r0 == 1) = false := by simp [e1]
        go_wp2_with fail
        go_ret
        exact ⟨rfl, hb15⟩
      · go_wp2_with fail
        go_ret
        exact ⟨rfl, hb15⟩
    · generalize checkM m = r at *
      obtain ⟨r0, r1⟩ := r
      simp only at *
      go_wp2_with fail
      go_ret
      exact ⟨by rw [show (r1 != 0) = true by simpa using he]; rfl, hb13⟩
end Go.Proofs.Ytgbmeckhagklnaa
