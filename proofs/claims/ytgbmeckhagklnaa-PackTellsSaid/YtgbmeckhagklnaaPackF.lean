/- A program rewritten, by the reference. No statement is proved here. -/
import Derived.Test.YtgbmeckhagklnaaPackD
import Derived.Deep.AppendLies
namespace Go.Proofs.Ytgbmeckhagklnaa
open Go.RowKit
set_option linter.unusedSimpArgs false
set_option linter.unusedVariables false
set_option linter.unnecessarySimpa false
theorem placeI_in {l : List Insn} {es : List Edit} (hz : (checkM l).2 = 0) {tt : Int} : placeI l es tt < 0 ↔ ¬ (0 ≤ tt ∧ tt ≤ l.length) := by
  unfold placeI
  by_cases h : tt < 0 ∨ (l.length : Int) < tt
  · rw [if_pos (.inr h)]; omega
  · rw [if_neg (by rintro (h1 | h1); exact h1 hz; exact h h1)]; omega
theorem rr_no {l : List Insn} {es : List Edit} (hz : (checkM l).2 = 0) {i : Nat} {acc r : List Insn} {x : Insn} (hi : i < l.length) (hs : SB l i = true) (ha : rwA l es i = some acc) (hb : becL l es i = x :: r) (h : (rightM l es x acc.length (becT l es i)).2 = false) : rwM l es = ([], false) := by
  unfold rightM at h
  cases hg : goesB x
  · rw [hg] at h; simp at h
  · rw [hg, if_pos rfl] at h
    split at h
    · rename_i hp
      exact rwA_far hi hs ha hb hg ((placeI_in hz).1 hp)
    · cases h
theorem rr_yes {l : List Insn} {es : List Edit} (hz : (checkM l).2 = 0) {i : Nat} {acc r : List Insn} {x : Insn} (hs : SB l i = true) (ha : rwA l es i = some acc) (hb : becL l es i = x :: r) (h : (rightM l es x acc.length (becT l es i)).2 = true) : rwA l es (stepN l i) = some (acc ++ [(rightM l es x acc.length (becT l es i)).1] ++ r) := by
  unfold rightM at *
  cases hg : goesB x
  · rw [if_neg (by simp)]; exact rwA_plain hs ha hb hg
  · rw [hg, if_pos rfl] at h
    rw [if_pos rfl]
    split at h
    · cases h
    · rename_i hp
      rw [if_neg hp]
      have hin : 0 ≤ becT l es i ∧ becT l es i ≤ l.length := by
        by_cases hc : 0 ≤ becT l es i ∧ becT l es i ≤ l.length
        · exact hc
        · exact absurd ((placeI_in hz).2 hc) hp
      obtain ⟨t, ht⟩ := Int.eq_ofNat_of_zero_le hin.1
      have := rwA_hop (t := t) hs ha hb hg ht (by omega)
      rw [ht, placeI_yes hz (by omega)]
      exact this
theorem editM_kinds {es : List Edit} (hk : ∀ x ∈ es, 0 ≤ x.kind) (i : Nat) : (editM es i).kind = 0 ∨ (editM es i).kind = 1 ∨ (editM es i).kind = 2 := by
  unfold editM
  split
  · rename_i h
    have h0 : 0 ≤ (edAt es i).kind := by rw [edAt_get h.1]; exact hk _ (List.getElem_mem h.1)
    omega
  · exact .inl rfl
theorem cell_grown {w w1 : World} {row : Option Nat} {k o : Nat} {v : Value} (hg : w.grownBy w1 row) (hk : k < w.heap.size) (hne : row ≠ some k) (h : w.cell? ⟨k, o, none⟩ = some v) : w1.cell? ⟨k, o, none⟩ = some v := by
  rw [hg.cell_far ⟨k, o, none⟩ hk (fun e => hne e.symm)]; exact h
theorem own_far2 {A : Option Addr} {n c H k : Nat} (hlt : ∀ k, (Value.slice A n c).ownBlock = some k → k < H) (hk : H ≤ k) : (Value.slice A n c).ownBlock ≠ some k := fun he => absurd (hlt k he) (by omega)
set_option maxRecDepth 100000 in
set_option maxHeartbeats 16000000 in
theorem rrewrite_any (l : List Insn) (hl : ∀ x ∈ l, x.Ok) (A : Option Addr) (c : Nat) (hn : l.length ≤ 5000) (es : List Edit) (hes : EOk es) (hek : ∀ x ∈ es, 0 ≤ x.kind) (E : Option Addr) (d : Nat) (hm : es.length ≤ 100000) (w : World) (h : SAt w w.heap.size 5 A l.length (insnsV l)) (he : SAt w w.heap.size 7 E es.length (editsV es)) :
    Calls Try.prog 66 #[.slice A l.length c, .slice E es.length d] w (RwOk w (rwM l es)) := by
  obtain ⟨i0, hinf, hz0, hz1, hz2⟩ := info_parts info24
  have hr := rcheck_any l hl A c (by omega) w h
  by_cases hz : (checkM l).2 = 0
  case neg =>
    have HM := Lib.hid (rwM_not (es := es) hz)
    generalize checkM l = r at *
    obtain ⟨r0, r1⟩ := r
    simp only at hz
    go_enter Try.func66, Try.ntmps66
    go_wp2_with fail
    refine hr.mono ?_
    rintro e w1 ⟨rfl, hb1⟩
    go_wp2_with fail
    go_ret2
    exact ⟨none, 0, by rw [HM.out]; rfl, by rw [HM.out]; exact SAt.nil_, by rw [HM.out]; exact Nat.le_refl _, by simp [maxLen], hb1⟩
  have hp := check_prog hz
  have hpos := hp.pos
  rw [check_zero hz] at hr
  try simp only at hr
  have hta := fun (j : Nat) (hj : j < l.length) w1 (hb : Below w.heap.size w w1) => rtarget_any l hl A c (by omega) j (by omega) (by omega) w1 ((h.below hb).more hb.size)
  have hed := fun (j : Nat) (hj : j < l.length) w1 (hb : Below w.heap.size w w1) => redit18_any es E d hm j (by omega) w1 ((he.below hb).more hb.size)
  have hri := fun (x : Insn) (hx : x.Ok) (i : Nat) (hi : i ≤ 10000) (tt : Int) (h0 : -9223372036854775808 ≤ tt) (h1 : tt ≤ 9223372036854775807) w1 (hb : Below w.heap.size w w1) => right18_any l hl A c hn es E d hm x hx i hi tt h0 h1 w1 ((h.below hb).more hb.size) ((he.below hb).more hb.size)
  have hnx := fun (j : Nat) (hj : j < l.length) w1 (hb : Below w.heap.size w w1) => rnext_at l A c j (by omega) hj w w1 h hb
  obtain ⟨lb, lo, rfl, hlb, -⟩ := h.2 hpos
  have HZ := Lib.hid hz
  clear hz
  go_enter Try.func66, Try.ntmps66
  go_wp2_with fail
  refine hr.mono ?_
  rintro e w2 ⟨rfl, hb2⟩
  clear hr
  go_wp2_with fail
  go_loopw [9, 8] (fun k v wr => ∃ (j : Nat) (acc : List Insn) (B : Option Addr) (b : Nat), SB l j = true ∧ j ≤ l.length ∧ k = .int .i64 j ∧ v = .slice B acc.length b ∧ rwA l es j = some acc ∧ wr.ownsRow w2.heap.size 24 5 (.slice B acc.length b) acc.length (insnsV acc) ∧ Below w2.heap.size w2 wr) (fun k _ _ => l.length - (intOf k).toNat)
  case atStart => exact ⟨0, [], none, 0, rfl, by omega, rfl, rfl, rfl, World.ownsRow_nil _ _ _ _, Below.refl _ _⟩
  case round =>
    obtain ⟨j, acc, B, b, hs, hj, rfl, rfl, hacc, hown, hbr⟩ := hrel
    have hbw := hb2.trans (hbr.mono hb2.size)
    have hal := rwA_len j hacc
    have hpj := plN_le l es j
    have haok := rwA_ok hl hn hes j hj hacc
    have hal2 : acc.length ≤ 10000 := by omega
    have HAL := Lib.hid hal
    clear hal hpj
    by_cases hlt : j < l.length
    · obtain ⟨q0, q1, q2, q3, q4⟩ := insn_at h hlt
      have htj := hta j hlt
      have hej := hed j hlt
      have hnj := hnx j hlt
      have hgt := step_gt l j
      have hle := hp.step_le hlt hs
      have hxok := at_ok hl j
      have hmo := editM_ok hes j
      have hmk := editM_kinds hek j
      have HS := Lib.hid (SB_step hs)
      have HHALF := Lib.hid (fun hw => (hp.half hlt hs hw).1)
      have HBL : becL l es j = if (editM es j).kind = 1 then [] else if (editM es j).kind = 2 then [(editM es j).x] else if (at' l j).op = 24 then [at' l j, at' l (j + 1)] else [at' l j] := rfl
      have HBT : becT l es j = if (editM es j).kind = 1 then 0 else if (editM es j).kind = 2 then (editM es j).to else (targetM l j).1 := rfl
      have HNIL := Lib.hid (fun hb => rwA_nil (es := es) hs hacc hb)
      have HNO := Lib.hid (fun x r (hb : becL l es j = x :: r) hh => rr_no (es := es) HZ.out hlt hs hacc hb hh)
      have HYES := Lib.hid (fun x r (hb : becL l es j = x :: r) hh => rr_yes (es := es) HZ.out hs hacc hb hh)
      have hown' := hown
      have hlt0 := hown.lt
      have HLT := Lib.hid (fun (k : Nat) hk => (hlt0 k hk).2)
      have htb := toM_bound l hl (by omega) j hlt
      have htgb : -9223372036854775808 ≤ (targetM l j).1 ∧ (targetM l j).1 ≤ 9223372036854775807 := by
        unfold targetM
        split
        · exact ⟨by decide, by decide⟩
        split
        · exact ⟨by decide, by decide⟩
        · simp only [Int.toNat_natCast]; omega
      clear hta hed hnx hown haok hacc hlt0 htb
      have hat1 := fun (h1 : j + 1 < l.length) => insn_at h h1
      generalize becL l es j = BL at *
      generalize becT l es j = BT at *
      generalize targetM l j = tm at *
      obtain ⟨tg0, tg1⟩ := tm
      generalize editM es j = dd at *
      obtain ⟨y0, ⟨y1, y2, y3, y4, y5⟩, y6⟩ := dd
      generalize at' l (j + 1) = xn at *
      generalize at' l j = xx at *
      obtain ⟨x0, x1, x2, x3, x4⟩ := xx
      obtain ⟨m0, m1, m2, m3, m4⟩ := xn
      simp only [Edit.val] at q0 q1 q2 q3 q4 htj hej hmo hmk HBL HBT htgb hat1
      have HBLh := Lib.hid HBL
      have HBTh := Lib.hid HBT
      have HTG := Lib.hid htgb
      have HMO := Lib.hid hmo
      clear HBL HBT htgb hmo
      replace q0 := q0 _ hbw
      replace q1 := q1 _ hbw
      replace q2 := q2 _ hbw
      replace q3 := q3 _ hbw
      replace q4 := q4 _ hbw
      have hbr1 := hbr.alloc hbr.size (.cells #[.int .u8 x0, .int .u8 x1, .int .u8 x2, .int .i16 x3, .int .i32 x4] 24)
      have hbw1 := hbw.alloc hbw.size (.cells #[.int .u8 x0, .int .u8 x1, .int .u8 x2, .int .i16 x3, .int .i32 x4] 24)
      have hone := heap_alloc_new wr (.cells #[.int .u8 x0, .int .u8 x1, .int .u8 x2, .int .i16 x3, .int .i32 x4] 24)
      obtain ⟨f0, f1, f2, f3, f4⟩ := box24 (W := wr.alloc (.cells #[.int .u8 x0, .int .u8 x1, .int .u8 x2, .int .i16 x3, .int .i32 x4] 24)) (g := wr.heap.size) (B := wr.heap.size + 1) ⟨x0, x1, x2, x3, x4⟩ (by omega) hone
      have hfx := thaw24 (W := wr.alloc (.cells #[.int .u8 x0, .int .u8 x1, .int .u8 x2, .int .i16 x3, .int .i32 x4] 24)) (g := wr.heap.size) (B := wr.heap.size + 1) ⟨x0, x1, x2, x3, x4⟩ (by omega) hone
      simp only at f0 f1 f2 f3 f4
      have hsz : wr.heap.size + 1 = (wr.alloc (.cells #[.int .u8 x0, .int .u8 x1, .int .u8 x2, .int .i16 x3, .int .i32 x4] 24)).heap.size := by simp
      have HV := Lib.hid hsz
      have hown1 := hown'.alloc (.cells #[.int .u8 x0, .int .u8 x1, .int .u8 x2, .int .i16 x3, .int .i32 x4] 24)
      clear hsz hone hown'
      go_wp2_with fail
      generalize hV : wr.alloc (.cells #[.int .u8 x0, .int .u8 x1, .int .u8 x2, .int .i16 x3, .int .i32 x4] 24) = V at *
      clear hV q0 q1 q2 q3 q4
      refine (htj _ hbw1).mono ?_
      rintro e w3 ⟨rfl, hb3⟩
      clear htj
      have hbr3 := hbr1.trans (hb3.mono hbr1.size)
      have hbw3 := hbw1.trans (hb3.mono hbw1.size)
      have hown3 := own_keep hown1 hb3
      have hbV3 : Below (wr.heap.size + 1) V w3 := hb3.mono (by rw [HV.out]; exact Nat.le_refl _)
      clear hown1
      go_wp2_with fail
      refine (hej _ hbw3).mono ?_
      rintro e w4 ⟨rfl, hb4⟩
      clear hej
      have hbr4 := hbr3.trans (hb4.mono hbr3.size)
      have hbw4 := hbw3.trans (hb4.mono hbw3.size)
      have hown4 := own_keep hown3 hb4
      have hbV4 : Below (wr.heap.size + 1) V w4 := hbV3.trans (hb4.mono (Nat.le_trans (by rw [HV.out]; exact Nat.le_refl _) hb3.size))
      clear hown3
      have hbr5 := hbr4.alloc hbr4.size (.cells #[.int .u8 y0, .int .u8 y1, .int .u8 y2, .int .u8 y3, .int .i16 y4, .int .i32 y5, .int .i64 y6] 71)
      have hbw5 := hbw4.alloc hbw4.size (.cells #[.int .u8 y0, .int .u8 y1, .int .u8 y2, .int .u8 y3, .int .i16 y4, .int .i32 y5, .int .i64 y6] 71)
      have hown5 := hown4.alloc (.cells #[.int .u8 y0, .int .u8 y1, .int .u8 y2, .int .u8 y3, .int .i16 y4, .int .i32 y5, .int .i64 y6] 71)
      have hwr4 : wr.heap.size < w4.heap.size := by have := hbV4.size; have := HV.out; omega
      have hbV5 := hbV4.alloc hwr4 (.cells #[.int .u8 y0, .int .u8 y1, .int .u8 y2, .int .u8 y3, .int .i16 y4, .int .i32 y5, .int .i64 y6] 71)
      obtain ⟨e0, e1, e2, e3, e4, e5, e6⟩ := box71 (W := w4.alloc (.cells #[.int .u8 y0, .int .u8 y1, .int .u8 y2, .int .u8 y3, .int .i16 y4, .int .i32 y5, .int .i64 y6] 71)) (g := w4.heap.size) (B := w4.heap.size + 1) ⟨y0, ⟨y1, y2, y3, y4, y5⟩, y6⟩ (by omega) (heap_alloc_new _ _)
      simp only at e0 e1 e2 e3 e4 e5 e6
      have hs4 : w4.heap.size + 1 = (w4.alloc (.cells #[.int .u8 y0, .int .u8 y1, .int .u8 y2, .int .u8 y3, .int .i16 y4, .int .i32 y5, .int .i64 y6] 71)).heap.size := by simp
      have HV4 := Lib.hid hs4
      clear hs4 hown4
      rcases hmk with hK | hK | hK
      · subst hK
        have hBT : BT = tg0 := by rw [HBTh.out]; rfl
        subst hBT
        have e0' := e0 _ (Below.refl _ _)
        have f0' := f0 _ hbV5
        have f1' := f1 _ hbV5
        have f2' := f2 _ hbV5
        have f3' := f3 _ hbV5
        have f4' := f4 _ hbV5
        clear e0 e1 e2 e3 e4 e5 e6 f0 f1 f2 f3 f4 hfx
        have hrc := hri ⟨x0, x1, x2, x3, x4⟩ hxok acc.length hal2 BT HTG.out.1 HTG.out.2 _ hbw5
        by_cases hw : x0 = 24
        · have hBL : BL = [⟨x0, x1, x2, x3, x4⟩, ⟨m0, m1, m2, m3, m4⟩] := by rw [HBLh.out]; simp [hw]
          have hj1' := HHALF.out hw
          obtain ⟨g0, g1, g2, g3, g4⟩ := hat1 hj1'
          try simp only at g0 g1 g2 g3 g4
          have q24 : (x0 == 24) = true := by simp [hw]
          have HN1 := Lib.hid (fun hh => HNO.out _ _ hBL hh)
          have HY1 := Lib.hid (fun hh => HYES.out _ _ hBL hh)
          clear HNO HYES
          generalize rightM l es ⟨x0, x1, x2, x3, x4⟩ acc.length BT = ry at *
          obtain ⟨⟨n0, n1, n2, n3, n4⟩, ok⟩ := ry
          simp only [Insn.val] at hrc
          clear hw hat1
          go_wp2_with fail
          generalize hSS : w4.alloc (.cells #[.int .u8 0, .int .u8 y1, .int .u8 y2, .int .u8 y3, .int .i16 y4, .int .i32 y5, .int .i64 y6] 71) = S at *
          have hbwS := hbw5
          have hbrS := hbr5
          have hownS := hown5
          have kS := e0'
          have oS := f0'
          have hkS : w4.heap.size < S.heap.size := by have := HV4.out; omega
          have hoS : wr.heap.size < S.heap.size := by omega
          clear hSS
          refine hrc.mono ?_
          rintro e w6 ⟨rfl, hb6⟩
          clear hrc
          have hbw6 := hbwS.trans (hb6.mono hbwS.size)
          have hbr6 := hbrS.trans (hb6.mono hbrS.size)
          have hown6 := own_keep hownS hb6
          have hS6 := hb6.size
          have k6 := (hb6.cell (p := ⟨w4.heap.size, 0, none⟩) hkS).trans kS
          have o6 := (hb6.cell (p := ⟨wr.heap.size, 0, none⟩) hoS).trans oS
          have hbw7 := hbw6.alloc hbw6.size (.cells #[.int .u8 n0, .int .u8 n1, .int .u8 n2, .int .i16 n3, .int .i32 n4] 24)
          have hbr7 := hbr6.alloc hbr6.size (.cells #[.int .u8 n0, .int .u8 n1, .int .u8 n2, .int .i16 n3, .int .i32 n4] 24)
          have hown7 := hown6.alloc (.cells #[.int .u8 n0, .int .u8 n1, .int .u8 n2, .int .i16 n3, .int .i32 n4] 24)
          cases ok
          · have HF := Lib.hid (HN1.out rfl)
            clear HN1 HY1
            go_wp2_with fail
            go_ret2
            exact ⟨none, 0, by rw [HF.out]; rfl, by rw [HF.out]; exact SAt.nil_, by rw [HF.out]; exact Nat.le_refl _, by simp [maxLen], hbw7⟩
          · have HN := Lib.hid (HY1.out rfl)
            clear HN1 HY1 HNIL hri hBL
            go_wp2_with (at_builtin; refine wpList_append_box rfl (.tmp 67) (.tmp 69) 47 rfl w2.heap.size 24 i0 Insn.zero.val 5 12 Try.underlying47 hinf hz0 hz1 hz2 rfl (by decide) B acc.length b 1 _ rfl rfl (by simp) hown7 rfl ?c1 ?c2 ?c3 ?c4 ?c5)
            case c1 => first | exact ⟨rfl, rfl, rfl, rfl, rfl⟩ | (intro u hu; simp at hu; rcases hu with rfl | rfl | rfl | rfl | rfl <;> rfl) | simp
            case c2 => simp only [maxLen]; omega
            case c3 => omega
            case c4 => exact hbr7.size
            case c5 =>
              intro B8 b8 w8 h2 h3 h4 h5
              clear h5 hown6 hown7
              have hbr8 := hbr7.trans h4
              have hbw8 := hb2.trans (hbr8.mono hb2.size)
              have h6a : (w6.alloc (.cells #[.int .u8 n0, .int .u8 n1, .int .u8 n2, .int .i16 n3, .int .i32 n4] 24)).heap.size = w6.heap.size + 1 := by simp
              have k7 : (w6.alloc (.cells #[.int .u8 n0, .int .u8 n1, .int .u8 n2, .int .i16 n3, .int .i32 n4] 24)).cell? ⟨w4.heap.size, 0, none⟩ = some (.int .u8 0) := ((Below.refl w6.heap.size w6).alloc (Nat.le_refl _) (.cells #[.int .u8 n0, .int .u8 n1, .int .u8 n2, .int .i16 n3, .int .i32 n4] 24) |>.cell (p := ⟨w4.heap.size, 0, none⟩) (by show w4.heap.size < _; omega)).trans k6
              have k8 := cell_grown h3 (k := w4.heap.size) (by rw [h6a]; omega) (own_far2 HLT.out (by omega)) k7
              have o7 : (w6.alloc (.cells #[.int .u8 n0, .int .u8 n1, .int .u8 n2, .int .i16 n3, .int .i32 n4] 24)).cell? ⟨wr.heap.size, 0, none⟩ = some (.int .u8 x0) := ((Below.refl w6.heap.size w6).alloc (Nat.le_refl _) (.cells #[.int .u8 n0, .int .u8 n1, .int .u8 n2, .int .i16 n3, .int .i32 n4] 24) |>.cell (p := ⟨wr.heap.size, 0, none⟩) (by show wr.heap.size < _; omega)).trans o6
              have o8 := cell_grown h3 (k := wr.heap.size) (by rw [h6a]; omega) (own_far2 HLT.out (Nat.le_refl _)) o7
              clear k6 k7 o6 o7 h6a h3
              have s0 := g0 _ hbw8
              have s1 := g1 _ hbw8
              have s2 := g2 _ hbw8
              have s3 := g3 _ hbw8
              have s4 := g4 _ hbw8
              have hj1 : (j : Int) + 1 < (l.length : Int) := by omega
              go_wp2_with (at_builtin; refine wpList_append_box rfl (.tmp 79) (.tmp 85) 47 rfl w2.heap.size 24 i0 Insn.zero.val 5 12 Try.underlying47 hinf hz0 hz1 hz2 rfl (by decide) B8 (acc.length + 1) b8 1 _ rfl rfl (by simp) h2 rfl ?c1 ?c2 ?c3 ?c4 ?c5)
              case c1 => first | exact ⟨rfl, rfl, rfl, rfl, rfl⟩ | (intro u hu; simp at hu; rcases hu with rfl | rfl | rfl | rfl | rfl <;> rfl) | simp
              case c2 => simp only [maxLen]; omega
              case c3 => omega
              case c4 => exact hbr8.size
              case c5 =>
                intro B9 b9 w9 j2 j3 j4 j5
                clear j5 j3 h2
                have hbr9 := hbr8.trans j4
                have hbw9 := hb2.trans (hbr9.mono hb2.size)
                go_wp2_with fail
                refine (hnj _ hbw9).mono ?_
                rintro e w10 ⟨rfl, hb10⟩
                have hown10 := own_keep j2 hb10
                have hbr10 := hbr9.trans (hb10.mono hbr9.size)
                go_wp2_with fail
                go_roundw
                case rel =>
                  refine ⟨stepN l j, acc ++ [(⟨n0, n1, n2, n3, n4⟩ : Insn)] ++ [(⟨m0, m1, m2, m3, m4⟩ : Insn)], B9, b9, HS.out, hle, rfl, ?_, HN.out, ?_, hbr10⟩
                  · simp
                  · have e1 : (acc ++ [(⟨n0, n1, n2, n3, n4⟩ : Insn)] ++ [(⟨m0, m1, m2, m3, m4⟩ : Insn)]).length = acc.length + 1 + 1 := by simp
                    rw [e1, insnsV_append, insnsV_append, insnsV_single, insnsV_single, List.append_assoc]
                    skip
                    exact hown10
                case measure => simp [intOf]; omega
        · have hBL : BL = [⟨x0, x1, x2, x3, x4⟩] := by rw [HBLh.out]; simp [hw]
          have q24 : (x0 == 24) = false := by simp [hw]
          have HN1 := Lib.hid (fun hh => HNO.out _ _ hBL hh)
          have HY1 := Lib.hid (fun hh => HYES.out _ _ hBL hh)
          clear HNO HYES
          generalize rightM l es ⟨x0, x1, x2, x3, x4⟩ acc.length BT = ry at *
          obtain ⟨⟨n0, n1, n2, n3, n4⟩, ok⟩ := ry
          simp only [Insn.val] at hrc
          clear hw hat1
          go_wp2_with fail
          generalize hSS : w4.alloc (.cells #[.int .u8 0, .int .u8 y1, .int .u8 y2, .int .u8 y3, .int .i16 y4, .int .i32 y5, .int .i64 y6] 71) = S at *
          have hbwS := hbw5
          have hbrS := hbr5
          have hownS := hown5
          have kS := e0'
          have oS := f0'
          have hkS : w4.heap.size < S.heap.size := by have := HV4.out; omega
          have hoS : wr.heap.size < S.heap.size := by omega
          clear hSS
          refine hrc.mono ?_
          rintro e w6 ⟨rfl, hb6⟩
          clear hrc
          have hbw6 := hbwS.trans (hb6.mono hbwS.size)
          have hbr6 := hbrS.trans (hb6.mono hbrS.size)
          have hown6 := own_keep hownS hb6
          have hS6 := hb6.size
          have k6 := (hb6.cell (p := ⟨w4.heap.size, 0, none⟩) hkS).trans kS
          have o6 := (hb6.cell (p := ⟨wr.heap.size, 0, none⟩) hoS).trans oS
          have hbw7 := hbw6.alloc hbw6.size (.cells #[.int .u8 n0, .int .u8 n1, .int .u8 n2, .int .i16 n3, .int .i32 n4] 24)
          have hbr7 := hbr6.alloc hbr6.size (.cells #[.int .u8 n0, .int .u8 n1, .int .u8 n2, .int .i16 n3, .int .i32 n4] 24)
          have hown7 := hown6.alloc (.cells #[.int .u8 n0, .int .u8 n1, .int .u8 n2, .int .i16 n3, .int .i32 n4] 24)
          cases ok
          · have HF := Lib.hid (HN1.out rfl)
            clear HN1 HY1
            go_wp2_with fail
            go_ret2
            exact ⟨none, 0, by rw [HF.out]; rfl, by rw [HF.out]; exact SAt.nil_, by rw [HF.out]; exact Nat.le_refl _, by simp [maxLen], hbw7⟩
          · have HN := Lib.hid (HY1.out rfl)
            clear HN1 HY1 HNIL hri hBL
            go_wp2_with (at_builtin; refine wpList_append_box rfl (.tmp 67) (.tmp 69) 47 rfl w2.heap.size 24 i0 Insn.zero.val 5 12 Try.underlying47 hinf hz0 hz1 hz2 rfl (by decide) B acc.length b 1 _ rfl rfl (by simp) hown7 rfl ?c1 ?c2 ?c3 ?c4 ?c5)
            case c1 => first | exact ⟨rfl, rfl, rfl, rfl, rfl⟩ | (intro u hu; simp at hu; rcases hu with rfl | rfl | rfl | rfl | rfl <;> rfl) | simp
            case c2 => simp only [maxLen]; omega
            case c3 => omega
            case c4 => exact hbr7.size
            case c5 =>
              intro B8 b8 w8 h2 h3 h4 h5
              clear h5 hown6 hown7
              have hbr8 := hbr7.trans h4
              have hbw8 := hb2.trans (hbr8.mono hb2.size)
              have h6a : (w6.alloc (.cells #[.int .u8 n0, .int .u8 n1, .int .u8 n2, .int .i16 n3, .int .i32 n4] 24)).heap.size = w6.heap.size + 1 := by simp
              have k7 : (w6.alloc (.cells #[.int .u8 n0, .int .u8 n1, .int .u8 n2, .int .i16 n3, .int .i32 n4] 24)).cell? ⟨w4.heap.size, 0, none⟩ = some (.int .u8 0) := ((Below.refl w6.heap.size w6).alloc (Nat.le_refl _) (.cells #[.int .u8 n0, .int .u8 n1, .int .u8 n2, .int .i16 n3, .int .i32 n4] 24) |>.cell (p := ⟨w4.heap.size, 0, none⟩) (by show w4.heap.size < _; omega)).trans k6
              have k8 := cell_grown h3 (k := w4.heap.size) (by rw [h6a]; omega) (own_far2 HLT.out (by omega)) k7
              have o7 : (w6.alloc (.cells #[.int .u8 n0, .int .u8 n1, .int .u8 n2, .int .i16 n3, .int .i32 n4] 24)).cell? ⟨wr.heap.size, 0, none⟩ = some (.int .u8 x0) := ((Below.refl w6.heap.size w6).alloc (Nat.le_refl _) (.cells #[.int .u8 n0, .int .u8 n1, .int .u8 n2, .int .i16 n3, .int .i32 n4] 24) |>.cell (p := ⟨wr.heap.size, 0, none⟩) (by show wr.heap.size < _; omega)).trans o6
              have o8 := cell_grown h3 (k := wr.heap.size) (by rw [h6a]; omega) (own_far2 HLT.out (Nat.le_refl _)) o7
              clear k6 k7 o6 o7 h6a h3
              go_wp2_with fail
              refine (hnj _ hbw8).mono ?_
              rintro e w10 ⟨rfl, hb10⟩
              have hown10 := own_keep h2 hb10
              have hbr10 := hbr8.trans (hb10.mono hbr8.size)
              go_wp2_with fail
              go_roundw
              case rel =>
                refine ⟨stepN l j, acc ++ [(⟨n0, n1, n2, n3, n4⟩ : Insn)] ++ [], B8, b8, HS.out, hle, rfl, ?_, HN.out, ?_, hbr10⟩
                · simp
                · have e1 : (acc ++ [(⟨n0, n1, n2, n3, n4⟩ : Insn)] ++ []).length = acc.length + 1 := by simp
                  rw [e1, insnsV_append, insnsV_append, insnsV_single]
                  simp only [insnsV, List.map_nil, List.flatten_nil, List.append_nil]
                  exact hown10
              case measure => simp [intOf]; omega
      · subst hK
        have HN := Lib.hid (HNIL.out (by rw [HBLh.out]; rfl))
        have hbe := Below.refl (w4.heap.size + 1) (w4.alloc (.cells #[.int .u8 1, .int .u8 y1, .int .u8 y2, .int .u8 y3, .int .i16 y4, .int .i32 y5, .int .i64 y6] 71))
        replace e0 := e0 _ hbe
        clear HNIL HNO HYES e1 e2 e3 e4 e5 e6 f0 f1 f2 f3 f4 hfx hri hat1
        go_wp2_with fail
        refine (hnj _ hbw5).mono ?_
        rintro e w6 ⟨rfl, hb6⟩
        have hown6 := own_keep hown5 hb6
        have hbr6 := hbr5.trans (hb6.mono hbr5.size)
        go_wp2_with fail
        go_roundw
        case rel => exact ⟨stepN l j, acc, B, b, HS.out, hle, rfl, rfl, HN.out, hown6, hbr6⟩
        case measure => simp [intOf]; omega
      · subst hK
        have hBT : BT = y6 := by rw [HBTh.out]; rfl
        rw [hBT] at HNO HYES
        have hBL : BL = [⟨y1, y2, y3, y4, y5⟩] := by rw [HBLh.out]; rfl
        have hbe := Below.refl (w4.heap.size + 1) (w4.alloc (.cells #[.int .u8 2, .int .u8 y1, .int .u8 y2, .int .u8 y3, .int .i16 y4, .int .i32 y5, .int .i64 y6] 71))
        have e0' := e0 _ hbe
        have e1' := e1 _ hbe
        have e2' := e2 _ hbe
        have e3' := e3 _ hbe
        have e4' := e4 _ hbe
        have e5' := e5 _ hbe
        have e6' := e6 _ hbe
        have f0' := f0 _ hbV5
        have f1' := f1 _ hbV5
        have f2' := f2 _ hbV5
        have f3' := f3 _ hbV5
        have f4' := f4 _ hbV5
        have hfk := fun k => hfx k _ hbV5
        have hne : ¬ w4.heap.size = wr.heap.size := by omega
        have hne' : ¬ wr.heap.size = w4.heap.size := by omega
        clear e0 e1 e2 e3 e4 e5 e6 f0 f1 f2 f3 f4 hfx hat1 hbe
        go_upto_region 13 with fail
        generalize w4.alloc (.cells #[.int .u8 2, .int .u8 y1, .int .u8 y2, .int .u8 y3, .int .i16 y4, .int .i32 y5, .int .i64 y6] 71) = S0 at *
        have hbwS := below_five hbw5 (g := wr.heap.size) hbw.size y1 y2 y3 y4 y5
        have hbrS := below_five hbr5 (g := wr.heap.size) hbr.size y1 y2 y3 y4 y5
        have hownS := own_seven hown5 (own_far2 HLT.out (Nat.le_refl _)) y1 y2 y3 y4 y5
        have kS : ((((((S0).setCell ⟨wr.heap.size, 0, none⟩ (.int .u8 y1)).setCell ⟨wr.heap.size, 1, none⟩ (.int .u8 y2)).setCell ⟨wr.heap.size, 2, none⟩ (.int .u8 y3)).setCell ⟨wr.heap.size, 3, none⟩ (.int .i16 y4)).setCell ⟨wr.heap.size, 4, none⟩ (.int .i32 y5)).cell? ⟨w4.heap.size, 0, none⟩ = some (.int .u8 2) := by
          simp [go_sem, e0', hne, hne']
        have hsS : ((((((S0).setCell ⟨wr.heap.size, 0, none⟩ (.int .u8 y1)).setCell ⟨wr.heap.size, 1, none⟩ (.int .u8 y2)).setCell ⟨wr.heap.size, 2, none⟩ (.int .u8 y3)).setCell ⟨wr.heap.size, 3, none⟩ (.int .i16 y4)).setCell ⟨wr.heap.size, 4, none⟩ (.int .i32 y5)).heap.size = w4.heap.size + 1 := by rw [HV4.out]; simp
        have HSS := Lib.hid hsS
        clear hsS
        have hrc := hri ⟨y1, y2, y3, y4, y5⟩ HMO.out.1 acc.length hal2 y6 HMO.out.2.1 HMO.out.2.2 _ hbwS
        have HN1 := Lib.hid (fun hh => HNO.out _ _ hBL hh)
        have HY1 := Lib.hid (fun hh => HYES.out _ _ hBL hh)
        clear HNO HYES
        generalize rightM l es ⟨y1, y2, y3, y4, y5⟩ acc.length y6 = ry at *
        obtain ⟨⟨n0, n1, n2, n3, n4⟩, ok⟩ := ry
        simp only [Insn.val] at hrc
        clear hbw5 hbr5 hown5 hbV5 hbV4 HV4
        go_wp2_with fail
        generalize hSS : ((((((S0).setCell ⟨wr.heap.size, 0, none⟩ (.int .u8 y1)).setCell ⟨wr.heap.size, 1, none⟩ (.int .u8 y2)).setCell ⟨wr.heap.size, 2, none⟩ (.int .u8 y3)).setCell ⟨wr.heap.size, 3, none⟩ (.int .i16 y4)).setCell ⟨wr.heap.size, 4, none⟩ (.int .i32 y5)) = S at *
        have hkS : w4.heap.size < S.heap.size := by have := HSS.out; omega
        clear hSS
        refine hrc.mono ?_
        rintro e w6 ⟨rfl, hb6⟩
        clear hrc
        have hbw6 := hbwS.trans (hb6.mono hbwS.size)
        have hbr6 := hbrS.trans (hb6.mono hbrS.size)
        have hown6 := own_keep hownS hb6
        have hS6 := hb6.size
        have k6 := (hb6.cell (p := ⟨w4.heap.size, 0, none⟩) hkS).trans kS
        have hbw7 := hbw6.alloc hbw6.size (.cells #[.int .u8 n0, .int .u8 n1, .int .u8 n2, .int .i16 n3, .int .i32 n4] 24)
        have hbr7 := hbr6.alloc hbr6.size (.cells #[.int .u8 n0, .int .u8 n1, .int .u8 n2, .int .i16 n3, .int .i32 n4] 24)
        have hown7 := hown6.alloc (.cells #[.int .u8 n0, .int .u8 n1, .int .u8 n2, .int .i16 n3, .int .i32 n4] 24)
        cases ok
        · have HF := Lib.hid (HN1.out rfl)
          clear HN1 HY1
          go_wp2_with fail
          go_ret2
          exact ⟨none, 0, by rw [HF.out]; rfl, by rw [HF.out]; exact SAt.nil_, by rw [HF.out]; exact Nat.le_refl _, by simp [maxLen], hbw7⟩
        · have HN := Lib.hid (HY1.out rfl)
          clear HN1 HY1 HNIL hri hBL
          go_wp2_with (at_builtin; refine wpList_append_box rfl (.tmp 67) (.tmp 69) 47 rfl w2.heap.size 24 i0 Insn.zero.val 5 12 Try.underlying47 hinf hz0 hz1 hz2 rfl (by decide) B acc.length b 1 _ rfl rfl (by simp) hown7 rfl ?c1 ?c2 ?c3 ?c4 ?c5)
          case c1 => first | exact ⟨rfl, rfl, rfl, rfl, rfl⟩ | (intro u hu; simp at hu; rcases hu with rfl | rfl | rfl | rfl | rfl <;> rfl) | simp
          case c2 => simp only [maxLen]; omega
          case c3 => omega
          case c4 => exact hbr7.size
          case c5 =>
            intro B8 b8 w8 h2 h3 h4 h5
            clear h5 hown6 hown7
            have hbr8 := hbr7.trans h4
            have hbw8 := hb2.trans (hbr8.mono hb2.size)
            have h6a : (w6.alloc (.cells #[.int .u8 n0, .int .u8 n1, .int .u8 n2, .int .i16 n3, .int .i32 n4] 24)).heap.size = w6.heap.size + 1 := by simp
            have k7 : (w6.alloc (.cells #[.int .u8 n0, .int .u8 n1, .int .u8 n2, .int .i16 n3, .int .i32 n4] 24)).cell? ⟨w4.heap.size, 0, none⟩ = some (.int .u8 2) := ((Below.refl w6.heap.size w6).alloc (Nat.le_refl _) (.cells #[.int .u8 n0, .int .u8 n1, .int .u8 n2, .int .i16 n3, .int .i32 n4] 24) |>.cell (p := ⟨w4.heap.size, 0, none⟩) (by show w4.heap.size < _; omega)).trans k6
            have k8 := cell_grown h3 (k := w4.heap.size) (by rw [h6a]; omega) (own_far2 HLT.out (by omega)) k7
            clear k6 k7  h6a h3
            go_wp2_with fail
            refine (hnj _ hbw8).mono ?_
            rintro e w10 ⟨rfl, hb10⟩
            have hown10 := own_keep h2 hb10
            have hbr10 := hbr8.trans (hb10.mono hbr8.size)
            go_wp2_with fail
            go_roundw
            case rel =>
              refine ⟨stepN l j, acc ++ [(⟨n0, n1, n2, n3, n4⟩ : Insn)] ++ [], B8, b8, HS.out, hle, rfl, ?_, HN.out, ?_, hbr10⟩
              · simp
              · have e1 : (acc ++ [(⟨n0, n1, n2, n3, n4⟩ : Insn)] ++ []).length = acc.length + 1 := by simp
                rw [e1, insnsV_append, insnsV_append, insnsV_single]
                simp only [insnsV, List.map_nil, List.flatten_nil, List.append_nil]
                exact hown10
            case measure => simp [intOf]; omega
    · obtain rfl : j = l.length := by omega
      have hcX := rcheck_any acc haok B b (by omega) _ (SAt.own hown)
      have HM := Lib.hid (rwM_end HZ.out hacc)
      have hcap := own_cap hown
      have hmax := own_max hown
      have hsat := SAt.own hown
      clear hacc hown hnx hta hed hri haok
      generalize checkM acc = cc at *
      obtain ⟨cc0, cc1⟩ := cc
      simp only at HM
      go_wp2_with fail
      refine hcX.mono ?_
      rintro e w4 ⟨rfl, hb4⟩
      have hbw4 := hbw.trans (hb4.mono hbw.size)
      clear hcX
      by_cases hc0 : cc1 = 0
      · rw [if_pos hc0] at HM
        subst hc0
        go_wp2_with fail
        go_ret2
        exact ⟨B, b, by rw [HM.out]; rfl, by rw [HM.out]; exact (hsat.below hb4).more hb4.size, by rw [HM.out]; exact hcap, hmax, hbw4⟩
      · rw [if_neg hc0] at HM
        go_wp2_with fail
        go_ret2
        exact ⟨none, 0, by rw [HM.out]; rfl, by rw [HM.out]; exact SAt.nil_, by rw [HM.out]; exact Nat.le_refl _, by simp [maxLen], hbw4⟩
end Go.Proofs.Ytgbmeckhagklnaa
