/- The law FoldNone, walked. No statement is proved here. -/
import Derived.Test.YtbfgffmebniooaaGreatFoldEx
namespace Go.Proofs.YtbfgffmebniooaaGreat
open Go.RowKit
set_option linter.unusedSimpArgs false
set_option linter.unusedVariables false
set_option linter.unnecessarySimpa false
/-- Was an instruction done, by a list of those that were? -/
def isAt (bs : List Bool) (i : Nat) : Bool := if bs.length ≤ i then true else bs.getD i false
/-- Notes that say nothing. -/
def noneN (bs : List Bool) (n : Nat) : List Note := (List.range n).map fun i => ⟨isAt bs i, isAt bs i, isAt bs i, 0, 0, 0, 0, 0, 0, 0⟩
theorem noneN_len (bs : List Bool) (n : Nat) : (noneN bs n).length = n := by simp [noneN]
theorem noneN_next (bs : List Bool) (n : Nat) : notesV (noneN bs (n + 1)) = notesV (noneN bs n) ++ [.bool (isAt bs n), .bool (isAt bs n), .bool (isAt bs n), .int .u8 0, .int .u64 0, .int .u64 0, .int .u64 0, .int .u64 0, .int .i64 0, .int .i64 0] := by
  unfold noneN
  rw [List.range_succ, List.map_append, notesV_append]
  rfl
theorem noneN_ok (bs : List Bool) (n : Nat) : ∀ x ∈ noneN bs n, x.Ok := by
  intro x hx
  obtain ⟨i, _, rfl⟩ := List.mem_map.1 hx
  exact ⟨Int.le_refl 0, by show (0 : Int) ≤ _; omega⟩
theorem noneN_at {bs : List Bool} {n i : Nat} (h : i < n) : noteAt (noneN bs n) i = ⟨isAt bs i, isAt bs i, isAt bs i, 0, 0, 0, 0, 0, 0, 0⟩ := by
  rw [noteAt_get (by rw [noneN_len]; exact h)]
  simp [noneN]
theorem foldF_none {l : List Insn} {bs : List Bool} {n i : Nat} (h : i < n) : foldF l (noneN bs n) i = if SB l i = true ∧ isAt bs i = false then Edit.drop else Edit.none := by
  unfold foldF
  rw [noneN_at h]
  cases hs : SB l i
  · simp
  · rw [if_pos rfl]
    cases hi : isAt bs i
    · rw [foldX_gone rfl]; simp
    · rw [if_neg (by simp)]
      by_cases hk : kindM l i = 10
      · rw [foldX_branch rfl hk]; rfl
      · by_cases hm : kindM l i = 1 ∨ kindM l i = 2 ∨ kindM l i = 3 ∨ kindM l i = 5
        · rw [foldX_movs rfl hm]
          rw [if_neg]
          simp [movR]
        · exact foldX_other rfl (by omega)
theorem SAt.bit {W : World} {B : Nat} {A : Option Addr} {l : List Bool} (h : SAt W B 1 A l.length (boolsV l)) {k : Nat} (hk : k < l.length) :
    ∃ b o, A = some ⟨b, o, none⟩ ∧ b < B ∧ ∀ w', Below B W w' → w'.cell? ⟨b, o + k, none⟩ = some (.bool (l.getD k false)) := by
  obtain ⟨b, o, rfl, hb, hc⟩ := h.2 (by omega)
  refine ⟨b, o, rfl, hb, fun w' hw => ?_⟩
  rw [hw.cell hb]
  exact hc k _ (by simp [boolsV, List.getElem?_map, List.getD_eq_getElem?_getD, hk])
theorem info43n : (Tryz.prog.info? 43).map (fun i => (i.zero, i.size, i.bytes)) = some (some Note.zero.val, 10, 64) := by kernel_rfl
set_option maxRecDepth 100000 in
set_option maxHeartbeats 16000000 in
theorem foldNone_walk (l : List Insn) (hl : ∀ x ∈ l, x.Ok) (A : Option Addr) (c : Nat) (hc : l.length ≤ c) (hc' : c ≤ maxLen) (bs : List Bool) (F : Option Addr) (fd : Nat) (hfd : fd ≤ maxLen) (hbl : bs.length ≤ fd) (w : World) (h : SAt w w.heap.size 5 A l.length (insnsV l)) (hF : SAt w w.heap.size 1 F bs.length (boolsV bs)) :
    Calls Tryz.prog 5 #[.slice A l.length c, .slice F bs.length fd] w fun e w' => e = .returned (.bool true) ∧ Below w.heap.size w w' := by
  obtain ⟨i0, hinf, hz0, hz1, hz2⟩ := info_parts info43n
  have hf := fun w1 (hb : Below w.heap.size w w1) => few19_is l A c hc hc' w1 ((h.below hb).more hb.size)
  have hm := h.few 100
  have hml : ∀ x ∈ l.take 100, x.Ok := fun x hx => hl x (List.mem_of_mem_take hx)
  have hmn : (l.take 100).length ≤ 100 := by simp; omega
  generalize l.take 100 = m at *
  have hck := fun w1 (hb : Below w.heap.size w w1) => rcheck_any m hml A c (by omega) w1 ((hm.below hb).more hb.size)
  have hst := fun w1 (hb : Below w.heap.size w w1) => rstarts_any m A c (by omega) w1 ((hm.below hb).more hb.size)
  have hed := fun (N : Option Addr) (d : Nat) w1 (hb : Below w.heap.size w w1) hN => fedits_any m hml A c (by omega) (noneN bs m.length) (noneN_ok bs _) N d (by rw [noneN_len]; omega) w1 ((hm.below hb).more hb.size) hN
  rw [noneN_len] at hed
  unfold maxLen at hfd
  clear h hl hc hc'
  go_enter Tryz.func5, Tryz.ntmps5
  go_wp2_with fail
  refine (shown19_any _).mono ?_
  rintro e w0 ⟨rfl, hb1⟩
  go_wp2_with fail
  refine (hf _ hb1).mono ?_
  rintro e w1 ⟨rfl, rfl⟩
  clear hf
  go_wp2_with fail
  go_loopw [21, 7] (fun k v wr => ∃ (j : Nat) (B : Option Addr) (b : Nat), j ≤ m.length ∧ k = .int .i64 j ∧ v = .slice B j b ∧ wr.ownsRow w1.heap.size 43 10 (.slice B j b) j (notesV (noneN bs j)) ∧ Below w1.heap.size w1 wr) (fun k _ _ => m.length - (intOf k).toNat)
  case atStart => exact ⟨0, none, 0, by omega, rfl, rfl, World.ownsRow_nil _ _ _ _, Below.refl _ _⟩
  case round =>
    obtain ⟨j, B, b, hj, rfl, rfl, hown, hbr⟩ := hrel
    by_cases hlt : j < m.length
    · clear hck hst hed
      have HDN := Lib.hid (noneN_next bs j)
      have hbw := hb1.trans (hbr.mono hb1.size)
      by_cases hin : j < bs.length
      · obtain ⟨fb, fo, rfl, hfb, hcell⟩ := hF.bit hin
        have hi : isAt bs j = bs.getD j false := by unfold isAt; rw [if_neg (by omega)]
        rw [← hi] at hcell
        generalize isAt bs j = t at *
        have hcl := hcell _ hbw
        clear hi hcell
        have hin' : (j : Int) < (bs.length : Int) := by omega
        have hin3 : decide (bs.length ≤ j) = false := by simpa using hin
        go_wp2_with (at_builtin; refine wpList_append_box rfl (.tmp 34) (.tmp 39) 23 rfl w1.heap.size 43 i0 Note.zero.val 10 64 Tryz.underlying23 hinf hz0 hz1 hz2 rfl (by decide) B j b 1 _ rfl rfl (by simp) hown rfl ?c1 ?c2 ?c3 ?c4 ?c5)
        case c1 => first | exact ⟨rfl, rfl, rfl, rfl, rfl, rfl, rfl, rfl, rfl, rfl⟩ | (intro u hu; simp at hu; rcases hu with rfl | rfl | rfl | rfl | rfl | rfl | rfl <;> rfl) | trivial | decide | simp
        case c2 => simp only [maxLen]; omega
        case c3 => omega
        case c4 => exact hbr.size
        case c5 =>
          intro B' b' w6 h2 h3 h4 h5
          clear h3 h5
          go_wp2
          go_roundw
          case rel =>
            refine ⟨j + 1, B', b', by omega, by go_num, rfl, ?_, hbr.trans h4⟩
            rw [HDN.out]
            exact h2
          case measure => simp [intOf]; omega
      · have hi : isAt bs j = true := by unfold isAt; rw [if_pos (by omega)]
        rw [hi] at HDN
        clear hi
        have hin' : ¬ (j : Int) < (bs.length : Int) := by omega
        have hin2 : (bs.length : Int) ≤ (j : Int) := by omega
        go_wp2_with (at_builtin; refine wpList_append_box rfl (.tmp 34) (.tmp 39) 23 rfl w1.heap.size 43 i0 Note.zero.val 10 64 Tryz.underlying23 hinf hz0 hz1 hz2 rfl (by decide) B j b 1 _ rfl rfl (by simp) hown rfl ?c1 ?c2 ?c3 ?c4 ?c5)
        case c1 => first | exact ⟨rfl, rfl, rfl, rfl, rfl, rfl, rfl, rfl, rfl, rfl⟩ | (intro u hu; simp at hu; rcases hu with rfl | rfl | rfl | rfl | rfl | rfl | rfl <;> rfl) | trivial | decide | simp
        case c2 => simp only [maxLen]; omega
        case c3 => omega
        case c4 => exact hbr.size
        case c5 =>
          intro B' b' w6 h2 h3 h4 h5
          clear h3 h5
          go_wp2
          go_roundw
          case rel =>
            refine ⟨j + 1, B', b', by omega, by go_num, rfl, ?_, hbr.trans h4⟩
            rw [HDN.out]
            exact h2
          case measure => simp [intOf]; omega
    · obtain rfl : j = m.length := by omega
      have hbw := hb1.trans (hbr.mono hb1.size)
      have hsat := SAt.own hown
      have hlen : (noneN bs m.length).length = m.length := noneN_len _ _
      have hed1 := hed B b _ hbw hsat
      clear hed
      by_cases he : (checkM m).2 = 0
      · have HM := Lib.hid (foldL_yes (ns := noneN bs m.length) he hlen)
        have hel : (foldL m (noneN bs m.length)).length = m.length := by rw [HM.out, partG_length]
        have hat : ∀ j, j < m.length → edAt (foldL m (noneN bs m.length)) j = if SB m j = true ∧ isAt bs j = false then Edit.drop else Edit.none := by
          intro j hj
          rw [HM.out, edAt_get (by rw [partG_length]; exact hj), ← foldF_none hj]
          have := partG_get (f := foldF m (noneN bs m.length)) (j := m.length) hj
          rw [List.getElem?_eq_getElem (by rw [partG_length]; exact hj)] at this
          simpa [hj] using this
        clear HM
        have hnat := fun j (hj : j < m.length) => noneN_at (bs := bs) hj
        generalize foldL m (noneN bs m.length) = es at *
        rw [check_zero he] at hck
        clear he
        try simp only at hck
        go_wp2_with fail
        refine hed1.mono ?_
        rintro e w2 ⟨X, xc, rfl, hsX, hcX, hmX, hb2⟩
        have hsN := (hsat.below hb2).more hb2.size
        clear hed1 hown hsat hcX hmX
        have hbw2 := hbw.trans (hb2.mono hbw.size)
        go_wp2_with fail
        refine (hck _ hbw2).mono ?_
        rintro e w3 ⟨rfl, hb3⟩
        have hbw3 := hbw2.trans (hb3.mono hbw2.size)
        clear hck
        have HEL := Lib.hid hel
        have hel' : ((es.length : Int) != (m.length : Int)) = false := by simp [hel]
        clear hel
        go_wp2_with fail
        refine (hst _ hbw3).mono ?_
        rintro e w4 ⟨S, sc, rfl, hsS, hb4⟩
        have hbw4 := hbw3.trans (hb4.mono hbw3.size)
        have hsX4 := ((hsX.below hb3).more hb3.size |>.below hb4).more hb4.size
        have hsN4 := ((hsN.below hb3).more hb3.size |>.below hb4).more hb4.size
        clear hst hsX hsN
        go_wp2_with fail
        go_loopw [66] (fun k wr => ∃ (j : Nat), j ≤ m.length ∧ k = .int .i64 j ∧ Below w4.heap.size w4 wr) (fun k _ => m.length - (intOf k).toNat)
        case atStart => exact ⟨0, by omega, rfl, Below.refl _ _⟩
        case round =>
          obtain ⟨j, hj, rfl, hbr⟩ := hrel
          have hbwr := hbw4.trans (hbr.mono hbw4.size)
          by_cases hlt : j < m.length
          · obtain ⟨sb, so, rfl, hsb, cS⟩ := (show SAt w4 w4.heap.size 1 S (startsL m).length (boolsV (startsL m)) by rw [startsL_length]; exact hsS).bit (k := j) (by rw [startsL_length]; exact hlt)
            have hsv : (startsL m).getD j false = SB m j := by simp [startsL, List.getD_eq_getElem?_getD, hlt]
            rw [hsv] at cS
            obtain ⟨xb, xo, rfl, hxb, e0, e1, e2, e3, e4, e5, e6⟩ := hsX4.edit (k := j) (by rw [HEL.out]; exact hlt)
            rw [hat j hlt] at e0 e1 e2 e3 e4 e5 e6
            obtain ⟨nb, no, rfl, hnb, y0, -, -, -, -, -, -, -, -, -⟩ := (show SAt w4 w4.heap.size 10 B (noneN bs m.length).length (notesV (noneN bs m.length)) by rw [hlen]; exact hsN4).note (k := j) (by rw [hlen]; exact hlt)
            rw [hnat j hlt] at y0
            simp only at y0
            have hxl : (j : Int) < (es.length : Int) := by rw [HEL.out]; omega
            clear hsv hsX4 hsN4 hsS hat hnat hlen hm hF
            have hq0 : (wr.alloc (.cells #[.int .u8 0, .int .u8 0, .int .u8 0, .int .u8 0, .int .i16 0, .int .i32 0, .int .i64 0] 52)).heap[wr.heap.size]? = some (.cells #[.int .u8 0, .int .u8 0, .int .u8 0, .int .u8 0, .int .i16 0, .int .i32 0, .int .i64 0] 52) := heap1_0 _ _
            have w0 := boxc (k := 0) (u := .int .u8 0) hq0 rfl _ (Below.refl _ _)
            have w1_ := boxc (k := 1) (u := .int .u8 0) hq0 rfl _ (Below.refl _ _)
            have w2_ := boxc (k := 2) (u := .int .u8 0) hq0 rfl _ (Below.refl _ _)
            have w3_ := boxc (k := 3) (u := .int .u8 0) hq0 rfl _ (Below.refl _ _)
            have w4_ := boxc (k := 4) (u := .int .i16 0) hq0 rfl _ (Below.refl _ _)
            have w5_ := boxc (k := 5) (u := .int .i32 0) hq0 rfl _ (Below.refl _ _)
            have w6_ := boxc (k := 6) (u := .int .i64 0) hq0 rfl _ (Below.refl _ _)
            have wt := fun k => boxt hq0 k _ (Below.refl _ _)
            have hbV : Below w4.heap.size w4 (wr.alloc (.cells #[.int .u8 0, .int .u8 0, .int .u8 0, .int .u8 0, .int .i16 0, .int .i32 0, .int .i64 0] 52)) := hbr.alloc hbr.size _
            have hgs := hbr.size
            clear hq0
            cases hs : SB m j
            · rw [hs] at cS e0 e1 e2 e3 e4 e5 e6
              rw [if_neg (by simp)] at e0 e1 e2 e3 e4 e5 e6
              go_upto_region 20 with fail
              generalize wr.alloc (.cells #[.int .u8 0, .int .u8 0, .int .u8 0, .int .u8 0, .int .i16 0, .int .i32 0, .int .i64 0] 52) = V at *
              have q := neq_edit Edit.none Edit.none
              simp only [decide_true, Bool.not_true, Edit.val, Edit.none, Edit.drop, Insn.zero] at q
              simp only [Edit.none, Edit.drop, Insn.zero] at e0 e1 e2 e3 e4 e5 e6
              go_upto_region 22 with fail
              go_quiet (fail)
              go_wp2_with fail
              go_roundw
              case rel => exact ⟨j + 1, by omega, by go_num, below_drewN (hbV) _⟩
              case measure => simp [intOf]; omega
            · rw [hs] at cS e0 e1 e2 e3 e4 e5 e6
              cases hi : isAt bs j
              · rw [hi] at y0 e0 e1 e2 e3 e4 e5 e6
                rw [if_pos ⟨rfl, rfl⟩] at e0 e1 e2 e3 e4 e5 e6
                go_upto_region 20 with fail
                generalize wr.alloc (.cells #[.int .u8 0, .int .u8 0, .int .u8 0, .int .u8 0, .int .i16 0, .int .i32 0, .int .i64 0] 52) = V at *
                have q := neq_edit Edit.drop Edit.drop
                simp only [decide_true, Bool.not_true, Edit.val, Edit.none, Edit.drop, Insn.zero] at q
                simp only [Edit.none, Edit.drop, Insn.zero] at e0 e1 e2 e3 e4 e5 e6
                go_upto_region 22 with fail
                go_quiet (fail)
                go_wp2_with fail
                go_roundw
                case rel => exact ⟨j + 1, by omega, by go_num, below_drewN (hbV.setCell hgs _) _⟩
                case measure => simp [intOf]; omega
              · rw [hi] at y0 e0 e1 e2 e3 e4 e5 e6
                rw [if_neg (by simp)] at e0 e1 e2 e3 e4 e5 e6
                go_upto_region 20 with fail
                generalize wr.alloc (.cells #[.int .u8 0, .int .u8 0, .int .u8 0, .int .u8 0, .int .i16 0, .int .i32 0, .int .i64 0] 52) = V at *
                have q := neq_edit Edit.none Edit.none
                simp only [decide_true, Bool.not_true, Edit.val, Edit.none, Edit.drop, Insn.zero] at q
                simp only [Edit.none, Edit.drop, Insn.zero] at e0 e1 e2 e3 e4 e5 e6
                go_upto_region 22 with fail
                go_quiet (fail)
                go_wp2_with fail
                go_roundw
                case rel => exact ⟨j + 1, by omega, by go_num, below_drewN (hbV) _⟩
                case measure => simp [intOf]; omega
          · obtain rfl : j = m.length := by omega
            go_wp2_with fail
            go_ret
            exact ⟨rfl, hbwr⟩
      · have hno := foldL_no (l := m) (ns := noneN bs m.length) (.inl he)
        rw [hno] at hed1
        clear hno hst hlen
        generalize checkM m = r at *
        obtain ⟨r0, r1⟩ := r
        try simp only at he hck
        go_wp2_with fail
        refine hed1.mono ?_
        rintro e w2 ⟨X, xc, rfl, hsX, hcX, hmX, hb2⟩
        clear hed1 hown hsat hsX
        simp only [List.length_nil]
        have hbw2 := hbw.trans (hb2.mono hbw.size)
        go_wp2_with fail
        refine (hck _ hbw2).mono ?_
        rintro e w3 ⟨rfl, hb3⟩
        have hbw3 := hbw2.trans (hb3.mono hbw2.size)
        clear hck
        have hq : (r1 != 0) = true := by simpa using he
        clear he
        go_wp2_with fail
        go_ret
        exact ⟨rfl, hbw3⟩
end Go.Proofs.YtbfgffmebniooaaGreat
