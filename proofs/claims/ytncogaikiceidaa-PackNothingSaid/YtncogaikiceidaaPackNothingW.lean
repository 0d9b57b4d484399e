/- The law PackNothing, walked. No statement is proved here. -/
import Derived.Test.YtncogaikiceidaaN24
import Derived.Test.YtncogaikiceidaaPackD
import Derived.Test.YtncogaikiceidaaHopE
import Derived.Test.YtncogaikiceidaaN6
namespace Go.Proofs.Ytncogaikiceidaa
open Go.RowKit
set_option linter.unusedSimpArgs false
set_option linter.unusedVariables false
set_option linter.unnecessarySimpa false
theorem MapsAt.more {w : World} {B B' : Nat} {A : Option Addr} {l : List (List ItemM)} {sv : Nat → Value} {dd : Nat → Nat → Value × Value} (h : MapsAt w B A l sv dd) (hB : B ≤ B') : MapsAt w B' A l sv dd :=
 ⟨h.row.more2 hB, fun i hi => by obtain ⟨Ai, ci, e, s⟩ := h.item i hi; exact ⟨Ai, ci, e, s.more hB⟩⟩
theorem EnvAt.below {w w' : World} {e : EnvM} {Ac AD AI AR : Option Addr} {sv : Nat → Value} {dd : Nat → Nat → Value × Value} (h : EnvAt w e Ac AD AI AR sv dd) (hb : Below w.heap.size w w') : EnvAt w' e Ac AD AI AR sv dd :=
 ⟨(h.ctx.below hb).more hb.size, (h.defs.below hb).more hb.size, (h.items.below hb).more hb.size, (h.draws.below hb).more hb.size⟩
def oneP (f : Nat → Bool) (j : Nat) : List Edit := (List.range j).map fun i => dropE (f i)
theorem oneP_len (f : Nat → Bool) (j : Nat) : (oneP f j).length = j := by simp [oneP]
theorem oneP_one (l : List Insn) (f : Nat → Bool) : oneP f l.length = oneE l f := rfl
theorem oneP_next (f : Nat → Bool) (j : Nat) : editsV (oneP f (j + 1)) = editsV (oneP f j) ++ (dropE (f j)).cells := by
 unfold oneP
 rw [List.range_succ, List.map_append, editsV_append]
 simp [editsV]
theorem seven_one {n0 n1 n2 n3 n4 n5 n6 : Int} : ∀ u ∈ [Value.int .u8 n0, .int .u8 n1, .int .u8 n2, .int .u8 n3, .int .i16 n4, .int .i32 n5, .int .i64 n6], u.oneCell' = true := by
 intro u hu
 simp at hu
 rcases hu with rfl | rfl | rfl | rfl | rfl | rfl | rfl <;> rfl
/-- The law's flag at a place, of what it reads. -/
def flagB (sb : Bool) (kind : Int) (tb : Bool) (t : Int) (j n : Nat) (op off dst src : Int) (pn : Nat) (pj : Int) : Bool :=
 sb && ((kind == 9 && tb && decide (t = ((j + 1 : Nat) : Int)) && decide (j + 1 < n)) || (op == 191 && off == 0 && dst == src && decide (j < pn) && pj % 2 == 1))
theorem lawF_flag (x : List Insn) (put : List Int) (j : Nat) : lawF x put j = flagB (SB x j) (sem (at' x j)).1.kind (targetM x j).2 (targetM x j).1 j x.length (at' x j).op (at' x j).off (at' x j).dst (at' x j).src put.length (put.getD j 0) := rfl
/-- Both ends, told alike. -/
theorem alike_end {ownA ownB : Own} {w6 w7 W w9 : World} {defs : List DefM} {EA : EndM} {mb : MchM} {e9 : Ending} {A M : Option Addr} {c k : Nat} {cx : Nat → Value × Value × Value} {sx : Nat → Value} {dx : Nat → Nat → Value × Value}
  (ha : ∀ w'' X, (∀ b, X b → b < w6.heap.size ∧ ownA b = none) → Kept X w7 w'' → CallsAt w'' w''.heap.size A EA.calls cx ∧ MapsAt w'' w''.heap.size M EA.maps sx dx)
  (hca : CallsOk EA.calls) (hla : EA.calls.length ≤ 1000) (hma : ∀ l ∈ EA.maps, l.length ≤ 1000 ∧ ∀ i ∈ l, i.Ok)
  (hB : RunOk ownB W defs mb e9 w9) (hk : Kept (fun b => ownB b ≠ none) w7 W) (hsep : ∀ b, ownB b ≠ none → b < w6.heap.size ∧ ownA b = none) (hd : EA.maps.length ≤ 1000)
  (hal : alikeM EA (endM defs mb) = true) :
  ∃ B d N n, e9 = .returned (endVal (endM defs mb) B N d n) ∧ Kept (fun b => ownB b ≠ none) W w9 ∧ Calls Try.prog 11 #[endVal EA A M c k, endVal (endM defs mb) B N d n] w9 (fun en w' => en = .returned (.bool true) ∧ Below w9.heap.size w9 w') := by
 obtain ⟨hkB, B, d, cy, N, n, sy, dy, rfl, hy, hcb, hlb, hmb⟩ := hB
 have h1 := ha w9 _ hsep (hk.trans hkB (fun _ _ h => h))
 have h2 := hy w9 (fun _ => False) (fun _ h => h.elim) Kept.refl
 refine ⟨B, d, N, n, rfl, hkB, ?_⟩
 have := ralike11 EA (endM defs mb) (fun i hi => (hca i hi).1) (fun i hi => (hcb i hi).1) (fun l hl => (hma l hl).2) (fun l hl => (hmb l hl).2) A B M N c d k n cx cy sx sy dx dy w9 h1.1 h2.1 h1.2 h2.2 (by omega) (by omega) (fun i hi => (hca i hi).2) hd (fun l hl => (hma l hl).1) (fun l hl => (hmb l hl).1)
 rwa [hal] at this
theorem newM_facts {x : List Insn} {e : EnvM} {a : MchM} (h : newM x e = some a) : Prog x ∧ ∀ d ∈ e.defs, defOk d = true := by
 unfold newM at h
 split at h
 ·cases h
 ·rename_i hn
  refine ⟨check_prog (Decidable.not_not.1 (fun g => hn (.inl g))), fun d hd => ?_⟩
  have hk : defsOk e.defs = true := by
   cases hq : defsOk e.defs with
   | true => rfl
   | false => exact absurd (.inr (.inr (.inr hq))) hn
  unfold defsOk at hk
  rw [Bool.and_eq_true, List.all_eq_true] at hk
  exact hk.1 d hd
theorem manyF_le (l : List Insn) (f : Nat → Bool) : ∀ i, manyF l f i ≤ i
 | 0 => Nat.le_refl _
 | i + 1 => by
  have := manyF_le l f i
  rw [manyF]
  split <;> omega
theorem flagB_jump {kind : Int} {tb : Bool} {t : Int} {j n : Nat} {op off dst src : Int} {pn : Nat} {pj : Int} (hJ : kind = 9 ∧ tb = true ∧ t = (j : Int) + 1 ∧ j + 1 < n) : flagB true kind tb t j n op off dst src pn pj = true := by
 obtain ⟨rfl, rfl, rfl, h⟩ := hJ
 unfold flagB
 simp [h]
theorem flagB_mov {kind : Int} {tb : Bool} {t : Int} {j n : Nat} {op off dst src : Int} {pn : Nat} {pj : Int} (hJ : ¬ (kind = 9 ∧ tb = true ∧ t = (j : Int) + 1 ∧ j + 1 < n)) : flagB true kind tb t j n op off dst src pn pj = (op == 191 && off == 0 && dst == src && decide (j < pn) && pj % 2 == 1) := by
 unfold flagB
 have e : (kind == 9 && tb && decide (t = ((j + 1 : Nat) : Int)) && decide (j + 1 < n)) = false := by
  cases h : (kind == 9 && tb && decide (t = ((j + 1 : Nat) : Int)) && decide (j + 1 < n)) with
  | false => rfl
  | true =>
   simp only [Bool.and_eq_true, beq_iff_eq, decide_eq_true_eq] at h
   obtain ⟨⟨⟨h1, h2⟩, h3⟩, h4⟩ := h
   exact absurd ⟨h1, h2, by omega, h4⟩ hJ
 rw [e, Bool.true_and, Bool.false_or]
theorem and1 (x : Int) (h0 : 0 ≤ x) (h1 : x ≤ 255) : bits .and .u8 x 1 = x % 2 := bits_byte 1 (fun x => x % 2) (by decide +kernel) x h0 h1
def dropV (b : Bool) : Int := if b then 1 else 0
theorem dropE_cells (b : Bool) : (dropE b).cells = [.int .u8 (dropV b), .int .u8 0, .int .u8 0, .int .u8 0, .int .i16 0, .int .i32 0, .int .i64 0] := by cases b <;> rfl
theorem rwM_oks {l : List Insn} (hl : ∀ x ∈ l, x.Ok) (hn : l.length ≤ 5000) {es : List Edit} (h : EOk es) : ∀ x ∈ (rwM l es).1, x.Ok := by
 unfold rwM
 split
 ·intro x hx; cases hx
 ·split
  ·intro x hx; cases hx
  ·rename_i out e
   split
   ·exact rwA_ok hl hn h _ (Nat.le_refl _) e
   ·intro x hx; cases hx
theorem oneE_eok (l : List Insn) (f : Nat → Bool) : EOk (oneE l f) := by
 intro x hx
 obtain ⟨i, _, rfl⟩ := List.mem_map.1 hx
 cases f i
 ·exact edit_ok_none
 ·exact edit_ok_drop
theorem info48 : (Try.prog.info? 48).map (fun i => (i.zero, i.size, i.bytes)) = some (some (.agg #[.int .u8 0, .int .u8 0, .int .u8 0, .int .u8 0, .int .i16 0, .int .i32 0, .int .i64 0]), 7, 24) := by kernel_rfl
set_option maxRecDepth 100000 in
set_option maxHeartbeats 8000000 in
theorem packNothing_walk (l : List Insn) (hl : ∀ x ∈ l, x.Ok) (A : Option Addr) (c : Nat) (hc : l.length ≤ c) (hc' : c ≤ maxLen) (e : EnvM) (Ac AD AI AR : Option Addr) (cc cD cI cR : Nat) (sv : Nat → Value) (dd : Nat → Nat → Value × Value) (put : List Int) (P : Option Addr) (cp : Nat) (w : World) (h : SAt w w.heap.size 5 A l.length (insnsV l)) (he : EnvAt w e Ac AD AI AR sv dd) (hec : BytesOk e.ctx) (hed : ∀ n ∈ e.draws, U64 n) (hei : ∀ y ∈ e.items, ∀ i ∈ y, i.Ok)
  (hp : SAt w w.heap.size 1 P put.length (bytesV put)) (hpb : BytesOk put) :
  Calls Try.prog 3 #[.slice A l.length c, .agg #[.slice Ac e.ctx.length cc, .slice AD e.defs.length cD, .slice AI e.items.length cI, .slice AR e.draws.length cR], .slice P put.length cp] w fun en w' => en = .returned (.bool true) ∧ Below w.heap.size w w' := by
 have hX : SAt w w.heap.size 5 A (l.take 60).length (insnsV (l.take 60)) := h.few 60
 have hXo : ∀ x ∈ l.take 60, x.Ok := fun x hx => hl x (List.mem_of_mem_take hx)
 have hXl : (l.take 60).length = min 60 l.length := by simp
 have hXc : (l.take 60).length ≤ c := by omega
 have hbE := below_boxes1 w (.cells #[.slice Ac e.ctx.length cc, .slice AD e.defs.length cD, .slice AI e.items.length cI, .slice AR e.draws.length cR] 28)
 have hE := blk_new (xs := [.slice Ac e.ctx.length cc, .slice AD e.defs.length cD, .slice AI e.items.length cI, .slice AR e.draws.length cR]) (heap_alloc_new w (.cells #[.slice Ac e.ctx.length cc, .slice AD e.defs.length cD, .slice AI e.items.length cI, .slice AR e.draws.length cR] 28))
 have HX := Lib.hid hXl
 unfold maxLen at hc'
 generalize hx0 : l.take 60 = X at *
 have hXn : X.length ≤ 60 := by omega
 have HXL := Lib.hid (show X.length = min 60 l.length by omega)
 clear h hXl hx0 hl
 generalize l.length = n at *
 go_enter Try.func3, Try.ntmps3
 go_upto_region 1 with fail
 generalize w.alloc (.cells #[.slice Ac e.ctx.length cc, .slice AD e.defs.length cD, .slice AI e.items.length cI, .slice AR e.draws.length cR] 28) = W at *
 go_wp2_with fail
 refine (shown18_any _).mono ?_
 rintro en w1 ⟨rfl, hb1⟩
 have hb01 := hbE.trans (hb1.mono hbE.size)
 have hE1 := hE.below hb1
 clear hb1 hE hbE
 go_upto_region 2 with fail
 go_cut [8] from 29 (fun v8 wx => v8 = .slice A X.length c ∧ wx = w1)
 case first =>
  by_cases h60 : 60 < n
  ·go_wp2_with fail
   go_meet
   case rel => exact ⟨by rw [HXL.out, show min 60 n = 60 by omega], rfl⟩
  ·go_wp2_with fail
   go_meet
   case rel => exact ⟨by rw [HXL.out, show min 60 n = n by omega], rfl⟩
 case rest =>
  obtain ⟨rfl, rfl⟩ := hcut
  obtain ⟨w1, hV⟩ : ∃ V : World, V = wc := ⟨wc, rfl⟩
  subst hV
  have y0 := hE1.cell (k := 0) rfl
  have y1 := hE1.cell (k := 1) rfl
  have y2 := hE1.cell (k := 2) rfl
  have y3 := hE1.cell (k := 3) rfl
  by_cases g1 : e.defs.length > 10
  ·have g1i : ((e.defs.length : Nat) : Int) > 10 := by omega
   go_wp2_with fail
   go_ret
   exact ⟨rfl, hb01⟩
  by_cases g2 : e.items.length > 10
  ·have g1i : ¬ ((e.defs.length : Nat) : Int) > 10 := by omega
   have g2i : ((e.items.length : Nat) : Int) > 10 := by omega
   go_wp2_with fail
   go_ret
   exact ⟨rfl, hb01⟩
  by_cases g3 : e.draws.length > 100
  ·have g1i : ¬ ((e.defs.length : Nat) : Int) > 10 := by omega
   have g2i : ¬ ((e.items.length : Nat) : Int) > 10 := by omega
   have g3i : ((e.draws.length : Nat) : Int) > 100 := by omega
   go_wp2_with fail
   go_ret
   exact ⟨rfl, hb01⟩
  by_cases g4 : e.ctx.length > 100
  ·have g1i : ¬ ((e.defs.length : Nat) : Int) > 10 := by omega
   have g2i : ¬ ((e.items.length : Nat) : Int) > 10 := by omega
   have g3i : ¬ ((e.draws.length : Nat) : Int) > 100 := by omega
   have g4i : ((e.ctx.length : Nat) : Int) > 100 := by omega
   go_wp2_with fail
   go_ret
   exact ⟨rfl, hb01⟩
  have g1i : ¬ ((e.defs.length : Nat) : Int) > 10 := by omega
  have g2i : ¬ ((e.items.length : Nat) : Int) > 10 := by omega
  have g3i : ¬ ((e.draws.length : Nat) : Int) > 100 := by omega
  have g4i : ¬ ((e.ctx.length : Nat) : Int) > 100 := by omega
  go_upto_block 0 with fail
  go_cut [10, 11, 12] from 29 (fun _ _ _ wx => Below w1.heap.size w1 wx ∧ ∀ y ∈ e.items, y.length ≤ 20)
  case first =>
   clear hX hXo hp hpb HX HXL
   go_wp2_with fail
   go_loopw [61] (fun q wr => ∃ i : Nat, i ≤ e.items.length ∧ q = .int .i64 i ∧ (∀ j, (h : j < e.items.length) → j < i → e.items[j].length ≤ 20) ∧ Below w1.heap.size w1 wr) (fun q _ => e.items.length - (intOf q).toNat)
   case atStart => exact ⟨0, by omega, rfl, fun j _ h => absurd h (by omega), Below.refl _ _⟩
   case round =>
    obtain ⟨i, hi, rfl, hA, hbi⟩ := hrel
    obtain ⟨w6, hV⟩ : ∃ V : World, V = wr := ⟨wr, rfl⟩
    subst hV
    have HA := Lib.hid hA
    clear hA
    by_cases hlt : i < e.items.length
    ·have hlti : (i : Int) < (e.items.length : Int) := by omega
     obtain ⟨bI, oI, Ai, ci, rfl, hbI, hcI, hIA⟩ := he.items.get hlt
     have hb6 := hb01.trans (hbi.mono hb01.size)
     have zI : w6.cell? ⟨bI, oI + i, none⟩ = some (.slice Ai e.items[i].length ci) := by rw [hb6.cell hbI]; exact hcI
     generalize hY : e.items[i] = Y at *
     have HY := Lib.hid hY
     clear hY y0 y1 y3 hcI
     go_wp2_with fail
     go_loopw [67] (fun q wr => ∃ k : Nat, k ≤ Y.length ∧ k ≤ 20 ∧ q = .int .i64 k ∧ Below w1.heap.size w1 wr) (fun q _ => Y.length - (intOf q).toNat)
     case atStart => exact ⟨0, by omega, by omega, rfl, hbi⟩
     case round =>
      obtain ⟨k, hk, hk20, rfl, hbr⟩ := hrel
      obtain ⟨w7, hV⟩ : ∃ V : World, V = wr := ⟨wr, rfl⟩
      subst hV
      have hbw := hb01.trans (hbr.mono hb01.size)
      by_cases hlk : k < Y.length
      ·have hlki : (k : Int) < (Y.length : Int) := by omega
       obtain ⟨b, o, Ak, ck, Av, cv, rfl, hbb, z1, z2, -, -⟩ := hIA.get hlk
       rw [← hbw.cell hbb] at z1 z2
       generalize Y[k] = y at *
       by_cases g5 : 20 ≤ k
       ·have g5i : (k : Int) ≥ 20 := by omega
        go_wp2_with fail
        go_ret
        exact ⟨rfl, hbw.alloc hbw.size _⟩
       by_cases g6 : y.key.length > 80
       ·have g5i : ¬ (k : Int) ≥ 20 := by omega
        have g6i : ((y.key.length : Nat) : Int) > 80 := by omega
        go_wp2_with fail
        go_ret
        exact ⟨rfl, hbw.alloc hbw.size _⟩
       by_cases g7 : y.val.length > 80
       ·have g5i : ¬ (k : Int) ≥ 20 := by omega
        have g6i : ¬ ((y.key.length : Nat) : Int) > 80 := by omega
        have g7i : ((y.val.length : Nat) : Int) > 80 := by omega
        go_wp2_with fail
        go_ret
        exact ⟨rfl, hbw.alloc hbw.size _⟩
       have g5i : ¬ (k : Int) ≥ 20 := by omega
       have g6i : ¬ ((y.key.length : Nat) : Int) > 80 := by omega
       have g7i : ¬ ((y.val.length : Nat) : Int) > 80 := by omega
       go_wp2_with fail
       go_roundw
       case rel => exact ⟨k + 1, by omega, by omega, by go_num, hbr.alloc hbr.size _⟩
       all_goals (simp [intOf]; omega)
      ·have hlki : ¬ (k : Int) < (Y.length : Int) := by omega
       have hY20 : Y.length ≤ 20 := by omega
       clear hk
       go_wp2_with fail
       go_roundw
       case rel => exact ⟨i + 1, by omega, by go_num, fun j h hj => (by
        rcases Nat.lt_or_ge j i with h1 | h1
        ·exact HA.out j h h1
        ·obtain rfl : j = i := by omega
         rw [HY.out]; exact hY20), hbr⟩
       all_goals (simp [intOf]; omega)
    ·have hlti : ¬ (i : Int) < (e.items.length : Int) := by omega
     have hie : e.items.length ≤ i := by omega
     clear hi
     go_wp2_with fail
     go_meet
     case rel =>
      refine ⟨hbi, fun y hy => ?_⟩
      obtain ⟨j, hj, rfl⟩ := List.mem_iff_getElem.1 hy
      exact HA.out j hj (by omega)
  case rest =>
   obtain ⟨hbr, h20⟩ := hcut
   obtain ⟨w2, hV⟩ : ∃ V : World, V = wc := ⟨wc, rfl⟩
   subst hV
   have hbw2 := hb01.trans (hbr.mono hb01.size)
   have hE2 := hE1.below hbr
   have heo : EnvOk e := ⟨hec, hed, hei, by omega, by omega, by omega, by omega, h20⟩
   have hX2 := (hX.below hbw2).more hbw2.size
   have hnew := rnew11 X hXo (by omega) A c e Ac AD AI AR cc cD cI cR sv dd w2 hX2 (he.below hbw2) heo
   clear hX2 hbr hb01 y0 y1 y2 y3 hE1 h20 hec hed hei HX
   have hHP := Lib.hid (And.intro hp hpb)
   clear hp hpb
   have HE2 := Lib.hid hE2
   have z0 := hE2.cell (k := 0) rfl
   have z1 := hE2.cell (k := 1) rfl
   have z2 := hE2.cell (k := 2) rfl
   have z3 := hE2.cell (k := 3) rfl
   clear hE2
   cases hna : newM X e with
   | none =>
    have HNA := Lib.hid hna
    clear hna
    go_wp2_with fail
    refine hnew.mono ?_
    rintro en w3 ⟨hb3, hn, -⟩
    obtain rfl := hn HNA.out
    clear hn
    go_wp2_with fail
    go_ret
    exact ⟨rfl, hbw2.trans (hb3.mono hbw2.size)⟩
   | some a =>
    obtain ⟨y, hy, hyl, hny, hal⟩ := nothing_law put hna
    have HNA := Lib.hid hna
    clear hna
    go_wp2_with fail
    refine hnew.mono ?_
    rintro en w3 ⟨hb3, -, hs⟩
    obtain ⟨Mb, ownA, gA, rfl, hlowA, hfarA, hmA, hvA, hgA, hgAD⟩ := hs a HNA.out
    have HA := Lib.hid (And.intro hlowA (And.intro hfarA (And.intro hmA (And.intro hvA (And.intro hgA hgAD)))))
    have HY := Lib.hid (And.intro hy (And.intro hyl (And.intro hny hal)))
    clear hs hnew hlowA hfarA hmA hvA hgA hgAD hy hyl hny hal z0 z1 z2 z3
    have hE3 := HE2.out.below hb3
    have hbw3 := hbw2.trans (hb3.mono hbw2.size)
    go_upto_block 4 with fail
    go_cut [15, 16, 17, 18, 19, 20, 21, 22, 23] from 29 (fun v15 v16 _ _ _ _ _ _ _ wx => ∃ (E : Option Addr) (c1 : Nat), v15 = .slice E X.length c1 ∧ v16 = .int .i64 ((manyF X (lawF X put) X.length : Nat) : Int) ∧ SAt wx wx.heap.size 7 E X.length (editsV (oneE X (lawF X put))) ∧ Below w3.heap.size w3 wx)
    case first =>
     have hp := hHP.out.1
     have hHPb := Lib.hid hHP.out.2
     clear HA HY HNA HE2 hE3 heo he HXL hHP
     generalize hf : lawF X put = f
     have HF : RowKit.Hid (∀ j, f j = flagB (SB X j) (sem (at' X j)).1.kind (targetM X j).2 (targetM X j).1 j X.length (at' X j).op (at' X j).off (at' X j).dst (at' X j).src put.length (put.getD j 0)) := Lib.hid (fun j => by rw [← hf]; exact lawF_flag X put j)
     have HFF := Lib.hid hf
     clear hf
     obtain ⟨i0, hinf, hz0, hz1, hz2⟩ := info_parts info48
     have htar := fun (j : Nat) (hj : j < X.length) w' (hb : Below w.heap.size w w') => rtarget_any X hXo A c (by omega) (j : Int) (by omega) (by omega) w' ((hX.below hb).more hb.size)
     have hst := fun w' (hb : Below w.heap.size w w') => rstarts_any X A c (by omega) w' ((hX.below hb).more hb.size)
     have hpc := fun (j : Nat) (hj : j < put.length) => hp.byte hj
     clear hp
     go_wp2_with fail
     go_loopw [100, 15, 16] (fun q v15 v16 wr => ∃ (j : Nat) (E : Option Addr) (c1 : Nat), j ≤ X.length ∧ q = .int .i64 j ∧ v15 = .slice E j c1 ∧ v16 = .int .i64 ((manyF X f j : Nat) : Int) ∧ wr.ownsRow w3.heap.size 48 7 (.slice E j c1) j (editsV (oneP f j)) ∧ Below w3.heap.size w3 wr) (fun q _ _ _ => X.length - (intOf q).toNat)
     case atStart => exact ⟨0, none, 0, by omega, rfl, rfl, rfl, World.ownsRow_nil _ _ _ _, Below.refl _ _⟩
     case round =>
      obtain ⟨j, E, c1, hj, rfl, rfl, rfl, hown, hbr⟩ := hrel
      obtain ⟨w4, hV⟩ : ∃ V : World, V = wr := ⟨wr, rfl⟩
      subst hV
      have hbw := hbw3.trans (hbr.mono hbw3.size)
      by_cases hlt : j < X.length
      ·have hlti : (j : Int) < (X.length : Int) := by omega
       obtain ⟨b, o, rfl, hb, c0, c1', c2, c3, c4⟩ := hX.insn hlt
       have q0 := c0 _ hbw
       have q1 := c1' _ hbw
       have q2 := c2 _ hbw
       have q3 := c3 _ hbw
       have q4 := c4 _ hbw
       have hsem := rsem_any (at' X j) (at_ok hXo j)
       have htj := htar j hlt
       have HFj := Lib.hid (HF.out j)
       have HM : RowKit.Hid (manyF X f (j + 1) = manyF X f j + (if SB X j = true ∧ f j = true then 1 else 0)) := Lib.hid rfl
       have HE : RowKit.Hid (editsV (oneP f (j + 1)) = editsV (oneP f j) ++ (dropE (f j)).cells) := Lib.hid (oneP_next f j)
       have hmn := manyF_le X f j
       generalize manyF X f j = mm at *
       generalize editsV (oneP f j) = es at *
       generalize targetM X (j : Int) = tg at *
       obtain ⟨t0, tb⟩ := tg
       generalize at' X j = z at *
       obtain ⟨zo, zd, zs, zf, zi⟩ := z
       simp only at q0 q1 q2 q3 q4 hsem htj HFj
       clear c0 c1' c2 c3 c4 htar HF hX
       go_upto_region 23 with fail
       have hbz := below_boxes1 w4 (.cells #[.int .u8 zo, .int .u8 zd, .int .u8 zs, .int .i16 zf, .int .i32 zi] 40)
       have hz := blk_new (xs := [.int .u8 zo, .int .u8 zd, .int .u8 zs, .int .i16 zf, .int .i32 zi]) (heap_alloc_new w4 (.cells #[.int .u8 zo, .int .u8 zd, .int .u8 zs, .int .i16 zf, .int .i32 zi] 40))
       generalize w4.alloc (.cells #[.int .u8 zo, .int .u8 zd, .int .u8 zs, .int .i16 zf, .int .i32 zi] 40) = W4 at *
       have y0 := hz.cell (k := 0) rfl
       have y1 := hz.cell (k := 1) rfl
       have y2 := hz.cell (k := 2) rfl
       have y3 := hz.cell (k := 3) rfl
       have y4 := hz.cell (k := 4) rfl
       have hHO := Lib.hid (And.intro hown hbr)
       clear hown hbr q0 q1 q2 q3 q4
       go_wp2_with fail
       refine (hsem _).mono ?_
       rintro en w5 ⟨rfl, hb5⟩
       have hz5 := hz.below hb5
       have hb45 := hbz.trans (hb5.mono hbz.size)
       clear hsem hz hb5 hbz y0 y1 y2 y3 y4
       generalize sem _ = r at *
       obtain ⟨⟨r0, r1, r2, r3, r4, r5⟩, rb⟩ := r
       simp only at HFj ⊢
       go_upto_region 24 with fail
       have hbv := below_boxes1 w5 (.cells #[.int .u8 r0, .int .u8 r1, .bool r2, .bool r3, .bool r4, .int .i64 r5] 42)
       have hv := blk_new (xs := [.int .u8 r0, .int .u8 r1, .bool r2, .bool r3, .bool r4, .int .i64 r5]) (heap_alloc_new w5 (.cells #[.int .u8 r0, .int .u8 r1, .bool r2, .bool r3, .bool r4, .int .i64 r5] 42))
       have hzv := hz5.below hbv
       have hb4v := hb45.trans (hbv.mono hb45.size)
       generalize w5.alloc (.cells #[.int .u8 r0, .int .u8 r1, .bool r2, .bool r3, .bool r4, .int .i64 r5] 42) = W5 at *
       go_wp2_with fail
       refine (htj _ (hbw.trans (hb4v.mono hbw.size))).mono ?_
       rintro en w6 ⟨rfl, hb6⟩
       have hz6 := hzv.below hb6
       have hv6 := hv.below hb6
       have hb46 := hb4v.trans (hb6.mono hb4v.size)
       clear htj hzv hv hb6 hz5 hb4v hbv
       go_upto_region 26 with fail
       have hbd := below_boxes1 w6 (.cells #[.int .u8 0, .int .u8 0, .int .u8 0, .int .u8 0, .int .i16 0, .int .i32 0, .int .i64 0] 48)
       have hd := blk_new (xs := [.int .u8 0, .int .u8 0, .int .u8 0, .int .u8 0, .int .i16 0, .int .i32 0, .int .i64 0]) (heap_alloc_new w6 (.cells #[.int .u8 0, .int .u8 0, .int .u8 0, .int .u8 0, .int .i16 0, .int .i32 0, .int .i64 0] 48))
       have hz7 := hz6.below hbd
       have hv7 := hv6.below hbd
       have hb47 := hb46.trans (hbd.mono hb46.size)
       have hg : w4.heap.size ≤ w6.heap.size := hb46.size
       generalize w6.alloc (.cells #[.int .u8 0, .int .u8 0, .int .u8 0, .int .u8 0, .int .i16 0, .int .i32 0, .int .i64 0] 48) = W6 at *
       clear hz6 hv6 hb46 hbd hb45
       go_cut [100, 173] from 100 to 181 (fun v100 v173 wx => v100 = .int .i64 j ∧ v173 = .bool (f j) ∧ Below W6.heap.size W6 wx)
       case first =>
        clear HM HE hHO hinf hz0 hz1 hz2 hd hmn hg hXo hXc hc hc' HFF
        have hs := hst _ (hbw.trans (hb47.mono hbw.size))
        clear hst
        go_wp2_with fail
        refine hs.mono ?_
        rintro en w8 ⟨SA, sc, rfl, hss, hb8⟩
        obtain ⟨sb, so, rfl, hsb, hfl⟩ := hss.flag (by omega)
        have hfj := hfl j hlt _ (Below.refl _ _)
        have x0 := (hz7.below hb8).cell (k := 0) rfl
        have x1 := (hz7.below hb8).cell (k := 1) rfl
        have x2 := (hz7.below hb8).cell (k := 2) rfl
        have x3 := (hz7.below hb8).cell (k := 3) rfl
        have u0 := (hv7.below hb8).cell (k := 0) rfl
        have hbw8 := (hbw.trans (hb47.mono hbw.size)).trans (hb8.mono (Nat.le_trans hbw.size hb47.size))
        have HB8 := Lib.hid hb8
        clear hs hss hfl hz7 hv7 hb8 hb47 hbw
        (try clear g1); (try clear g2); (try clear g3); (try clear g4); (try clear g1i); (try clear g2i); (try clear g3i); (try clear g4i); (try clear hbw2); (try clear hbw3); (try clear heo)
        cases hsj : SB X j with
        | false =>
         have HR : RowKit.Hid (f j = false) := Lib.hid (HFj.out.trans (by rw [hsj]; rfl))
         rw [hsj] at hfj
         clear HFj hsj
         go_wp2_with fail
         go_meet
         case rel => exact ⟨rfl, by rw [HR.out], HB8.out⟩
        | true =>
         have HFj2 := HFj.out
         rw [hsj] at hfj HFj2
         clear HFj hsj
         by_cases hJ : r0 = 9 ∧ tb = true ∧ t0 = (j : Int) + 1 ∧ j + 1 < X.length
         ·have HR : RowKit.Hid (f j = true) := Lib.hid (HFj2.trans (flagB_jump hJ))
          obtain ⟨rfl, rfl, rfl, hjn⟩ := hJ
          have hjni : (j : Int) + 1 < (X.length : Int) := by omega
          clear HFj2
          clear hjn
          as_aux_lemma =>
           go_wp2_with fail
           go_meet
           case rel => exact ⟨rfl, by rw [HR.out], HB8.out⟩
         ·have HM0 := Lib.hid (HFj2.trans (flagB_mov hJ))
          have HJ := Lib.hid hJ
          clear HFj2 hJ
          by_cases k1 : zo = 191
          ·subst k1
           by_cases k2 : zf = 0
           ·subst k2
            by_cases k3 : zd = zs
            ·subst k3
             by_cases k4 : j < put.length
             ·have k4i : (j : Int) < (put.length : Int) := by omega
              obtain ⟨pb, po, rfl, hpb2, hpc2⟩ := hpc j k4
              rw [← hbw8.cell hpb2] at hpc2
              have kg : put.getD j 0 = put[j] := by simp [List.getD_eq_getElem?_getD, List.getElem?_eq_getElem k4]
              have HM1 := HM0.out
              rw [kg] at HM1
              have hpu : 0 ≤ put[j] ∧ put[j] ≤ 255 := hHPb.out _ (List.getElem_mem k4)
              generalize put[j] = pj at *
              clear hpc kg HM0
              by_cases k5 : pj % 2 = 1
              ·have HR : RowKit.Hid (f j = true) := Lib.hid (HM1.trans (by simp [k4, k5]))
               have k6 : bits .and .u8 pj 1 = 1 := (and1 pj hpu.1 hpu.2).trans k5
               clear HM1 k4 k5 hpu
               by_cases g9 : r0 = 9
               ·have HJ2 := Lib.hid (HJ.out)
                subst g9
                clear HJ
                cases tb with
                | false =>
                 clear HJ2
                 as_aux_lemma =>
                  go_wp2_with fail
                  go_meet
                  case rel => exact ⟨rfl, by rw [HR.out], HB8.out⟩
                | true =>
                 by_cases gt : t0 = (j : Int) + 1
                 ·have hjn : decide ((j : Int) + 1 < (X.length : Int)) = false := decide_eq_false (fun h => HJ2.out ⟨rfl, rfl, gt, by omega⟩)
                  subst gt
                  clear HJ2
                  as_aux_lemma =>
                   go_wp2_with fail
                   go_meet
                   case rel => exact ⟨rfl, by rw [HR.out], HB8.out⟩
                 ·have gtb : (t0 == (j : Int) + 1) = false := by simpa using gt
                  clear HJ2 gt
                  as_aux_lemma =>
                   go_wp2_with fail
                   go_meet
                   case rel => exact ⟨rfl, by rw [HR.out], HB8.out⟩
               ·have g9b : (r0 == 9) = false := by simpa using g9
                clear HJ g9
                as_aux_lemma =>
                 go_wp2_with fail
                 go_meet
                 case rel => exact ⟨rfl, by rw [HR.out], HB8.out⟩
              ·have HR : RowKit.Hid (f j = false) := Lib.hid (HM1.trans (by simp [k4, k5]))
               have k6 : bits .and .u8 pj 1 = 0 := (and1 pj hpu.1 hpu.2).trans (by omega)
               clear HM1 k4 k5 hpu
               by_cases g9 : r0 = 9
               ·have HJ2 := Lib.hid (HJ.out)
                subst g9
                clear HJ
                cases tb with
                | false =>
                 clear HJ2
                 as_aux_lemma =>
                  go_wp2_with fail
                  go_meet
                  case rel => exact ⟨rfl, by rw [HR.out], HB8.out⟩
                | true =>
                 by_cases gt : t0 = (j : Int) + 1
                 ·have hjn : decide ((j : Int) + 1 < (X.length : Int)) = false := decide_eq_false (fun h => HJ2.out ⟨rfl, rfl, gt, by omega⟩)
                  subst gt
                  clear HJ2
                  as_aux_lemma =>
                   go_wp2_with fail
                   go_meet
                   case rel => exact ⟨rfl, by rw [HR.out], HB8.out⟩
                 ·have gtb : (t0 == (j : Int) + 1) = false := by simpa using gt
                  clear HJ2 gt
                  as_aux_lemma =>
                   go_wp2_with fail
                   go_meet
                   case rel => exact ⟨rfl, by rw [HR.out], HB8.out⟩
               ·have g9b : (r0 == 9) = false := by simpa using g9
                clear HJ g9
                as_aux_lemma =>
                 go_wp2_with fail
                 go_meet
                 case rel => exact ⟨rfl, by rw [HR.out], HB8.out⟩
             ·have k4i : ¬ (j : Int) < (put.length : Int) := by omega
              have HR : RowKit.Hid (f j = false) := Lib.hid (HM0.out.trans (by simp [k4]))
              clear HM0 k4 hpc
              by_cases g9 : r0 = 9
              ·have HJ2 := Lib.hid (HJ.out)
               subst g9
               clear HJ
               cases tb with
               | false =>
                clear HJ2
                as_aux_lemma =>
                 go_wp2_with fail
                 go_meet
                 case rel => exact ⟨rfl, by rw [HR.out], HB8.out⟩
               | true =>
                by_cases gt : t0 = (j : Int) + 1
                ·have hjn : decide ((j : Int) + 1 < (X.length : Int)) = false := decide_eq_false (fun h => HJ2.out ⟨rfl, rfl, gt, by omega⟩)
                 subst gt
                 clear HJ2
                 as_aux_lemma =>
                  go_wp2_with fail
                  go_meet
                  case rel => exact ⟨rfl, by rw [HR.out], HB8.out⟩
                ·have gtb : (t0 == (j : Int) + 1) = false := by simpa using gt
                 clear HJ2 gt
                 as_aux_lemma =>
                  go_wp2_with fail
                  go_meet
                  case rel => exact ⟨rfl, by rw [HR.out], HB8.out⟩
              ·have g9b : (r0 == 9) = false := by simpa using g9
               clear HJ g9
               as_aux_lemma =>
                go_wp2_with fail
                go_meet
                case rel => exact ⟨rfl, by rw [HR.out], HB8.out⟩
            ·have k3b : (zd == zs) = false := by simpa using k3
             have HR : RowKit.Hid (f j = false) := Lib.hid (HM0.out.trans (by simp [k3b]))
             clear HM0 k3 hpc
             by_cases g9 : r0 = 9
             ·have HJ2 := Lib.hid (HJ.out)
              subst g9
              clear HJ
              cases tb with
              | false =>
               clear HJ2
               as_aux_lemma =>
                go_wp2_with fail
                go_meet
                case rel => exact ⟨rfl, by rw [HR.out], HB8.out⟩
              | true =>
               by_cases gt : t0 = (j : Int) + 1
               ·have hjn : decide ((j : Int) + 1 < (X.length : Int)) = false := decide_eq_false (fun h => HJ2.out ⟨rfl, rfl, gt, by omega⟩)
                subst gt
                clear HJ2
                as_aux_lemma =>
                 go_wp2_with fail
                 go_meet
                 case rel => exact ⟨rfl, by rw [HR.out], HB8.out⟩
               ·have gtb : (t0 == (j : Int) + 1) = false := by simpa using gt
                clear HJ2 gt
                as_aux_lemma =>
                 go_wp2_with fail
                 go_meet
                 case rel => exact ⟨rfl, by rw [HR.out], HB8.out⟩
             ·have g9b : (r0 == 9) = false := by simpa using g9
              clear HJ g9
              as_aux_lemma =>
               go_wp2_with fail
               go_meet
               case rel => exact ⟨rfl, by rw [HR.out], HB8.out⟩
           ·have k2b : (zf == 0) = false := by simpa using k2
            have HR : RowKit.Hid (f j = false) := Lib.hid (HM0.out.trans (by simp [k2b]))
            clear HM0 k2 hpc
            by_cases g9 : r0 = 9
            ·have HJ2 := Lib.hid (HJ.out)
             subst g9
             clear HJ
             cases tb with
             | false =>
              clear HJ2
              as_aux_lemma =>
               go_wp2_with fail
               go_meet
               case rel => exact ⟨rfl, by rw [HR.out], HB8.out⟩
             | true =>
              by_cases gt : t0 = (j : Int) + 1
              ·have hjn : decide ((j : Int) + 1 < (X.length : Int)) = false := decide_eq_false (fun h => HJ2.out ⟨rfl, rfl, gt, by omega⟩)
               subst gt
               clear HJ2
               as_aux_lemma =>
                go_wp2_with fail
                go_meet
                case rel => exact ⟨rfl, by rw [HR.out], HB8.out⟩
              ·have gtb : (t0 == (j : Int) + 1) = false := by simpa using gt
               clear HJ2 gt
               as_aux_lemma =>
                go_wp2_with fail
                go_meet
                case rel => exact ⟨rfl, by rw [HR.out], HB8.out⟩
            ·have g9b : (r0 == 9) = false := by simpa using g9
             clear HJ g9
             as_aux_lemma =>
              go_wp2_with fail
              go_meet
              case rel => exact ⟨rfl, by rw [HR.out], HB8.out⟩
          ·have k1b : (zo == 191) = false := by simpa using k1
           have HR : RowKit.Hid (f j = false) := Lib.hid (HM0.out.trans (by simp [k1b]))
           clear HM0 k1 hpc
           by_cases g9 : r0 = 9
           ·have HJ2 := Lib.hid (HJ.out)
            subst g9
            clear HJ
            cases tb with
            | false =>
             clear HJ2
             as_aux_lemma =>
              go_wp2_with fail
              go_meet
              case rel => exact ⟨rfl, by rw [HR.out], HB8.out⟩
            | true =>
             by_cases gt : t0 = (j : Int) + 1
             ·have hjn : decide ((j : Int) + 1 < (X.length : Int)) = false := decide_eq_false (fun h => HJ2.out ⟨rfl, rfl, gt, by omega⟩)
              subst gt
              clear HJ2
              as_aux_lemma =>
               go_wp2_with fail
               go_meet
               case rel => exact ⟨rfl, by rw [HR.out], HB8.out⟩
             ·have gtb : (t0 == (j : Int) + 1) = false := by simpa using gt
              clear HJ2 gt
              as_aux_lemma =>
               go_wp2_with fail
               go_meet
               case rel => exact ⟨rfl, by rw [HR.out], HB8.out⟩
           ·have g9b : (r0 == 9) = false := by simpa using g9
            clear HJ g9
            as_aux_lemma =>
             go_wp2_with fail
             go_meet
             case rel => exact ⟨rfl, by rw [HR.out], HB8.out⟩
       case rest =>
        obtain ⟨rfl, rfl, hb7c⟩ := hcut
        obtain ⟨w8, hV⟩ : ∃ V : World, V = wc := ⟨wc, rfl⟩
        subst hV
        obtain ⟨hown, hbr⟩ := hHO.out
        have hd8 := hd.below hb7c
        have hb48 := hb47.trans (hb7c.mono hb47.size)
        have d0 := hd8.cell (k := 0) rfl
        have d1 := hd8.cell (k := 1) rfl
        have d2 := hd8.cell (k := 2) rfl
        have d3 := hd8.cell (k := 3) rfl
        have d4 := hd8.cell (k := 4) rfl
        have d5 := hd8.cell (k := 5) rfl
        have d6 := hd8.cell (k := 6) rfl
        have dz := hd8.free 0
        clear hHO hz7 hv7 hd hd8 hb47 hb7c hst hpc
        cases hfj : f j with
        | true =>
         have hsb : SB X j = true := by
          have h1 := HFj.out
          rw [hfj] at h1
          cases h2 : SB X j with
          | true => rfl
          | false => rw [h2] at h1; simp [flagB] at h1
         have HMM : RowKit.Hid (manyF X f (j + 1) = mm + 1) := Lib.hid (by rw [HM.out, if_pos ⟨hsb, hfj⟩])
         have HEE : RowKit.Hid (editsV (oneP f (j + 1)) = es ++ [.int .u8 1, .int .u8 0, .int .u8 0, .int .u8 0, .int .i16 0, .int .i32 0, .int .i64 0]) := Lib.hid (by rw [HE.out, hfj]; rfl)
         have hb9 : Below w4.heap.size w4 (w8.setCell ⟨w6.heap.size, 0, none⟩ (.int .u8 1)) := hb48.setCell (p := ⟨w6.heap.size, 0, none⟩) hg _
         have hown9 := own_keep hown hb9
         have hb39 := hbr.trans (hb9.mono hbr.size)
         have HX9 := Lib.hid (And.intro hown9 hb39)
         clear HM HE HFj hown hbr hb48 hfj hsb
         go_wp2_with (at_builtin; refine wpList_append_box rfl (.tmp 177) (.tmp 179) 37 rfl w3.heap.size 48 i0 (.agg #[.int .u8 0, .int .u8 0, .int .u8 0, .int .u8 0, .int .i16 0, .int .i32 0, .int .i64 0]) 7 24 Try.underlying37 hinf hz0 hz1 hz2 rfl (by decide) E j c1 1 _ rfl rfl (by simp) hown9 rfl ?c1 ?c2 ?c3 ?c4 ?c5)
         case c1 => exact ⟨rfl, rfl, rfl, rfl, rfl⟩
         case c2 => simp only [maxLen]; omega
         case c3 => omega
         case c4 => exact hb39.size
         case c5 =>
          intro A6 c6 w9 ho9 hg9 hb10 hor9
          have hb11 := hb39.trans hb10
          have ho10 : w9.ownsRow w3.heap.size 48 7 (.slice A6 (j + 1) c6) (j + 1) (editsV (oneP f (j + 1))) := by
           rw [HEE.out]; simpa using ho9
          have HO := Lib.hid (And.intro ho10 hb11)
          clear ho9 hg9 hb10 hor9 ho10 hb11 hown9 hb39 hb9
          go_wp2_with fail
          go_roundw
          case rel => exact ⟨j + 1, A6, c6, by omega, by go_num, rfl, by rw [HMM.out]; go_num, HO.out.1, HO.out.2⟩
          all_goals (simp [intOf]; omega)
        | false =>
         have HMM : RowKit.Hid (manyF X f (j + 1) = mm) := Lib.hid (by rw [HM.out, if_neg (by simp [hfj])]; rfl)
         have HEE : RowKit.Hid (editsV (oneP f (j + 1)) = es ++ [.int .u8 0, .int .u8 0, .int .u8 0, .int .u8 0, .int .i16 0, .int .i32 0, .int .i64 0]) := Lib.hid (by rw [HE.out, hfj]; rfl)
         have hb9 := hb48
         have hown9 := own_keep hown hb9
         have hb39 := hbr.trans (hb9.mono hbr.size)
         have HX9 := Lib.hid (And.intro hown9 hb39)
         clear HM HE HFj hown hbr hb48 hfj
         go_wp2_with (at_builtin; refine wpList_append_box rfl (.tmp 177) (.tmp 179) 37 rfl w3.heap.size 48 i0 (.agg #[.int .u8 0, .int .u8 0, .int .u8 0, .int .u8 0, .int .i16 0, .int .i32 0, .int .i64 0]) 7 24 Try.underlying37 hinf hz0 hz1 hz2 rfl (by decide) E j c1 1 _ rfl rfl (by simp) hown9 rfl ?c1 ?c2 ?c3 ?c4 ?c5)
         case c1 => exact ⟨rfl, rfl, rfl, rfl⟩
         case c2 => simp only [maxLen]; omega
         case c3 => omega
         case c4 => exact hb39.size
         case c5 =>
          intro A6 c6 w9 ho9 hg9 hb10 hor9
          have hb11 := hb39.trans hb10
          have ho10 : w9.ownsRow w3.heap.size 48 7 (.slice A6 (j + 1) c6) (j + 1) (editsV (oneP f (j + 1))) := by
           rw [HEE.out]; simpa using ho9
          have HO := Lib.hid (And.intro ho10 hb11)
          clear ho9 hg9 hb10 hor9 ho10 hb11 hown9 hb39 hb9
          go_wp2_with fail
          go_roundw
          case rel => exact ⟨j + 1, A6, c6, by omega, by go_num, rfl, by rw [HMM.out], HO.out.1, HO.out.2⟩
          all_goals (simp [intOf]; omega)
      ·have hje : j = X.length := by omega
       have hlti : ¬ (j : Int) < (X.length : Int) := by omega
       have h1 := SAt.own hown
       clear hown hj hlt htar hst hpc HF
       subst hje
       rw [oneP_one] at h1
       go_wp2_with fail
       go_meet
       case rel =>
        refine ⟨E, c1, rfl, ?_, ?_, hbr⟩
        ·rw [HFF.out]
        ·rw [HFF.out]; exact h1
    case rest =>
     obtain ⟨E, c1, rfl, rfl, hE7, hbc⟩ := hcut
     obtain ⟨w4, hV⟩ : ∃ V : World, V = wc := ⟨wc, rfl⟩
     subst hV
     have hbw4 := hbw3.trans (hbc.mono hbw3.size)
     have hE4 := hE3.below hbc
     have e1l : (oneE X (lawF X put)).length = X.length := oneP_len _ _
     have hrw := rewrite_any X hXo A c hXc hc' (by omega) (oneE X (lawF X put)) (oneE_eok X (lawF X put)) E c1 (by omega) w4 ((hX.below hbw4).more hbw4.size) (by rw [e1l]; exact hE7)
     obtain ⟨hy, hyl, hny, hal⟩ := HY.out
     have hyok := rwM_oks hXo (by omega) (oneE_eok X (lawF X put))
     rw [hy] at hrw hyok
     rw [e1l] at hrw
     have HNY := Lib.hid (And.intro hny hal)
     have hyn : y.length ≤ 60 := by omega
     generalize manyF X (lawF X put) X.length = mm at *
     have hmm : mm ≤ 60 := by omega
     have hne : (((y.length : Nat) : Int) != ((X.length : Nat) : Int) - ((mm : Nat) : Int)) = false := by
      rw [bne_eq_false_iff_eq]; omega
     have hBs : w3.heap.size ≤ w4.heap.size := hbc.size
     have HB34 := Lib.hid hbc
     clear hE7 hy hny hal e1l HY hE3 hbc hyl
     go_wp2_with fail
     refine hrw.mono ?_
     rintro en w5 ⟨Y, yc, rfl, hy1, hy2, hy3, hb5, hyf⟩
     simp only at hy1 hy2 hyf hyok ⊢
     clear hrw
     have hbw5 := hbw4.trans (hb5.mono hbw4.size)
     have hE5 := hE4.below hb5
     have z0 := hE5.cell (k := 0) rfl
     have z1 := hE5.cell (k := 1) rfl
     have z2 := hE5.cell (k := 2) rfl
     have z3 := hE5.cell (k := 3) rfl
     have hnew2 := rnew11 y hyok (by omega) Y yc e Ac AD AI AR cc cD cI cR sv dd w5 hy1 (he.below hbw5) heo
     clear hy1 hE4 hE5
     go_wp2_with fail
     refine hnew2.mono ?_
     rintro en w6 ⟨hb6, -, hs⟩
     obtain ⟨Mb2, ownB, gB, rfl, hlowB, hfarB, hmB, hvB, hgB, hgBD⟩ := hs a HNY.out.1
     clear hs hnew2 z0 z1 z2 z3
     have hbw6 := hbw5.trans (hb6.mono hbw5.size)
     obtain ⟨hlowA, hfarA, hmA, hvA, hgA, hgAD⟩ := HA.out
     have hb36 : Below w3.heap.size w3 w6 := (HB34.out.trans (hb5.mono hBs)).trans (hb6.mono (Nat.le_trans hBs hb5.size))
     have hXd := newM_facts HNA.out
     have hYd := newM_facts HNY.out.1
     have hra := rrun11 hXd.1 hXo (hmA.below hb36) hvA (newM_begin HNA.out).2.1 (by omega) hXd.2
     obtain hAD := he.defs
     go_wp2_with fail
     refine hra.mono ?_
     rintro en w7 ⟨hkA, AA, ca, cxa, MA, ka, sxa, dxa, rfl, haE, hcaE, hlaE, hmaE⟩
     clear hra
     have hal := HNY.out.2
     have hEm : (endM e.defs (runK X e.defs 600 600 a)).maps.length = e.defs.length := by simp [endM]
     generalize endM e.defs (runK X e.defs 600 600 a) = EA at *
     obtain ⟨a0, a1, a2, a3, a4, a5⟩ := EA
     simp only [endVal] at haE hcaE hlaE hmaE hal hEm ⊢
     have HEm := Lib.hid hEm
     clear hEm
     have hb7 : Below w.heap.size w w7 := hbw6.trans (hkA.below (B := w.heap.size) (fun k hk => Nat.le_of_not_lt fun h => hk (hlowA k (Nat.lt_of_lt_of_le h hbw2.size))) hbw6.size)
     have hbx := below_boxes1 w7 (.cells #[.int .i64 a0, .int .i64 a1, .int .u64 a2, .int .i64 a3, .slice AA a4.length ca, .slice MA a5.length ka] 56)
     have hO := blk_new (xs := [.int .i64 a0, .int .i64 a1, .int .u64 a2, .int .i64 a3, .slice AA a4.length ca, .slice MA a5.length ka]) (heap_alloc_new w7 (.cells #[.int .i64 a0, .int .i64 a1, .int .u64 a2, .int .i64 a3, .slice AA a4.length ca, .slice MA a5.length ka] 56))
     have hb8 := hb7.trans (hbx.mono hb7.size)
     go_upto_region 38 with fail
     by_cases h0 : a0 = 0
     ·have h0b : (a0 != 0) = false := by simp [h0]
      have halk := hal h0
      have HG := Lib.hid (And.intro h0 hal)
      clear h0 hal
      have h35 : w3.heap.size ≤ w5.heap.size := Nat.le_trans hBs hb5.size
      have hsepA : ∀ b, ownB b ≠ none → b < w6.heap.size ∧ ownA b = none := fun b hb => ⟨Nat.lt_of_not_le (fun h => hb (hfarB b h)), hfarA b (Nat.le_trans h35 (Nat.le_of_not_lt fun h => hb (hlowB b h)))⟩
      have hmB7 : MchIn ownB w7 Mb2 gB y e.defs a := hmB.keep hkA (fun b hb => Classical.byContradiction fun h => hb (hsepA b h).2)
       (fun h0 b o eg h => h (hfarA b (Nat.le_trans hBs (hyf b o (hgB.symm.trans eg)))))
       (fun h0 b o eg h => h (hlowA b (by
        obtain ⟨b', o', e', hb', -⟩ := hAD.2 h0
        rw [hgBD.symm.trans eg] at e'
        cases e'
        exact Nat.lt_of_lt_of_le hb' hbw2.size)))
      have hrb := rrun11 hYd.1 hyok (hmB7.below hbx.drew) hvB (newM_begin HNY.out.1).2.1 (by omega) hYd.2
      have hk78 : Kept (fun b => ownB b ≠ none) w7 (w7.alloc (.cells #[.int .i64 a0, .int .i64 a1, .int .u64 a2, .int .i64 a3, .slice AA a4.length ca, .slice MA a5.length ka] 56)).drew := Kept.of hbx.drew (Nat.le_refl _)
      generalize w7.alloc (.cells #[.int .i64 a0, .int .i64 a1, .int .u64 a2, .int .i64 a3, .slice AA a4.length ca, .slice MA a5.length ka] 56) = W7 at *
      have hfin := fun e9 w9 (h : RunOk ownB W7.drew e.defs (runK y e.defs 600 600 a) e9 w9) => alike_end (EA := ⟨a0, a1, a2, a3, a4, a5⟩) (c := ca) (k := ka) haE hcaE hlaE hmaE h hk78 hsepA (Nat.le_trans (Nat.le_of_eq HEm.out) (by omega)) halk
      have hgl : w7.heap.size < W7.drew.heap.size := hO.lt
      have hgn : ¬ ownB w7.heap.size ≠ none := fun h => h (hfarB _ hkA.size)
      obtain ⟨⟨z0, z1, z2, z3, z4, z5⟩, -⟩ := hO.six
      have hlowB' : ∀ b, ownB b ≠ none → w.heap.size ≤ b := fun b hb => Nat.le_trans hbw5.size (Nat.le_of_not_lt fun h => hb (hlowB b h))
      go_region_held3 (fun w' => w'.cell? ⟨w7.heap.size, 0, none⟩ = some (.int .i64 a0) ∧ w'.cell? ⟨w7.heap.size, 1, none⟩ = some (.int .i64 a1) ∧ w'.cell? ⟨w7.heap.size, 2, none⟩ = some (.int .u64 a2) ∧ w'.cell? ⟨w7.heap.size, 3, none⟩ = some (.int .i64 a3) ∧ w'.cell? ⟨w7.heap.size, 4, none⟩ = some (.slice AA a4.length ca) ∧ w'.cell? ⟨w7.heap.size, 5, none⟩ = some (.slice MA a5.length ka))
       (first | assumption | exact ⟨z0, z1, z2, z3, z4, z5⟩ | exact h10c | exact h9c)
       (first | (go_at_call 10; refine hrb.mono ?_; rintro e9 w9 hR9; obtain ⟨B9, d9, N9, n9, rfl, hk9, hal9⟩ := hfin _ _ hR9; have h9c : w9.cell? ⟨w7.heap.size, 0, none⟩ = some (.int .i64 a0) ∧ w9.cell? ⟨w7.heap.size, 1, none⟩ = some (.int .i64 a1) ∧ w9.cell? ⟨w7.heap.size, 2, none⟩ = some (.int .u64 a2) ∧ w9.cell? ⟨w7.heap.size, 3, none⟩ = some (.int .i64 a3) ∧ w9.cell? ⟨w7.heap.size, 4, none⟩ = some (.slice AA a4.length ca) ∧ w9.cell? ⟨w7.heap.size, 5, none⟩ = some (.slice MA a5.length ka) := ⟨(hk9.cell hgl hgn).trans z0, (hk9.cell hgl hgn).trans z1, (hk9.cell hgl hgn).trans z2, (hk9.cell hgl hgn).trans z3, (hk9.cell hgl hgn).trans z4, (hk9.cell hgl hgn).trans z5⟩) | (go_at_call 11; refine hal9.mono ?_; rintro e10 w10 ⟨rfl, hb10⟩; have h10c : w10.cell? ⟨w7.heap.size, 0, none⟩ = some (.int .i64 a0) ∧ w10.cell? ⟨w7.heap.size, 1, none⟩ = some (.int .i64 a1) ∧ w10.cell? ⟨w7.heap.size, 2, none⟩ = some (.int .u64 a2) ∧ w10.cell? ⟨w7.heap.size, 3, none⟩ = some (.int .i64 a3) ∧ w10.cell? ⟨w7.heap.size, 4, none⟩ = some (.slice AA a4.length ca) ∧ w10.cell? ⟨w7.heap.size, 5, none⟩ = some (.slice MA a5.length ka) := ⟨((hb10.cell (p := ⟨w7.heap.size, 0, none⟩) (Nat.lt_of_lt_of_le hgl hk9.size)).trans h9c.1), ((hb10.cell (p := ⟨w7.heap.size, 1, none⟩) (Nat.lt_of_lt_of_le hgl hk9.size)).trans h9c.2.1), ((hb10.cell (p := ⟨w7.heap.size, 2, none⟩) (Nat.lt_of_lt_of_le hgl hk9.size)).trans h9c.2.2.1), ((hb10.cell (p := ⟨w7.heap.size, 3, none⟩) (Nat.lt_of_lt_of_le hgl hk9.size)).trans h9c.2.2.2.1), ((hb10.cell (p := ⟨w7.heap.size, 4, none⟩) (Nat.lt_of_lt_of_le hgl hk9.size)).trans h9c.2.2.2.2.1), ((hb10.cell (p := ⟨w7.heap.size, 5, none⟩) (Nat.lt_of_lt_of_le hgl hk9.size)).trans h9c.2.2.2.2.2)⟩))
      all_goals
       have hb9 : Below w.heap.size w w9 := hb8.drew.trans (hk9.below (B := w.heap.size) (fun k hk => hlowB' k hk) hb8.size)
       have hb11 := hb9.trans (hb10.mono hb9.size)
       go_wp2_with fail
       go_ret
       exact ⟨rfl, hb11⟩
     ·have h0b : (a0 != 0) = true := by simp [h0]
      have HG := Lib.hid (And.intro h0 hal)
      clear h0 hal
      generalize w7.alloc (.cells #[.int .i64 a0, .int .i64 a1, .int .u64 a2, .int .i64 a3, .slice AA a4.length ca, .slice MA a5.length ka] 56) = W7 at *
      have z0 := hO.cell (k := 0) rfl
      go_quiet (fail)
      go_wp2_with fail
      go_ret
      exact ⟨rfl, below_drewN hb8 _⟩
end Go.Proofs.Ytncogaikiceidaa
