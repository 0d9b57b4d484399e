/- call. No statement is proved here. -/
import Derived.Test.YtncogaikiceidaaN18
import Derived.Test.YtncogaikiceidaaN13
import Derived.Test.YtncogaikiceidaaN12
import Derived.StillTailTactics
namespace Go.Proofs.Ytncogaikiceidaa
open Go.RowKit
set_option linter.unusedSimpArgs false
set_option linter.unusedVariables false
set_option linter.unnecessarySimpa false
section
/-! ### What a step may turn -/
/-- The machine's blocks, and new ones, may turn; the machine is another one then. -/
def TurnM (own : Own) (w : World) (pM : Nat) (l : List Insn) (defs : List DefM) (m' : MchM) (w' : World) : Prop :=
  ∃ own' g', (∀ b, b < w.heap.size → own' b = own b) ∧ MchIn own' w' pM g' l defs m' ∧ Kept (fun b => own b ≠ none) w w'
section
variable {own own' : Own} {w w' w1 : World} {pM : Nat} {g : Gh} {l : List Insn} {defs : List DefM} {m m' : MchM}
theorem TurnM.trans (h : TurnM own w pM l defs m w1) (k : ∀ own1 g1, MchIn own1 w1 pM g1 l defs m → TurnM own1 w1 pM l defs m' w') : TurnM own w pM l defs m' w' := by
  obtain ⟨o1, g1, a1, a2, a3⟩ := h
  obtain ⟨o2, g2, b1, b2, b3⟩ := k o1 g1 a2
  exact ⟨o2, g2, fun b hb => (b1 b (Nat.lt_of_lt_of_le hb a3.size)).trans (a1 b hb), b2, a3.trans b3 (fun i hi e => by rw [← a1 i hi]; exact e)⟩
/-- Whose a block is counts only where there is one. -/
theorem MchIn.own_eq (h : MchIn own w pM g l defs m) (ho : ∀ b, b < w.heap.size → own' b = own b) : MchIn own' w pM g l defs m :=
  h.turn (Kept.refl (X := fun _ => False)) (fun _ e => e.elim) ho (h.mem.kept (Kept.refl (X := fun _ => False)) ho (fun _ _ _ _ => id)) (h.tab.kept (Kept.refl (X := fun _ => False)) ho (fun _ _ _ _ => id))
theorem TurnM.own_eq (h : TurnM own' w pM l defs m' w') (ho : ∀ b, b < w.heap.size → own' b = own b) : TurnM own w pM l defs m' w' := by
  obtain ⟨o1, g1, a1, a2, a3⟩ := h
  exact ⟨o1, g1, fun b hb => (a1 b hb).trans (ho b hb), a2, (Kept.refl (X := fun b => own b ≠ none)).trans a3 (fun i hi e => by rw [← ho i hi]; exact e)⟩
theorem TurnM.same (h : MchIn own w pM g l defs m) (hb : Below w.heap.size w w') : TurnM own w pM l defs m w' :=
  ⟨own, g, fun _ _ => rfl, h.below hb, Kept.of hb (Nat.le_refl _)⟩
theorem TurnM.reg (h : MchIn own w' pM g l defs m') (hr : own pM = some .mach) (hk : Kept (fun b => b = pM) w w') : TurnM own w pM l defs m' w' :=
  ⟨own, g, fun _ _ => rfl, h, (Kept.refl (X := fun b => own b ≠ none)).trans hk (fun i _ e => by subst e; rw [hr]; simp)⟩
/-- Blocks that are nobody's may turn. -/
theorem MchIn.keep {X : Nat → Prop} (h : MchIn own w pM g l defs m) (hk : Kept X w w') (hX : ∀ b, X b → own b = none) (hc : 0 < l.length → ∀ b o, g.A = some ⟨b, o, none⟩ → ¬ X b) (hd : 0 < defs.length → ∀ b o, g.AD = some ⟨b, o, none⟩ → ¬ X b) : MchIn own w' pM g l defs m := by
  have hx : ∀ b r, own b = some r → ¬ X b := fun b r e f => by rw [hX b f] at e; cases e
  refine ⟨h.role, h.lr, h.ls, h.u64, h.blk.kept hk (hx pM _ h.role), ?_, h.codeFar, ?_, h.mapsFar, h.mem.kept hk (fun _ _ => rfl) (fun b r e _ => hx b r e), h.tab.kept hk (fun _ _ => rfl) (fun b r e _ => hx b r e), h.draws.kept hk (fun _ _ => rfl) (fun b e => hx b _ e), h.drawsU, h.calls.kept hk (fun _ _ => rfl) (fun b e => hx b _ e), fun i hi => ⟨(h.data i hi).key.kept hk (fun _ _ => rfl) (fun b e => hx b _ e), (h.data i hi).val.kept hk (fun _ _ => rfl) (fun b e => hx b _ e), (h.data i hi).n.kept hk (fun _ _ => rfl) (fun b e => hx b _ e)⟩⟩
  · obtain ⟨c, e, hs⟩ := h.code; exact ⟨c, e, (hs.keep2 (Nat.le_refl _) hk hc).more2 hk.size⟩
  · obtain ⟨c, e, hs⟩ := h.maps; exact ⟨c, e, (hs.keep2 (Nat.le_refl _) hk hd).more2 hk.size⟩
/-- Where the program and the maps lie. -/
theorem MchIn.codeLow (h : MchIn own w pM g l defs m) : 0 < l.length → ∀ b o, g.A = some ⟨b, o, none⟩ → b < w.heap.size := fun hn b o e => by
  obtain ⟨c, -, hs⟩ := h.code
  obtain ⟨b', o', e', hb, -⟩ := hs.2 hn
  rw [e] at e'; cases e'; exact hb
theorem MchIn.mapsLow (h : MchIn own w pM g l defs m) : 0 < defs.length → ∀ b o, g.AD = some ⟨b, o, none⟩ → b < w.heap.size := fun hn b o e => by
  obtain ⟨c, -, hs⟩ := h.maps
  obtain ⟨b', o', e', hb, -⟩ := hs.2 hn
  rw [e] at e'; cases e'; exact hb
end
end
section
/-! ### call, in plain -/
theorem sigM_cases {id : Int} {g : SigM} (h : sigM id = some g) : (id = 1 ∧ g = ⟨[1, 2], false, 0⟩) ∨ (id = 2 ∧ g = ⟨[1, 2, 3, 4], false, 18446744073709551615⟩) ∨ (id = 3 ∧ g = ⟨[1, 2], false, 18446744073709551615⟩) ∨ (id = 6 ∧ g = ⟨[4, 4], false, 0⟩) ∨ ((id = 5 ∨ id = 7 ∨ id = 8) ∧ g.told = [] ∧ g.draws = true) := by
  unfold sigM at h
  by_cases h1 : id = 1
  · rw [if_pos h1] at h; cases h; exact .inl ⟨h1, rfl⟩
  rw [if_neg h1] at h
  by_cases h2 : id = 2
  · rw [if_pos h2] at h; cases h; exact .inr (.inl ⟨h2, rfl⟩)
  rw [if_neg h2] at h
  by_cases h3 : id = 3
  · rw [if_pos h3] at h; cases h; exact .inr (.inr (.inl ⟨h3, rfl⟩))
  rw [if_neg h3] at h
  by_cases h5 : id = 5
  · rw [if_pos h5] at h; cases h; exact .inr (.inr (.inr (.inr ⟨.inl h5, rfl, rfl⟩)))
  rw [if_neg h5] at h
  by_cases h6 : id = 6
  · rw [if_pos h6] at h; cases h; exact .inr (.inr (.inr (.inl ⟨h6, rfl⟩)))
  rw [if_neg h6] at h
  by_cases h7 : id = 7
  · rw [if_pos h7] at h; cases h; exact .inr (.inr (.inr (.inr ⟨.inr (.inl h7), rfl, rfl⟩)))
  rw [if_neg h7] at h
  by_cases h8 : id = 8
  · rw [if_pos h8] at h; cases h; exact .inr (.inr (.inr (.inr ⟨.inr (.inr h8), rfl, rfl⟩)))
  rw [if_neg h8] at h
  cases h
/-- What the three helpers on maps do. -/
def midM (m : MchM) (id : Int) (c : CalledM) : MchM × Int × Int :=
  if id = 1 then (m, lookM m.tab c.map c.key)
  else if id = 2 then ({ m with mem := (putM m.mem m.tab c.map c.key c.val (c.n.getD 0 0)).1, tab := (putM m.mem m.tab c.map c.key c.val (c.n.getD 0 0)).2.1 }, (putM m.mem m.tab c.map c.key c.val (c.n.getD 0 0)).2.2)
  else if id = 3 then ({ m with tab := (dropM m.tab c.map c.key).1 }, (dropM m.tab c.map c.key).2)
  else (m, 0, 0)
def midD (m : MchM) (g : SigM) (id : Int) (c : CalledM) : MchM × Int × Int :=
  if g.draws = true then ({ m with draws := (drawM g.most m.draws).2.1 }, (drawM g.most m.draws).1, 0) else midM m id c
theorem callM_told {m : MchM} {defs : List DefM} {id : Int} {g : SigM} (hg : sigM id = some g) (hc : (toldM m defs g.told 0 (called0 id)).2 ≠ 0) : callM m defs id = (m, (toldM m defs g.told 0 (called0 id)).2) := by
  unfold callM
  rw [hg]
  simp only
  rw [if_pos hc]
theorem callM_dry {m : MchM} {defs : List DefM} {id : Int} {g : SigM} {c : CalledM} (hg : sigM id = some g) (hc : toldM m defs g.told 0 (called0 id) = (c, 0)) (hd : g.draws = true) (he : (drawM g.most m.draws).2.2 ≠ 0) : callM m defs id = (m, (drawM g.most m.draws).2.2) := by
  unfold callM
  rw [hg]
  simp only
  rw [hc]
  rcases sigM_cases hg with ⟨rfl, rfl⟩ | ⟨rfl, rfl⟩ | ⟨rfl, rfl⟩ | ⟨rfl, rfl⟩ | ⟨hid, -, -⟩
  iterate 4
    · cases hd
  · rw [if_neg (by simp), if_neg (by omega), if_neg (by omega), if_neg (by omega), if_pos hd, if_pos he]
theorem callM_mid {m : MchM} {defs : List DefM} {id : Int} {g : SigM} {c : CalledM} (hg : sigM id = some g) (hc : toldM m defs g.told 0 (called0 id) = (c, 0)) (hr : c.ret = 0) (hd : g.draws = true → (drawM g.most m.draws).2.2 = 0) :
    callM m defs id = if (midD m g id c).2.2 ≠ 0 then ((midD m g id c).1, (midD m g id c).2.2) else (afterCall { (midD m g id c).1 with calls := (midD m g id c).1.calls ++ [{ c with ret := (midD m g id c).2.1 }] } (midD m g id c).2.1, 0) := by
  unfold callM
  rw [hg]
  simp only
  rw [hc]
  rcases sigM_cases hg with ⟨rfl, rfl⟩ | ⟨rfl, rfl⟩ | ⟨rfl, rfl⟩ | ⟨rfl, rfl⟩ | ⟨hid, -, hdr⟩
  iterate 3
    · rfl
  · show (afterCall { m with calls := m.calls ++ [c] } 0, 0) = (afterCall { m with calls := m.calls ++ [{ c with ret := 0 }] } 0, 0)
    rw [← hr]
  · rw [if_neg (by simp), if_neg (by omega), if_neg (by omega), if_neg (by omega), if_pos hdr, if_neg (by rw [hd hdr]; simp)]
    unfold midD
    rw [if_pos hdr, if_neg (by simp)]
theorem told_n (m : MchM) (defs : List DefM) : ∀ (l : List Int) (i : Nat) (c : CalledM), (toldM m defs l i c).2 = 0 → (toldM m defs l i c).1.n.length = c.n.length + (l.filter fun k => !(k == 1 || k == 2 || k == 3)).length
  | [], _, _, _ => rfl
  | k :: l, i, c, h => by
    cases hs : setM m (i + 1) with
    | false => rw [told_unset m defs k l i c hs] at h; exact absurd h (by show ¬ (110 : Int) = 0; decide)
    | true =>
      rw [told_next m defs k l i c hs] at h ⊢
      by_cases h1 : k = 1
      · rw [if_pos h1] at h ⊢
        split at h
        · exact absurd h (by show ¬ (113 : Int) = 0; decide)
        · rename_i q; rw [if_neg q]; rw [told_n m defs l _ _ h]; simp [h1]
      rw [if_neg h1] at h ⊢
      by_cases h2 : k = 2
      · rw [if_pos h2] at h ⊢
        split at h
        · rename_i q; exact absurd h q
        · rename_i q; rw [if_neg q]; rw [told_n m defs l _ _ h]; simp [h2]
      rw [if_neg h2] at h ⊢
      by_cases h3 : k = 3
      · rw [if_pos h3] at h ⊢
        split at h
        · rename_i q; exact absurd h q
        · rename_i q; rw [if_neg q]; rw [told_n m defs l _ _ h]; simp [h3]
      rw [if_neg h3] at h ⊢
      rw [told_n m defs l _ _ h]
      simp [h1, h2, h3]
      omega
/-- A register is cleared. -/
def clrR (m : MchM) (i : Nat) : MchM := { m with r := m.r.set i 0, s := m.s.set i false }
def clrN (m : MchM) : Nat → MchM
  | 0 => m
  | j + 1 => clrR (clrN m j) (j + 1)
theorem clrN_len (m : MchM) : ∀ j, (clrN m j).r.length = m.r.length ∧ (clrN m j).s.length = m.s.length
  | 0 => ⟨rfl, rfl⟩
  | j + 1 => by simpa [clrN, clrR] using clrN_len m j
theorem clrN_five {m : MchM} (lr : m.r.length = 11) (ls : m.s.length = 11) (ret : Int) : putR (clrN m 5) 0 ret = afterCall m ret := by
  obtain ⟨r, s, me, tb, dr, pl, ov, co, st, ca⟩ := m
  simp only at lr ls
  match r, lr, s, ls with
  | [_, _, _, _, _, _, _, _, _, _, _], _, [_, _, _, _, _, _, _, _, _, _, _], _ => rfl
theorem mch_clr {g : Gh} {m : MchM} (lr : m.r.length = 11) (ls : m.s.length = 11) (i : Nat) (hi : i < 11) : ((mchCells g m).set (12 + i) (.bool false)).set (1 + i) (.int .u64 0) = mchCells g (clrR m i) := by
  simp only [mchCells, clrR]
  rw [Nat.add_comm 1 i, show 12 + i = (11 + i) + 1 by omega, List.set_cons_succ, List.set_cons_succ, List.set_append_right _ _ (by simp [lr]), List.set_append_left _ _ (by simp [lr, ls, hi]), List.set_append_left _ _ (by simp [lr, ls, hi])]
  simp [lr, List.map_set]
theorem MchIn.clr {own : Own} {w : World} {pM : Nat} {g : Gh} {l : List Insn} {defs : List DefM} {m : MchM} (h : MchIn own w pM g l defs m) (i : Nat) (hi : i < 11) : MchIn own ((w.setCell ⟨pM, 12 + i, none⟩ (.bool false)).setCell ⟨pM, 1 + i, none⟩ (.int .u64 0)) pM g l defs (clrR m i) ∧ Kept (fun b => b = pM) w ((w.setCell ⟨pM, 12 + i, none⟩ (.bool false)).setCell ⟨pM, 1 + i, none⟩ (.int .u64 0)) := by
  have hl := mch_len (g := g) h.lr h.ls
  have hb1 := h.blk.set (k := 12 + i) (by omega) (.bool false)
  have hb2 := hb1.set (k := 1 + i) (by rw [List.length_set]; omega) (.int .u64 0)
  rw [mch_clr h.lr h.ls i hi] at hb2
  have hk : Kept (fun b => b = pM) w ((w.setCell ⟨pM, 12 + i, none⟩ (.bool false)).setCell ⟨pM, 1 + i, none⟩ (.int .u64 0)) := Kept.set (X := fun b => b = pM) (Kept.set (X := fun b => b = pM) Kept.refl rfl) rfl
  refine ⟨h.regs hk _ hb2 (by simp [clrR, h.lr]) (by simp [clrR, h.ls]) (fun n hn => ?_) rfl rfl rfl rfl, hk⟩
  rcases List.mem_or_eq_of_mem_set hn with h1 | rfl
  · exact h.u64 n h1
  · exact ⟨by decide, by decide⟩
end
section
theorem info119 : (Try.prog.info? 119).map (fun i => (i.zero, i.size, i.bytes)) = some (some (.agg #[.int .i64 0, .int .i64 0, .slice none 0 0, .slice none 0 0, .slice none 0 0, .int .u64 0]), 6, 96) := by kernel_rfl
def inD (d : Value × Value × Value) (b : Nat) : Prop := d.1.ownBlock = some b ∨ d.2.1.ownBlock = some b ∨ d.2.2.ownBlock = some b
/-- The machine, and what was told beside it. -/
structure CallSt (own : Own) (w : World) (pM : Nat) (g : Gh) (l : List Insn) (defs : List DefM) (c : CalledM) (d : Value × Value × Value) (q sb : Nat) (sd : Bool) (ret : Int) (own3 : Own) (g3 : Gh) (m3 : MchM) (wx : World) : Prop where
  mch : MchIn own3 wx pM g3 l defs m3
  low : ∀ b, b < w.heap.size → own3 b = own b
  free : ∀ b, inD d b → own3 b = none
  freeq : own3 q = none
  qS : w.heap.size ≤ q
  apart : ¬ inD d q
  box : Blk wx q (calledV { c with ret := ret } d)
  rows : ToldRows wx w.heap.size d c
  kept : Kept (fun b => own b ≠ none) w wx
  gA : g3.A = g.A
  gD : g3.AD = g.AD
  sfree : own3 sb = none
  sne : sb ≠ q
  sS : w.heap.size ≤ sb
  slt : sb < wx.heap.size
  scell : wx.cell? ⟨sb, 2, none⟩ = some (.bool sd)
section
variable {own : Own} {w : World} {pM : Nat} {g : Gh} {l : List Insn} {defs : List DefM} {c : CalledM} {d : Value × Value × Value} {q sb : Nat} {sd : Bool} {ret : Int} {own3 own4 : Own} {g3 g4 : Gh} {m3 m4 : MchM} {wx wy : World}
theorem inD_low (hr : ToldRows wx w.heap.size d c) {b : Nat} (hb : inD d b) : w.heap.size ≤ b ∧ b < wx.heap.size := by
  rcases hb with e | e | e
  · exact hr.key.lt b e
  · exact hr.val.lt b e
  · exact hr.n.lt b e
/-- What turns no block of the call's own keeps what was told. -/
theorem CallSt.turn (h : CallSt own w pM g l defs c d q sb sd ret own3 g3 m3 wx) (hm : MchIn own4 wy pM g4 l defs m4) (ho : ∀ b, b < wx.heap.size → own4 b = own3 b) {X : Nat → Prop} (hk : Kept X wx wy) (hX : ∀ b, b < wx.heap.size → X b → own3 b ≠ none) (gA : g4.A = g3.A) (gD : g4.AD = g3.AD) : CallSt own w pM g l defs c d q sb sd ret own4 g4 m4 wy where
  mch := hm
  low := fun b hb => (ho b (Nat.lt_of_lt_of_le hb h.kept.size)).trans (h.low b hb)
  free := fun b hb => (ho b (inD_low h.rows hb).2).trans (h.free b hb)
  freeq := (ho q h.box.lt).trans h.freeq
  qS := h.qS
  apart := h.apart
  box := by
    have hk' : Kept (fun b => own3 b ≠ none) wx wy := (Kept.refl (X := fun b => own3 b ≠ none)).trans hk hX
    exact h.box.kept hk' (fun e => e h.freeq)
  rows := by
    have hk' : Kept (fun b => own3 b ≠ none) wx wy := (Kept.refl (X := fun b => own3 b ≠ none)).trans hk hX
    exact ⟨own_kept h.rows.key hk' (fun b e f => f (h.free b (.inl e))), own_kept h.rows.val hk' (fun b e f => f (h.free b (.inr (.inl e)))), own_kept h.rows.n hk' (fun b e f => f (h.free b (.inr (.inr e))))⟩
  kept := h.kept.trans hk (fun i hi e f => hX i (Nat.lt_of_lt_of_le hi h.kept.size) e ((h.low i hi).trans f))
  gA := gA.trans h.gA
  gD := gD.trans h.gD
  sfree := (ho sb h.slt).trans h.sfree
  sne := h.sne
  sS := h.sS
  slt := Nat.lt_of_lt_of_le h.slt hk.size
  scell := by
    have hk' : Kept (fun b => own3 b ≠ none) wx wy := (Kept.refl (X := fun b => own3 b ≠ none)).trans hk hX
    exact (hk'.cell h.slt (fun e => e h.sfree)).trans h.scell
theorem CallSt.below (h : CallSt own w pM g l defs c d q sb sd ret own3 g3 m3 wx) (hb : Below wx.heap.size wx wy) : CallSt own w pM g l defs c d q sb sd ret own3 g3 m3 wy :=
  h.turn (h.mch.below hb) (fun _ _ => rfl) (Kept.of (X := fun _ => False) hb (Nat.le_refl _)) (fun _ _ e => e.elim) rfl rfl
/-- What the helper told. -/
theorem CallSt.told (h : CallSt own w pM g l defs c d q sb sd ret own3 g3 m3 wx) (hcl : 0 < l.length → ∀ b o, g.A = some ⟨b, o, none⟩ → b < w.heap.size) (hdl : 0 < defs.length → ∀ b o, g.AD = some ⟨b, o, none⟩ → b < w.heap.size) (n : Int) : CallSt own w pM g l defs c d q sb sd n own3 g3 m3 (wx.setCell ⟨q, 5, none⟩ (.int .u64 n)) := by
  have hk : Kept (fun b => b = q) wx (wx.setCell ⟨q, 5, none⟩ (.int .u64 n)) := Kept.refl.set rfl
  have hq : ∀ b, inD d b → ¬ b = q := fun b hb e => by subst e; exact h.apart hb
  have hqs := h.qS
  refine ⟨h.mch.keep hk (fun b e => by subst e; exact h.freeq) (fun h0 b o e f => ?_) (fun h0 b o e f => ?_), h.low, h.free, h.freeq, h.qS, h.apart, ?_, ?_, h.kept.trans hk (fun i hi e => by omega), h.gA, h.gD, h.sfree, h.sne, h.sS, Nat.lt_of_lt_of_le h.slt hk.size, (hk.cell h.slt h.sne).trans h.scell⟩
  · rw [h.gA] at e
    have := hcl h0 b o e
    omega
  · rw [h.gD] at e
    have := hdl h0 b o e
    omega
  · have := h.box.set (k := 5) (by simp [calledV]) (.int .u64 n)
    simpa [calledV] using this
  · exact ⟨own_kept h.rows.key hk (fun b e => hq b (.inl e)), own_kept h.rows.val hk (fun b e => hq b (.inr (.inl e))), own_kept h.rows.n hk (fun b e => hq b (.inr (.inr e)))⟩
/-- What was told joins. -/
theorem CallSt.join (h : CallSt own w pM g l defs c d q sb sd ret own3 g3 m3 wx) (hcl : 0 < l.length → ∀ b o, g.A = some ⟨b, o, none⟩ → b < w.heap.size) (hdl : 0 < defs.length → ∀ b o, g.AD = some ⟨b, o, none⟩ → b < w.heap.size) {w1 : World} (A8 : Option Addr) (c8 : Nat)
    (h8 : w1.ownsRow 0 119 6 (.slice A8 (m3.calls.length + 1) c8) (m3.calls.length + 1) (callsV g3.cd m3.calls 0 ++ calledV { c with ret := ret } d)) (hg : wx.grownBy w1 g3.cl.ownBlock)
    (hor : (Value.slice A8 (m3.calls.length + 1) c8).ownBlock = g3.cl.ownBlock ∨ ∃ b, (Value.slice A8 (m3.calls.length + 1) c8).ownBlock = some b ∧ wx.heap.size ≤ b) :
    ∃ own5 g5, (∀ b, b < w.heap.size → own5 b = own b) ∧ MchIn own5 (w1.setCell ⟨pM, 31, none⟩ (.slice A8 (m3.calls.length + 1) c8)) pM g5 l defs { m3 with calls := m3.calls ++ [{ c with ret := ret }] } ∧
      Kept (fun b => own b ≠ none) w (w1.setCell ⟨pM, 31, none⟩ (.slice A8 (m3.calls.length + 1) c8)) ∧ Blk (w1.setCell ⟨pM, 31, none⟩ (.slice A8 (m3.calls.length + 1) c8)) q (calledV { c with ret := ret } d) ∧ ¬ q = pM := by
  have hlow : ∀ b, inD d b → w.heap.size ≤ b := fun b hb => (inD_low h.rows hb).1
  have hsz := h.kept.size
  have hrole := h.mch.role
  obtain ⟨own5, p1, p2, p3, p4⟩ := h.mch.addCall { c with ret := ret } d (B := w.heap.size) ⟨h.rows.key, h.rows.val, h.rows.n⟩ h.free
    (fun hn b o e hb => by rw [h.gA] at e; have := hcl hn b o e; have := hlow b hb; omega) (fun hn b o e hb => by rw [h.gD] at e; have := hdl hn b o e; have := hlow b hb; omega) A8 c8 h8 hg hor
  have hk' : Kept (fun b => own3 b ≠ none) wx (w1.setCell ⟨pM, 31, none⟩ (.slice A8 (m3.calls.length + 1) c8)) := (Kept.refl (X := fun b => own3 b ≠ none)).trans p4 (fun i _ e => by
    rcases e with e | e
    · rw [e]; simp
    · subst e; rw [hrole]; simp)
  refine ⟨own5, _, fun b hb => ?_, p3, h.kept.trans hk' (fun i hi e f => e ((h.low i hi).trans f)), h.box.kept hk' (fun e => e h.freeq), fun e => by subst e; rw [h.freeq] at hrole; cases hrole⟩
  have hb3 : b < wx.heap.size := Nat.lt_of_lt_of_le hb hsz
  cases hq : own3 b with
  | some r => rw [p1 b hb3 (by rw [hq]; simp), h.low b hb]
  | none =>
    have h5 : own5 b = none := by
      cases h6 : own5 b with
      | none => rfl
      | some r =>
        have := hlow b (p2 b hb3 (by rw [h6]; simp) hq)
        omega
    rw [h5, ← h.low b hb, hq]
/-- What may be drawn becomes another row. -/
theorem MchIn.redraw {own : Own} {w : World} {pM : Nat} {g : Gh} {l : List Insn} {defs : List DefM} {m : MchM} (h : MchIn own w pM g l defs m) (v : Value) (r : List Int) (hU : ∀ n ∈ r, U64 n) (hr : RowIn own .draws w 53 1 v r.length (r.map (Value.int .u64))) : MchIn own (w.setCell ⟨pM, 26, none⟩ v) pM { g with dr := v } l defs { m with draws := r } := by
  have hk : Kept (fun b => b = pM) w (w.setCell ⟨pM, 26, none⟩ v) := Kept.refl.set rfl
  have hx : ∀ b r, own b = some r → r ≠ .mach → ¬ b = pM := fun b r e hne f => by subst f; rw [h.role] at e; cases e; exact hne rfl
  have hlen := mch_len (g := g) h.lr h.ls
  refine ⟨h.role, h.lr, h.ls, h.u64, ?_, ?_, h.codeFar, ?_, h.mapsFar, h.mem.kept hk (fun _ _ => rfl) (fun b r e hm => hx b r e (by rintro rfl; exact hm)), h.tab.kept hk (fun _ _ => rfl) (fun b r e hm => hx b r e (by rintro rfl; exact hm)), hr.kept hk (fun _ _ => rfl) (fun b e => hx b _ e (by simp)), hU, h.calls.kept hk (fun _ _ => rfl) (fun b e => hx b _ e (by simp)), fun i hi => ⟨(h.data i hi).key.kept hk (fun _ _ => rfl) (fun b e => hx b _ e (by simp)), (h.data i hi).val.kept hk (fun _ _ => rfl) (fun b e => hx b _ e (by simp)), (h.data i hi).n.kept hk (fun _ _ => rfl) (fun b e => hx b _ e (by simp))⟩⟩
  · have hb1 := h.blk.set (k := 26) (by rw [hlen]; decide) v
    have e3 : (mchCells g m).set 26 v = mchCells { g with dr := v } { m with draws := r } := mch_set_hi (g := g) (m := m) h.lr h.ls 3 v rfl rfl rfl rfl
    rw [e3] at hb1
    exact hb1
  · obtain ⟨c, e, hs⟩ := h.code
    exact ⟨c, e, (hs.keep2 (Nat.le_refl _) hk (fun h0 b o e f => by have := h.codeFar h0 b o e; subst f; rw [h.role] at this; cases this)).more2 hk.size⟩
  · obtain ⟨c, e, hs⟩ := h.maps
    exact ⟨c, e, (hs.keep2 (Nat.le_refl _) hk (fun h0 b o e f => by have := h.mapsFar h0 b o e; subst f; rw [h.role] at this; cases this)).more2 hk.size⟩
theorem CallSt.draw (h : CallSt own w pM g l defs c d q sb sd ret own3 g3 m3 wx) (hcl : 0 < l.length → ∀ b o, g.A = some ⟨b, o, none⟩ → b < w.heap.size) (hdl : 0 < defs.length → ∀ b o, g.AD = some ⟨b, o, none⟩ → b < w.heap.size) {w6 : World} (hb : Below wx.heap.size wx w6) (v : Value) (r : List Int) (hU : ∀ n ∈ r, U64 n) (hv : w6.ownsRow wx.heap.size 53 1 v r.length (r.map (Value.int .u64))) (n : Int) :
    ∃ own4, CallSt own w pM g l defs c d q sb sd n own4 { g3 with dr := v } { m3 with draws := r } ((w6.setCell ⟨q, 5, none⟩ (.int .u64 n)).setCell ⟨pM, 26, none⟩ v) := by
  generalize hO : ((fun b => if b < wx.heap.size then own3 b else if v.ownBlock = some b then some Role.draws else none) : Own) = O
  have ho : ∀ b, b < wx.heap.size → O b = own3 b := fun b hb => by rw [← hO]; exact if_pos hb
  have hrole : ∀ b, v.ownBlock = some b → O b = some .draws := fun b e => by
    have := (hv.lt b e).1
    rw [← hO]
    show (if b < wx.heap.size then own3 b else _) = _
    rw [if_neg (by omega), if_pos e]
  have h4 : CallSt own w pM g l defs c d q sb sd n O g3 m3 (w6.setCell ⟨q, 5, none⟩ (.int .u64 n)) := ((h.turn (h.mch.own_eq ho) ho (Kept.refl (X := fun _ => False)) (fun _ _ e => e.elim) rfl rfl).below hb).told hcl hdl n
  have hq := h.box.lt
  have hv4 : RowIn O .draws (w6.setCell ⟨q, 5, none⟩ (.int .u64 n)) 53 1 v r.length (r.map (Value.int .u64)) := ⟨own_mono (Nat.zero_le _) (own_kept hv (Kept.set (X := fun b => b = q) Kept.refl rfl) (fun b e f => by have := (hv.lt b e).1; omega)), hrole⟩
  have hm4 := h4.mch.redraw v r hU hv4
  refine ⟨O, h4.turn hm4 (fun _ _ => rfl) (X := fun b => b = pM) (Kept.set Kept.refl rfl) (fun b _ e => by subst e; rw [h4.mch.role]; simp) rfl rfl⟩
end
end
section
theorem midD_calls (m : MchM) (g : SigM) (id : Int) (c : CalledM) : (midD m g id c).1.calls = m.calls := by
  unfold midD midM
  split
  · rfl
  split
  · rfl
  split
  · rfl
  split
  · rfl
  rfl
theorem minusM_u64 {n : Int} (h0 : 0 < n) (h1 : n ≤ 1000) : U64 (minusM n) := by
  unfold minusM U64; omega
theorem put_u64 (mem : List AreaM) (t : List MapM) (i : Int) (key val : List Int) (flags : Int) : U64 (putM mem t i key val flags).2.2.1 := by
  have h0 : U64 0 := ⟨by decide, by decide⟩
  have hm := fun n (h1 : 0 < n) (h2 : n ≤ 1000) => minusM_u64 (n := n) h1 h2
  unfold putM
  split
  · exact h0
  simp only
  split
  · exact hm _ (by decide) (by decide)
  split
  · exact hm _ (by decide) (by decide)
  split
  · exact hm _ (by decide) (by decide)
  split
  · exact h0
  split
  · exact hm _ (by decide) (by decide)
  split
  · exact hm _ (by decide) (by decide)
  split
  · exact hm _ (by decide) (by decide)
  split
  · exact hm _ (by decide) (by decide)
  exact h0
theorem drop_u64 (t : List MapM) (i : Int) (key : List Int) : U64 (dropM t i key).2.1 := by
  have h0 : U64 0 := ⟨by decide, by decide⟩
  have hm := fun n (h1 : 0 < n) (h2 : n ≤ 1000) => minusM_u64 (n := n) h1 h2
  unfold dropM
  split
  · exact h0
  simp only
  split
  · exact hm _ (by decide) (by decide)
  split
  · exact hm _ (by decide) (by decide)
  exact h0
theorem look_u64 {own : Own} {w : World} {pt pm : Nat} {v : Value} {ks : Nat → Value} {t : List MapM} (h : TabIn own w pt pm v ks t) (i : Int) (key : List Int) : U64 (lookM t i key).1 := by
  have h0 : U64 0 := ⟨by decide, by decide⟩
  unfold lookM
  split
  · exact h0
  rename_i hm
  obtain ⟨k, rfl, hk, -⟩ := mayM_in (by simpa using hm)
  have hf := h.few
  rw [Int.toNat_natCast, mapAt_get hk]
  split
  · exact h0
  · rcases h.slot9 hk key with e | ⟨e0, e1⟩
    · rename_i q; omega
    · unfold slotArea U64; omega
theorem draw_u64 (most : Int) (hm : U64 most) : ∀ (l : List Int), (∀ n ∈ l, U64 n) → U64 (drawM most l).1
  | [], _ => (⟨by decide, by decide⟩ : U64 0)
  | x :: l, hl => by
    have h := hl x (List.mem_cons_self ..)
    obtain ⟨a, b⟩ := h
    obtain ⟨c, d⟩ := hm
    unfold drawM
    simp only
    split
    · unfold U64
      have h1 : 0 < most + 1 := by omega
      have := Int.emod_nonneg x (b := most + 1) (by omega)
      have := Int.emod_lt_of_pos x h1
      omega
    · exact ⟨a, b⟩
theorem sigM_most {id : Int} {g : SigM} (h : sigM id = some g) : U64 g.most := by
  unfold sigM at h
  unfold U64
  repeat' split at h
  all_goals first | (cases h; decide) | cases h
theorem midD_u64 {m : MchM} {g : SigM} {id : Int} {c : CalledM} {own : Own} {w : World} {pt pm : Nat} {v : Value} {ks : Nat → Value} (hg : sigM id = some g) (ht : TabIn own w pt pm v ks m.tab) (hd : ∀ n ∈ m.draws, U64 n) : U64 (midD m g id c).2.1 := by
  unfold midD midM
  split
  · exact draw_u64 g.most (sigM_most hg) _ hd
  split
  · exact look_u64 ht _ _
  split
  · exact put_u64 _ _ _ _ _ _
  split
  · exact drop_u64 _ _ _
  · exact (⟨by decide, by decide⟩ : U64 0)
theorem drawM_u64 (most : Int) : ∀ (l : List Int), (∀ n ∈ l, U64 n) → ∀ n ∈ (drawM most l).2.1, U64 n
  | [], _, n, h => by cases h
  | x :: l, hl, n, h => hl n (List.mem_cons_of_mem _ h)
theorem sig_good (defs : List DefM) {id : Int} {g : SigM} (h : sigM id = some g) : g.told.length ≤ 5 ∧ (∀ x ∈ g.told, x = 1 ∨ x = 2 ∨ x = 3 ∨ x = 4) ∧ ToldGood defs g.told 0 (called0 id) := by
  rcases sigM_cases h with ⟨-, rfl⟩ | ⟨-, rfl⟩ | ⟨-, rfl⟩ | ⟨-, rfl⟩ | ⟨-, e, -⟩
  iterate 3
    · exact ⟨by simp, by simp, .inr (.inr ⟨rfl, rfl⟩)⟩
  · exact ⟨by simp, by simp, .inl (by simp)⟩
  · rw [e]; exact ⟨by simp, by simp, .inl (by simp)⟩
set_option maxRecDepth 100000 in
set_option maxHeartbeats 4000000 in
theorem rcall11R {own : Own} {w : World} {pM : Nat} {g : Gh} {l : List Insn} {defs : List DefM} {m : MchM} (hfar : ∀ b, w.heap.size ≤ b → own b = none) (h : MchIn own w pM g l defs m) (hn : m.mem.length ≤ 1000000) (hcl : m.calls.length ≤ 1000000) (hdl : defs.length ≤ 1000) (hdf : ∀ d ∈ defs, defOk d = true) (hdr : m.draws.length ≤ 1000) (x : Insn) (hx : x.Ok) :
    Calls Try.prog 71 #[.pointer (some ⟨pM, 0, none⟩), x.val] w fun e w' => e = .returned (.int .i64 (callM m defs x.imm).2) ∧ TurnM own w pM l defs (callM m defs x.imm).1 w' := by
  obtain ⟨x0, x1, x2, x3, x4⟩ := x
  have hi0 := hx.imm0
  have hi1 := hx.imm1
  simp only [Insn.val] at *
  have hsig := fun w => rsig10 x4 w
  have hbx := below_boxes1 w (.cells #[.int .u8 x0, .int .u8 x1, .int .u8 x2, .int .i16 x3, .int .i32 x4] 40)
  have hx4 := boxc (heap_alloc_new w (.cells #[.int .u8 x0, .int .u8 x1, .int .u8 x2, .int .i16 x3, .int .i32 x4] 40)) (k := 4) (u := .int .i32 x4) rfl _ (Below.refl _ _)
  have hB := fun w' (hb : Below w.heap.size w w') => h.below hb
  have hcA := h.codeLow
  have hcD := h.mapsLow
  unfold SigOk at hsig
  clear hx
  cases hg : sigM x4 with
  | none =>
    have hL := Lib.hid (show callM m defs x4 = (m, 112) from by unfold callM; rw [hg])
    simp only [hg] at hsig
    have HT := Lib.hid (fun w' (hb : Below w.heap.size w w') => TurnM.same h hb)
    clear h hB hfar
    go_enter Try.func71, Try.ntmps71
    go_wp2_with fail
    refine (hsig _).mono ?_
    rintro e w2 ⟨hb2, rfl⟩
    go_wp2_with fail
    go_ret
    rw [hL.out]
    have hb3 : Below w.heap.size w w2 := hbx.trans (hb2.mono (by simp))
    exact ⟨rfl, HT.out _ (hb3.alloc hb3.size _)⟩
  | some sg =>
    simp only [hg] at hsig
    have HG := Lib.hid hg
    have hcs := Lib.hid (sigM_cases hg)
    clear hg
    have htold := fun id tol h1 h2 h3 A c tl mo dr w' (hb : Below w.heap.size w w') => rtold11 (h.below hb) hn hdl hdf id tol h1 h2 h3 A c tl mo dr
    go_enter Try.func71, Try.ntmps71
    go_wp2_with fail
    refine (hsig _).mono ?_
    rintro e w2 ⟨hb2, A, c, tl, rfl, hrow⟩
    have hw3 : Below w.heap.size w (w2.alloc (.cells #[.slice A sg.told.length c, .int .u8 tl, .bool sg.draws, .int .u64 sg.most] 146)) := by
      have := hbx.trans (hb2.mono (by simp))
      exact this.alloc this.size _
    have hsb := heap_alloc_new w2 (.cells #[.slice A sg.told.length c, .int .u8 tl, .bool sg.draws, .int .u64 sg.most] 146)
    have hs2 : w.heap.size ≤ w2.heap.size := by have := hb2.size; simp at this; omega
    obtain ⟨hG1, hG2, hG3⟩ := sig_good defs HG.out
    have hat : SAt (w2.alloc (.cells #[.slice A sg.told.length c, .int .u8 tl, .bool sg.draws, .int .u64 sg.most] 146)) (w2.alloc (.cells #[.slice A sg.told.length c, .int .u8 tl, .bool sg.draws, .int .u64 sg.most] 146)).heap.size 1 A sg.told.length (bytesV sg.told) := ((own_sat hrow).alloc (Nat.le_refl _) _).more (by simp)
    go_wp2_with fail
    refine (htold x4 sg.told hG1 hG2 hG3 A c tl sg.most sg.draws _ hw3 hat).mono ?_
    unfold ToldOk
    rintro e w4 ⟨hb4, v, rfl, hv1, hv2⟩
    clear hat hrow hG1 hG2 hG3 htold hx4 hbx hb2
    have hsd := boxc hsb (k := 2) (u := .bool sg.draws) rfl _ hb4
    have hb4w := hw3.trans (hb4.mono hw3.size)
    have hsz4 : w2.heap.size < w4.heap.size := by have := hb4.size; simp at this; omega
    have hs3 := hw3.size
    generalize hsbn : w2.heap.size = sb at *
    clear hsbn hsb hw3
    by_cases hr : (toldM m defs sg.told 0 (called0 x4)).2 = 0
    · obtain ⟨⟨d1, d2, d3⟩, rfl, hrows, hok, hid, hret⟩ := hv2 hr
      have hC : toldM m defs sg.told 0 (called0 x4) = ((toldM m defs sg.told 0 (called0 x4)).1, 0) := Prod.ext rfl hr
      have hN := Lib.hid (told_n m defs sg.told 0 (called0 x4) hr)
      rw [hr]
      clear hv1 hv2 hr
      generalize (toldM m defs sg.told 0 (called0 x4)).1 = C at *
      have hrows' : ToldRows w4 w.heap.size (d1, d2, d3) C := ⟨own_mono hs3 hrows.key, own_mono hs3 hrows.val, own_mono hs3 hrows.n⟩
      clear hrows
      obtain ⟨Ak, ck, e1⟩ := own_slice hrows'.key
      obtain ⟨Av, cv, e2⟩ := own_slice hrows'.val
      obtain ⟨An, cn, e3⟩ := own_slice hrows'.n
      simp only at e1 e2 e3
      subst e1 e2 e3
      have hS0 : CallSt own w pM g l defs C (.slice Ak C.key.length ck, .slice Av C.val.length cv, .slice An C.n.length cn) w4.heap.size sb sg.draws 0 own g m (w4.alloc (.cells #[.int .i64 x4, .int .i64 C.map, .slice Ak C.key.length ck, .slice Av C.val.length cv, .slice An C.n.length cn, .int .u64 0] 119)) := by
        have hb5 := hb4w.alloc hb4w.size (.cells #[.int .i64 x4, .int .i64 C.map, .slice Ak C.key.length ck, .slice Av C.val.length cv, .slice An C.n.length cn, .int .u64 0] 119)
        refine ⟨hB _ hb5, fun _ _ => rfl, fun b hb => hfar b (inD_low hrows' hb).1, hfar _ hb4w.size, hb4w.size, fun hb => by have := (inD_low hrows' hb).2; omega, ?_, hrows'.below (below_boxes1 _ _), Kept.of hb5 (Nat.le_refl _), rfl, rfl, hfar _ hs2, by omega, hs2, by simp; omega, ?_⟩
        · have := blk_new (xs := [.int .i64 x4, .int .i64 C.map, .slice Ak C.key.length ck, .slice Av C.val.length cv, .slice An C.n.length cn, .int .u64 0]) (heap_alloc_new w4 (.cells #[.int .i64 x4, .int .i64 C.map, .slice Ak C.key.length ck, .slice Av C.val.length cv, .slice An C.n.length cn, .int .u64 0] 119))
          rw [calledV]
          simp only [hid]
          exact this
        · rw [(below_boxes1 w4 _).cell (p := ⟨sb, 2, none⟩) (by simpa using hsz4)]
          exact hsd
      clear hb4
      simp only [toldCells]
      go_upto_block 0 with fail
      generalize w4.alloc (.cells #[.int .i64 x4, .int .i64 C.map, .slice Ak C.key.length ck, .slice Av C.val.length cv, .slice An C.n.length cn, .int .u64 0] 119) = W5 at *
      generalize hq : w4.heap.size = q at *
      clear hsd hrows'
      go_cut [8, 9] from 14 (fun v8 v9 wx => ∃ ret er m3 own3 g3, v8 = .pointer (some ⟨q, 0, none⟩) ∧ v9 = .int .i64 er ∧ CallSt own w pM g l defs C (.slice Ak C.key.length ck, .slice Av C.val.length cv, .slice An C.n.length cn) q sb sg.draws ret own3 g3 m3 wx ∧ midM m x4 C = (m3, ret, er))
      case first =>
        have hlr := h.lr
        have hls := h.ls
        have pT : ∀ w', Below w.heap.size w w' → w'.cell? ⟨pM, 24, none⟩ = some (.pointer (some ⟨g.pt, 0, none⟩)) := fun w' hb => (h.blk.below hb).cell (mch_hi h.lr h.ls 1)
        have hS0d := hS0.below (Below.refl W5.heap.size W5).drew
        have hKd : ∀ b o, b = q ∨ b = pM → W5.drew.cell? ⟨b, o, none⟩ = W5.cell? ⟨b, o, none⟩ := fun _ _ _ => rfl
        have k1 : W5.drew.cell? ⟨q, 1, none⟩ = some (.int .i64 C.map) := hS0d.box.cell rfl
        have k2 : W5.drew.cell? ⟨q, 2, none⟩ = some (.slice Ak C.key.length ck) := hS0d.box.cell rfl
        have k3 : W5.drew.cell? ⟨q, 3, none⟩ = some (.slice Av C.val.length cv) := hS0d.box.cell rfl
        have k4 : W5.drew.cell? ⟨q, 4, none⟩ = some (.slice An C.n.length cn) := hS0d.box.cell rfl
        have kT : W5.drew.cell? ⟨pM, 24, none⟩ = some (.pointer (some ⟨g.pt, 0, none⟩)) := hS0d.mch.blk.cell (mch_hi hS0d.mch.lr hS0d.mch.ls 1)
        have hsk : SAt W5.drew W5.drew.heap.size 1 Ak C.key.length (bytesV C.key) := own_sat hS0d.rows.key
        have hsv : SAt W5.drew W5.drew.heap.size 1 Av C.val.length (bytesV C.val) := own_sat hS0d.rows.val
        have hsn : SAt W5.drew W5.drew.heap.size 1 An C.n.length (C.n.map (Value.int .u64)) := own_sat hS0d.rows.n
        by_cases i1 : x4 = 1
        · subst i1
          have hlk := rlook9 hS0d.mch.tab C.map C.key hok.key W5.drew.heap.size (Nat.le_refl _) Ak ck hsk
          have hM := Lib.hid (show midM m 1 C = (m, (lookM m.tab C.map C.key).1, (lookM m.tab C.map C.key).2) from rfl)
          have HS := Lib.hid hS0d
          clear hS0 hS0d hsk hsv hsn k3 k4 pT hB hfar hKd h hN
          generalize (lookM m.tab C.map C.key).1 = L1 at *
          generalize (lookM m.tab C.map C.key).2 = L2 at *
          go_upto_region 10 with fail
          have hpq : pM ≠ q := fun e => by have h1 := HS.out.mch.role; rw [e, HS.out.freeq] at h1; cases h1
          go_region_held3 (fun w' => w'.cell? ⟨q, 1, none⟩ = some (.int .i64 C.map) ∧ w'.cell? ⟨q, 2, none⟩ = some (.slice Ak C.key.length ck) ∧ w'.cell? ⟨pM, 24, none⟩ = some (.pointer (some ⟨g.pt, 0, none⟩)))
            (first | assumption | exact ⟨k1, k2, kT⟩ | exact ⟨(World.cell?_setCell_other _ _ _ _ (by simp)).trans hS6c.1, (World.cell?_setCell_other _ _ _ _ (by simp)).trans hS6c.2.1, (World.cell?_setCell_far _ _ _ _ hpq.symm).trans hS6c.2.2⟩)
            (first | (go_at_call 85; refine hlk.mono ?_; rintro e w6 ⟨rfl, hb6⟩; have hS6 := HS.out.below hb6; have kq := hS6.box; obtain ⟨⟨y0, y1, y2, y3, y4, y5⟩, f0, f1, f2, f3, f4, f5⟩ := Blk.six kq; have hS6c : w6.cell? ⟨q, 1, none⟩ = some (.int .i64 C.map) ∧ w6.cell? ⟨q, 2, none⟩ = some (.slice Ak C.key.length ck) ∧ w6.cell? ⟨pM, 24, none⟩ = some (.pointer (some ⟨g.pt, 0, none⟩)) := ⟨y1, y2, hS6.mch.blk.cell (mch_hi hS6.mch.lr hS6.mch.ls 1)⟩; clear k1 k2 kT))
          all_goals
            go_wp2_with fail
            go_meet
            case rel => exact ⟨L1, L2, m, own, g, rfl, rfl, hS6.told hcA hcD L1, hM.out⟩
        by_cases i2 : x4 = 2
        · subst i2
          have hn1 : C.n.length = 1 := by
            have := hN.out
            rw [this]
            rcases hcs.out with ⟨e, -⟩ | ⟨-, e⟩ | ⟨e, -⟩ | ⟨e, -⟩ | ⟨e, -, -⟩
            · cases e
            · rw [e]; rfl
            iterate 2
              · cases e
            · omega
          obtain ⟨n0, hn0⟩ : ∃ n0, C.n = [n0] := by
            match hq : C.n, hn1 with
            | [n0], _ => exact ⟨n0, rfl⟩
          obtain ⟨bn, on, rfl, -, hcn⟩ := hsn.2 (by omega)
          have kn : W5.drew.cell? ⟨bn, on, none⟩ = some (.int .u64 n0) := hcn 0 _ (by rw [hn0]; rfl)
          have hAk : ∀ b o, Ak = some ⟨b, o, none⟩ → ¬ own.memTab b := fun b o e f => by
            obtain ⟨r, e2, -⟩ := f
            rw [hS0d.free b (.inl (by rw [e]; rfl))] at e2; cases e2
          have hAv : ∀ b o, Av = some ⟨b, o, none⟩ → ¬ own.memTab b := fun b o e f => by
            obtain ⟨r, e2, -⟩ := f
            rw [hS0d.free b (.inr (.inl (by rw [e]; rfl)))] at e2; cases e2
          have hpt := rput9 hS0d.mch.tab hS0d.mch.mem hn C.map C.key C.val n0 hok.key hok.val W5.drew.heap.size (Nat.le_refl _) Ak Av ck cv hsk hsv hAk hAv
          have hM := Lib.hid (show midM m 2 C = ({ m with mem := (putM m.mem m.tab C.map C.key C.val n0).1, tab := (putM m.mem m.tab C.map C.key C.val n0).2.1 }, (putM m.mem m.tab C.map C.key C.val n0).2.2.1, (putM m.mem m.tab C.map C.key C.val n0).2.2.2) from by
            have e : C.n.getD 0 0 = n0 := by rw [hn0]; rfl
            unfold midM; rw [if_neg (by decide), if_pos rfl, e])
          have HS := Lib.hid hS0d
          have hpq : pM ≠ q := fun e => by have h1 := HS.out.mch.role; rw [e, HS.out.freeq] at h1; cases h1
          have hl1 : ((C.n.length : Nat) : Int) = 1 := by omega
          unfold TurnOk at hpt
          clear hS0 hS0d hsk hsv hsn pT hB hfar hKd h hN hAk hAv hcn hn0
          generalize C.n.length = nn at *
          generalize putM m.mem m.tab C.map C.key C.val n0 = P at *
          go_upto_region 12 with fail
          go_region_held3 (fun w' => w'.cell? ⟨q, 1, none⟩ = some (.int .i64 C.map) ∧ w'.cell? ⟨q, 2, none⟩ = some (.slice Ak C.key.length ck) ∧ w'.cell? ⟨q, 3, none⟩ = some (.slice Av C.val.length cv) ∧ w'.cell? ⟨q, 4, none⟩ = some (.slice (some ⟨bn, on, none⟩) nn cn) ∧ w'.cell? ⟨bn, on, none⟩ = some (.int .u64 n0) ∧ w'.cell? ⟨pM, 24, none⟩ = some (.pointer (some ⟨g.pt, 0, none⟩)))
            (first | assumption | exact ⟨k1, k2, k3, k4, kn, kT⟩ | exact ⟨(World.cell?_setCell_other _ _ _ _ (by simp)).trans hS6c.1, (World.cell?_setCell_other _ _ _ _ (by simp)).trans hS6c.2.1, (World.cell?_setCell_other _ _ _ _ (by simp)).trans hS6c.2.2.1, (World.cell?_setCell_other _ _ _ _ (by simp)).trans hS6c.2.2.2.1, (World.cell?_setCell_far _ _ _ _ hnq).trans hS6c.2.2.2.2.1, (World.cell?_setCell_far _ _ _ _ hpq.symm).trans hS6c.2.2.2.2.2⟩)
            (first | (go_at_call 16; refine hpt.mono ?_; rintro e w6 ⟨rfl, own6, vm6, sl6, ks6, ho6, hT6, hM6, hk6⟩; have hS6 := HS.out.turn (HS.out.mch.turn hk6 (fun _ e => e) ho6 hM6 hT6) ho6 hk6 (fun b _ e => by obtain ⟨r, e2, -⟩ := e; simp [e2]) rfl rfl; have kq := hS6.box; obtain ⟨⟨y0, y1, y2, y3, y4, y5⟩, f0, f1, f2, f3, f4, f5⟩ := Blk.six kq; have hnq : q ≠ bn := fun e => hS6.apart (.inr (.inr (congrArg some e.symm))); have hn6 : w6.cell? ⟨bn, on, none⟩ = some (.int .u64 n0) := (hk6.cell (by have := (inD_low HS.out.rows (b := bn) (.inr (.inr rfl))).2; exact this) (fun e => by obtain ⟨r, e2, -⟩ := e; rw [HS.out.free bn (.inr (.inr rfl))] at e2; cases e2)).trans kn; have hS6c : w6.cell? ⟨q, 1, none⟩ = some (.int .i64 C.map) ∧ w6.cell? ⟨q, 2, none⟩ = some (.slice Ak C.key.length ck) ∧ w6.cell? ⟨q, 3, none⟩ = some (.slice Av C.val.length cv) ∧ w6.cell? ⟨q, 4, none⟩ = some (.slice (some ⟨bn, on, none⟩) nn cn) ∧ w6.cell? ⟨bn, on, none⟩ = some (.int .u64 n0) ∧ w6.cell? ⟨pM, 24, none⟩ = some (.pointer (some ⟨g.pt, 0, none⟩)) := ⟨y1, y2, y3, y4, hn6, hS6.mch.blk.cell (mch_hi hS6.mch.lr hS6.mch.ls 1)⟩; clear k1 k2 k3 k4 kn kT))
          all_goals
            go_wp2_with fail
            go_meet
            case rel => exact ⟨_, _, _, own6, _, rfl, rfl, hS6.told hcA hcD _, hM.out⟩
        by_cases i3 : x4 = 3
        · subst i3
          have hdp := rdrop9 hS0d.mch.tab C.map C.key hok.key W5.drew.heap.size (Nat.le_refl _) Ak ck hsk
          have hM := Lib.hid (show midM m 3 C = ({ m with tab := (dropM m.tab C.map C.key).1 }, (dropM m.tab C.map C.key).2.1, (dropM m.tab C.map C.key).2.2) from rfl)
          have HS := Lib.hid hS0d
          have hpq : pM ≠ q := fun e => by have h1 := HS.out.mch.role; rw [e, HS.out.freeq] at h1; cases h1
          clear hS0 hS0d hsk hsv hsn k3 k4 pT hB hfar hKd h hN
          generalize dropM m.tab C.map C.key = P at *
          go_upto_region 14 with fail
          go_region_held3 (fun w' => w'.cell? ⟨q, 1, none⟩ = some (.int .i64 C.map) ∧ w'.cell? ⟨q, 2, none⟩ = some (.slice Ak C.key.length ck) ∧ w'.cell? ⟨pM, 24, none⟩ = some (.pointer (some ⟨g.pt, 0, none⟩)))
            (first | assumption | exact ⟨k1, k2, kT⟩ | exact ⟨(World.cell?_setCell_other _ _ _ _ (by simp)).trans hS6c.1, (World.cell?_setCell_other _ _ _ _ (by simp)).trans hS6c.2.1, (World.cell?_setCell_far _ _ _ _ hpq.symm).trans hS6c.2.2⟩)
            (first | (go_at_call 86; refine hdp.mono ?_; rintro e w6 ⟨rfl, own6, ks6, ho6, hT6, hk6⟩; have hkm : ∀ b, own b = some .maps → own.memTab b := fun b e => ⟨_, e, .inr trivial⟩; have hM6 := HS.out.mch.mem.kept hk6 ho6 (fun b r e hr f => by rw [f] at e; cases e; exact hr); have hS6 := HS.out.turn (HS.out.mch.turn hk6 hkm ho6 hM6 hT6) ho6 hk6 (fun b _ e => by simp [e]) rfl rfl; have kq := hS6.box; obtain ⟨⟨y0, y1, y2, y3, y4, y5⟩, f0, f1, f2, f3, f4, f5⟩ := Blk.six kq; have hS6c : w6.cell? ⟨q, 1, none⟩ = some (.int .i64 C.map) ∧ w6.cell? ⟨q, 2, none⟩ = some (.slice Ak C.key.length ck) ∧ w6.cell? ⟨pM, 24, none⟩ = some (.pointer (some ⟨g.pt, 0, none⟩)) := ⟨y1, y2, hS6.mch.blk.cell (mch_hi hS6.mch.lr hS6.mch.ls 1)⟩; clear k1 k2 kT))
          all_goals
            go_wp2_with fail
            go_meet
            case rel => exact ⟨_, _, _, own6, _, rfl, rfl, hS6.told hcA hcD _, hM.out⟩
        have hM := Lib.hid (show midM m x4 C = (m, 0, 0) from by unfold midM; rw [if_neg i1, if_neg i2, if_neg i3])
        have HS := Lib.hid hS0
        clear hS0 hS0d hsk hsv hsn k1 k2 k3 k4 kT pT hB hfar hKd h hN
        go_wp2_with fail
        go_meet
        case rel => exact ⟨0, 0, m, own, g, rfl, rfl, HS.out, hM.out⟩
      case rest =>
        obtain ⟨ret, er, m3, own3, g3, rfl, rfl, hS3, hM3⟩ := hcut
        have hsc := hS3.scell
        go_upto_if 87 with fail
        go_cut [8, 9] from 14 (fun v8 v9 wx => ∃ ret er m4 own4 g4, v8 = .pointer (some ⟨q, 0, none⟩) ∧ v9 = .int .i64 er ∧ CallSt own w pM g l defs C (.slice Ak C.key.length ck, .slice Av C.val.length cv, .slice An C.n.length cn) q sb sg.draws ret own4 g4 m4 wx ∧ midD m sg x4 C = (m4, ret, er) ∧ (sg.draws = true → (drawM sg.most m.draws).2.2 = 0))
        case first =>
          by_cases hd : sg.draws = true
          · obtain ⟨rfl, rfl, rfl⟩ : m3 = m ∧ ret = 0 ∧ er = 0 := by
              rcases hcs.out with ⟨e, e2⟩ | ⟨e, e2⟩ | ⟨e, e2⟩ | ⟨e, e2⟩ | ⟨e, -, -⟩
              iterate 4
                · rw [e2] at hd; cases hd
              · unfold midM at hM3
                rw [if_neg (by omega), if_neg (by omega), if_neg (by omega)] at hM3
                injection hM3 with a b
                injection b with b c
                exact ⟨a.symm, b.symm, c.symm⟩
            obtain ⟨Ad, cd, hdv⟩ := hS3.mch.draws.slice
            have hrowd := hS3.mch.draws
            rw [hdv] at hrowd
            have hdw := rdraw10 x4 sg HG.out hd m3.draws hS3.mch.drawsU hdr Ad cd hrowd
            have kD : wc.cell? ⟨pM, 26, none⟩ = some (.slice Ad m3.draws.length cd) := by rw [← hdv]; exact hS3.mch.blk.cell (mch_hi hS3.mch.lr hS3.mch.ls 3)
            have hdU : ∀ n ∈ (drawM sg.most m3.draws).2.1, U64 n := drawM_u64 sg.most _ hS3.mch.drawsU
            have HDR := Lib.hid (fun (he : (drawM sg.most m3.draws).2.2 ≠ 0) => callM_dry HG.out hC hd he)
            have HM := Lib.hid (show midD m3 sg x4 C = ({ m3 with draws := (drawM sg.most m3.draws).2.1 }, (drawM sg.most m3.draws).1, 0) from by unfold midD; rw [if_pos hd])
            have HS := Lib.hid hS3
            have HX := Lib.hid (fun w6 (hb : Below wc.heap.size wc w6) v hv => hS3.draw hcA hcD hb v (drawM sg.most m3.draws).2.1 hdU hv (drawM sg.most m3.draws).1)
            have hpq : pM ≠ q := fun e => by have h1 := HS.out.mch.role; rw [e, HS.out.freeq] at h1; cases h1
            simp only [hd]
            clear hM3 hS3 hrowd hS0 h hB hfar hsc hdU hN
            generalize drawM sg.most m3.draws = D at *
            go_wp2_with fail
            refine hdw.mono ?_
            rintro e w6 ⟨hb6, v, rfl, hv6⟩
            have hv6' := own_slice hv6
            obtain ⟨Ad6, cd6, rfl⟩ := hv6'
            have hS6 := HS.out.below hb6
            by_cases he : D.2.2 = 0
            · have hx6 := HX.out w6 hb6 _ hv6
              have hb5 := hS6.box
              have hmb := (hS6.told hcA hcD D.1).mch
              obtain ⟨⟨y0, y1, y2, y3, y4, y5⟩, f0, f1, f2, f3, f4, f5⟩ := Blk.six hb5
              have k26 : (w6.setCell ⟨q, 5, none⟩ (.int .u64 D.1)).cell? ⟨pM, 26, none⟩ = some g3.dr := hmb.blk.cell (mch_hi hmb.lr hmb.ls 3)
              have f26 := hmb.blk.free 26
              have hdb : (D.2.2 != 0) = false := by simpa using he
              have HE := Lib.hid he
              have HX6 := Lib.hid hx6
              clear hx6 he hS6 hmb hb5
              go_wp2_with fail
              go_meet
              case rel =>
                obtain ⟨own4, hS4⟩ := HX6.out
                exact ⟨_, _, _, own4, _, rfl, rfl, hS4, HM.out, fun _ => HE.out⟩
            · have hL := Lib.hid (HDR.out he)
              have hdb : (D.2.2 != 0) = true := by simpa using he
              have HT := Lib.hid (show TurnM own w pM l defs m3 w6 from ⟨own3, g3, hS6.low, hS6.mch, hS6.kept⟩)
              clear he hS6
              go_wp2_with fail
              go_ret
              rw [hL.out]
              exact ⟨rfl, HT.out⟩
          · have hd2 : sg.draws = false := by simpa using hd
            have HM := Lib.hid (show midD m sg x4 C = (m3, ret, er) from by unfold midD; rw [if_neg hd]; exact hM3)
            have HS := Lib.hid hS3
            have HD := Lib.hid hd
            simp only [hd2]
            clear hM3 hS3 hS0 h hB hfar hsc hN
            go_wp2_with fail
            go_meet
            case rel => exact ⟨_, _, m3, own3, g3, rfl, rfl, HS.out, HM.out, fun e => absurd e HD.out⟩
        case rest =>
          clear hsc hS3 hM3
          obtain ⟨ret, er, m4, own4, g4, rfl, rfl, hS4, hM4, hdr4⟩ := hcut
          have hs0 := h.own_eq (own' := own) (fun _ _ => rfl)
          have hcalls : m4.calls.length ≤ 1000000 := by
            have e1 : (midD m sg x4 C).1.calls = m.calls := midD_calls m sg x4 C
            rw [hM4] at e1
            simp only at e1
            rw [e1]; exact hcl
          have hCM := callM_mid HG.out hC hret hdr4
          rw [hM4] at hCM
          simp only at hCM
          by_cases he : er = 0
          · subst he
            have hL := Lib.hid (hCM.trans (if_neg (by simp)))
            have hret4 : U64 ret := by
              have : U64 (midD m sg x4 C).2.1 := midD_u64 HG.out hs0.tab hs0.drawsU
              rw [hM4] at this; exact this
            have hj := fun w1 A8 c8 h8 hg hor => hS4.join hcA hcD (w1 := w1) A8 c8 h8 hg hor
            obtain ⟨Ac, cc, hcv⟩ := hS4.mch.calls.slice
            have hclr := hS4.mch.calls.row
            rw [hcv] at hclr hj
            have kclr : ∀ b, (Value.slice Ac m4.calls.length cc).ownBlock = some b → ¬ b = pM := fun b e f => by
              have h1 := hS4.mch.calls.role b (by rw [hcv]; exact e)
              rw [f, hS4.mch.role] at h1; cases h1
            have hplt := hS4.mch.blk.lt
            have hfz := hS4.mch.blk.free 31
            have k31 : wc.cell? ⟨pM, 31, none⟩ = some (.slice Ac m4.calls.length cc) := by rw [← hcv]; exact hS4.mch.blk.cell (mch_hi hS4.mch.lr hS4.mch.ls 8)
            have hbx := hS4.box
            simp only [calledV, hid] at hbx
            obtain ⟨⟨y0, y1, y2, y3, y4, y5⟩, -⟩ := Blk.six hbx
            obtain ⟨i9, hi9, hv0, hv1, hv2⟩ := info_parts info119
            have HJ := Lib.hid hj
            have HC := Lib.hid kclr
            have HI := Lib.hid hid
            clear hS4 hj hbx hCM hM4 hdr4 hS0 h hB hfar hN hs0 hcv kclr hid
            generalize m4.calls.length = n at *
            generalize callsV g4.cd m4.calls 0 = xs at *
            go_upto_region 23 with fail
            go_region_law (first | (refine step_append_x rfl (.tmp 114) (.tmp 116) 54 rfl 0 119 i9 _ 6 96 Try.underlying54 hi9 hv0 hv1 hv2 rfl (by decide) Ac n cc xs rfl ?_ (wc.heap.size + 1) (some ⟨wc.heap.size, 0, none⟩) 1 1 [.int .i64 x4, .int .i64 C.map, .slice Ak C.key.length ck, .slice Av C.val.length cv, .slice An C.n.length cn, .int .u64 ret] rfl ?_ (by decide) ?_ ?_ ?_ (Nat.zero_le _) ?_; (exact hclr.alloc _); (exact sat_new wc 119 #[.int .i64 x4, .int .i64 C.map, .slice Ak C.key.length ck, .slice Av C.val.length cv, .slice An C.n.length cn, .int .u64 ret] 6 1 rfl); (intro u hu; simp at hu; rcases hu with rfl | rfl | rfl | rfl | rfl | rfl <;> rfl); (simp only [maxLen]; omega); (omega); (intro A8 c8 w8 ho8 hg8 hor8; have kk8 : Kept (fun k => (Value.slice Ac n cc).ownBlock = some k) wc w8 := (Kept.of (X := fun k => (Value.slice Ac n cc).ownBlock = some k) (below_boxes1 wc _).drew (Nat.le_refl _)).trans (grown_kept (X := fun k => (Value.slice Ac n cc).ownBlock = some k) hg8 (fun _ h => h)) (fun _ _ h => h); have p31 : w8.cell? ⟨pM, 31, none⟩ = some (.slice Ac n cc) := (kk8.cell hplt (fun e => HC.out pM e rfl)).trans k31; have f31 : w8.frozen? ⟨pM, 31, none⟩ = false := (kk8.frozen hplt (fun e => HC.out pM e rfl)).trans hfz)))
            all_goals
              have hj8 := HJ.out w8 A8 c8 (by rw [calledV, HI.out]; exact ho8) ⟨kk8.os, kk8.tape, kk8.output, kk8.size, fun k hk hne => kk8.block k hk (fun e => hne e.symm)⟩ (by rcases hor8 with h | h; exact .inl h; exact .inr ⟨_, h, by simp⟩)
              obtain ⟨own5, g5, q1, q2, q3, q4, q5⟩ := hj8
              have hret5 := q4.cell (k := 5) (u := .int .u64 ret) rfl
              have hqlt := q4.lt
              clear ho8 hg8 hor8 kk8 p31 f31 y0 y1 y2 y3 y4 y5 k31 hfz hplt hclr q4
              have HQ := Lib.hid (And.intro q1 q3)
              clear q1 q3
              generalize w8.setCell ⟨pM, 31, none⟩ (.slice A8 (n + 1) c8) = W8 at *
              generalize hm5 : ({ m4 with calls := m4.calls ++ [{ C with ret := ret }] } : MchM) = m5 at *
              have HM5 := Lib.hid hm5
              clear hm5
              go_wp2_with fail
              go_loopw [13] (fun v wr => ∃ j : Nat, j ≤ 5 ∧ v = .int .i64 ((j + 1 : Nat) : Int) ∧ MchIn own5 wr pM g5 l defs (clrN m5 j) ∧ Kept (fun b => b = pM) W8 wr) (fun v _ => 6 - (intOf v).toNat)
              case atStart => exact ⟨0, by omega, rfl, q2, Kept.refl⟩
              case round =>
                obtain ⟨j, hj5, rfl, hmr, hkr⟩ := hrel
                have hlen := clrN_len m5 j
                rcases Nat.lt_or_ge j 5 with hlt | hge
                · have hji : ((j + 1 : Nat) : Int) ≤ 5 := by omega
                  have hn := hmr.clr (j + 1) (by omega)
                  have c1 : wr.cell? ⟨pM, 12 + (j + 1), none⟩ = some (.bool (setM (clrN m5 j) (j + 1 : Nat))) := hmr.blk.cell (mch_s hmr.lr hmr.ls (j + 1) (by omega))
                  have f1 := hmr.blk.free (12 + (j + 1))
                  have hb1 := hmr.blk.set (k := 12 + (j + 1)) (by rw [mch_len hmr.lr hmr.ls]; omega) (.bool false)
                  have c2 : (wr.setCell ⟨pM, 12 + (j + 1), none⟩ (.bool false)).cell? ⟨pM, 1 + (j + 1), none⟩ = some (.int .u64 (regM (clrN m5 j) (j + 1 : Nat))) := by
                    refine hb1.cell ?_
                    rw [List.getElem?_set_ne (by omega)]
                    exact mch_r hmr.lr (j + 1) (by omega)
                  have f2 := hb1.free (1 + (j + 1))
                  have HN := Lib.hid hn
                  clear hn hb1 hmr
                  go_wp2_with fail
                  go_roundw
                  case rel => exact ⟨j + 1, by omega, by go_num, HN.out.1, hkr.trans HN.out.2 (fun _ _ e => e)⟩
                  all_goals (simp [intOf]; omega)
                · obtain rfl : j = 5 := by omega
                  have hqc : wr.cell? ⟨q, 5, none⟩ = some (.int .u64 ret) := (hkr.cell hqlt q5).trans hret5
                  have hput := rput11 hmr 0 (by decide) ret hret4
                  have HF := Lib.hid (show putR (clrN m5 5) 0 ret = afterCall m5 ret from clrN_five (by have := hmr.lr; rw [(clrN_len m5 5).1] at this; exact this) (by have := hmr.ls; rw [(clrN_len m5 5).2] at this; exact this) ret)
                  clear hmr
                  go_wp2_with fail
                  refine hput.mono ?_
                  rintro e w9 ⟨rfl, hm9, hk9⟩
                  go_wp2_with fail
                  go_ret
                  rw [hL.out]
                  refine ⟨rfl, own5, g5, HQ.out.1, ?_, ?_⟩
                  · have := hm9
                    rw [show ((0 : Nat) : Int) = 0 from rfl, HF.out] at this
                    exact this
                  · have hpw : own pM ≠ none ∨ w.heap.size ≤ pM := by
                      rcases Nat.lt_or_ge pM w.heap.size with e | e
                      · left; rw [← HQ.out.1 pM e, hm9.role]; simp
                      · exact .inr e
                    exact HQ.out.2.trans (hkr.trans hk9 (fun _ _ e => e)) (fun i hi e => by
                      subst e
                      rcases hpw with e | e
                      · exact e
                      · omega)
          · have hL := Lib.hid (hCM.trans (if_pos he))
            have heb : (er != 0) = true := by simpa using he
            have HT := Lib.hid (show TurnM own w pM l defs m4 wc from ⟨own4, g4, hS4.low, hS4.mch, hS4.kept⟩)
            clear hS4 he hCM hM4 hdr4 hS0 h hB hfar hN hs0
            go_wp2_with fail
            go_ret
            rw [hL.out]
            exact ⟨rfl, HT.out⟩
    · have hL := Lib.hid (callM_told HG.out hr)
      obtain rfl : v = .agg #[.int .i64 0, .int .i64 0, .slice none 0 0, .slice none 0 0, .slice none 0 0, .int .u64 0] := hv1 hr
      have hrb : ((toldM m defs sg.told 0 (called0 x4)).2 != 0) = true := by simpa using hr
      have HT := Lib.hid (TurnM.same h (hb4w.alloc hb4w.size (.cells zeroCalled.toArray 119)))
      clear h hB hfar hv1 hv2 hr hb4
      generalize (toldM m defs sg.told 0 (called0 x4)).2 = er at *
      go_wp2_with fail
      go_ret
      rw [hL.out]
      exact ⟨rfl, HT.out⟩
/-- call, whatever comes of it. -/
theorem rcall11 {own : Own} {w : World} {pM : Nat} {g : Gh} {l : List Insn} {defs : List DefM} {m : MchM} (h : MchIn own w pM g l defs m) (hn : m.mem.length ≤ 1000000) (hcl : m.calls.length ≤ 1000000) (hdl : defs.length ≤ 1000) (hdf : ∀ d ∈ defs, defOk d = true) (hdr : m.draws.length ≤ 1000) (x : Insn) (hx : x.Ok) :
    Calls Try.prog 71 #[.pointer (some ⟨pM, 0, none⟩), x.val] w fun e w' => e = .returned (.int .i64 (callM m defs x.imm).2) ∧ TurnM own w pM l defs (callM m defs x.imm).1 w' := by
  generalize hO : ((fun b => if b < w.heap.size then own b else none) : Own) = O
  have ho : ∀ b, b < w.heap.size → O b = own b := fun b hb => by rw [← hO]; exact if_pos hb
  have hfar : ∀ b, w.heap.size ≤ b → O b = none := fun b hb => by rw [← hO]; exact if_neg (by omega)
  refine (rcall11R hfar (h.own_eq ho) hn hcl hdl hdf hdr x hx).mono ?_
  rintro e w' ⟨h1, h2⟩
  exact ⟨h1, h2.own_eq ho⟩
end
end Go.Proofs.Ytncogaikiceidaa
