/- New of the machine. No statement is proved here. -/
import Derived.Test.YtncogaikiceidaaN22
import Derived.Test.YtncogaikiceidaaN23
namespace Go.Proofs.Ytncogaikiceidaa
open Go.RowKit
set_option linter.unusedSimpArgs false
set_option linter.unusedVariables false
set_option linter.unnecessarySimpa false
section
/-! ### New of the machine -/
def mem1M (e : EnvM) : List AreaM := [⟨1, e.ctx, List.replicate e.ctx.length false, true⟩, ⟨2, List.replicate 512 0, List.replicate 512 true, false⟩]
def mch0M (mt : List AreaM × List MapM) (e : EnvM) : MchM := ⟨List.replicate 11 0, List.replicate 11 false, mt.1, mt.2, e.draws, 0, false, 0, 0, []⟩
def Bad1 (l : List Insn) (e : EnvM) : Prop := (checkM l).2 ≠ 0 ∨ 64 < e.ctx.length ∨ e.defs.length < e.items.length
theorem newM_bad {l : List Insn} {e : EnvM} (h : Bad1 l e ∨ defsOk e.defs = false) : newM l e = none := by
 unfold newM
 rw [if_pos]
 rcases h with (h | h | h) | h
 ·exact .inl h
 ·exact .inr (.inl h)
 ·exact .inr (.inr (.inl h))
 ·exact .inr (.inr (.inr h))
theorem newM_good {l : List Insn} {e : EnvM} (h : ¬ Bad1 l e) (hd : defsOk e.defs = true) : newM l e = (putAll 0 e.items (tab0 (mem1M e) 0 e.defs)).map fun mt => putR (putR (mch0M mt e) 1 4294967296) 10 8589935104 := by
 unfold newM
 rw [if_neg]
 ·rfl
 ·rintro (h1 | h1 | h1 | h1)
  ·exact h (.inl h1)
  ·exact h (.inr (.inl h1))
  ·exact h (.inr (.inr h1))
  ·rw [hd] at h1; cases h1
theorem tab0_len : ∀ (l : List DefM) (mem : List AreaM) (i : Nat), ((tab0 mem i l).1.length : Int) = mem.length + madeSum (tab0 mem i l).2
 | [], mem, i => by simp [tab0, madeSum]
 | d :: l, mem, i => by
  rw [tab0_cons]
  simp only [madeSum]
  rw [tab0_len l]
  simp only [addS, List.length_append, List.length_map, List.length_range, mapD]
  omega
structure EnvAt (w : World) (e : EnvM) (Ac AD AI AR : Option Addr) (sv : Nat → Value) (dd : Nat → Nat → Value × Value) : Prop where
 ctx : SAt w w.heap.size 1 Ac e.ctx.length (bytesV e.ctx)
 defs : SAt w w.heap.size 4 AD e.defs.length (defsV e.defs)
 items : MapsAt w w.heap.size AI e.items sv dd
 draws : SAt w w.heap.size 1 AR e.draws.length (e.draws.map (Value.int .u64))
structure EnvOk (e : EnvM) : Prop where
 ctx : BytesOk e.ctx
 draws : ∀ n ∈ e.draws, U64 n
 items : ∀ y ∈ e.items, ∀ i ∈ y, i.Ok
 fewC : e.ctx.length ≤ 100
 fewD : e.defs.length ≤ 10
 fewI : e.items.length ≤ 10
 fewR : e.draws.length ≤ 100
 fewY : ∀ y ∈ e.items, y.length ≤ 20
/-- The machine's cells ahead of its first numbers. -/
def cells0 (L D dr : Value) (pm : Nat) (pt : Value) : List Value := [L, .int .u64 0, .int .u64 0, .int .u64 0, .int .u64 0, .int .u64 0, .int .u64 0, .int .u64 0, .int .u64 0, .int .u64 0, .int .u64 0, .int .u64 0, .bool false, .bool false, .bool false, .bool false, .bool false, .bool false, .bool false, .bool false, .bool false, .bool false, .bool false, .pointer (some ⟨pm, 0, none⟩), pt, D, dr, .int .i64 0, .bool false, .int .i64 0, .int .i64 0, .slice none 0 0]
/-- Where New of the machine stands, from its memory on. -/
structure N11 (w : World) (own1 : Own) (wr : World) (Mb pm pt : Nat) (ptv : Value) (L D : Value) (Ad : Option Addr) (cd : Nat) (e : EnvM) (vm : Value) (sl : Nat → Value × Value) (mem : List AreaM) : Prop where
 low : ∀ b, b < w.heap.size → own1 b = none
 far : ∀ b, wr.heap.size ≤ b → own1 b = none
 memIn : MemIn own1 wr pm vm sl mem
 box : Blk wr Mb (cells0 L D (.slice Ad e.draws.length cd) pm ptv)
 bfree : own1 Mb = none
 draws : wr.ownsRow w.heap.size 53 1 (.slice Ad e.draws.length cd) e.draws.length (e.draws.map (Value.int .u64))
 dfree : ∀ b, (Value.slice Ad e.draws.length cd).ownBlock = some b → own1 b = none ∧ b ≠ Mb
 bw : w.heap.size ≤ Mb
 efree : own1 w.heap.size = none
 ene : Mb ≠ w.heap.size
 elt : w.heap.size < wr.heap.size
 below : Below w.heap.size w wr
section
variable {w wr wn : World} {own1 own2 : Own} {Mb pm pt : Nat} {ptv L D : Value} {Ad : Option Addr} {cd : Nat} {e : EnvM} {vm vm2 : Value} {sl sl2 : Nat → Value × Value} {mem mem2 : List AreaM}
/-- A step that turns what is somebody's. -/
theorem N11.turn (h : N11 w own1 wr Mb pm pt ptv L D Ad cd e vm sl mem) (ho : ∀ b, b < wr.heap.size → own2 b = own1 b) (hf : ∀ b, wn.heap.size ≤ b → own2 b = none) (hk : Kept (fun b => own1 b ≠ none) wr wn) (hm : MemIn own2 wn pm vm2 sl2 mem2) : N11 w own2 wn Mb pm pt ptv L D Ad cd e vm2 sl2 mem2 where
 low := fun b hb => (ho b (Nat.lt_of_lt_of_le hb h.below.size)).trans (h.low b hb)
 far := hf
 memIn := hm
 box := h.box.kept hk (fun f => f h.bfree)
 bfree := (ho Mb h.box.lt).trans h.bfree
 draws := own_kept h.draws hk (fun b f g => g (h.dfree b f).1)
 dfree := fun b f => ⟨(ho b (h.draws.lt b f).2).trans (h.dfree b f).1, (h.dfree b f).2⟩
 bw := h.bw
 efree := (ho _ h.elt).trans h.efree
 ene := h.ene
 elt := Nat.lt_of_lt_of_le h.elt hk.size
 below := h.below.trans (hk.below (fun b hb => Nat.le_of_not_lt (fun hlt => hb (h.low b hlt))) h.below.size)
/-- The machine as it stands ahead of its first numbers. -/
theorem N11.start {l : List Insn} {A AD : Option Addr} {c cD : Nat} {vt : Value} {ks : Nat → Value} {mt : List AreaM × List MapM} (h : N11 w own1 wr Mb pm pt (.pointer (some ⟨pt, 0, none⟩)) (.slice A l.length c) (.slice AD e.defs.length cD) Ad cd e vm sl mt.1) (ht : TabIn own1 wr pt pm vt ks mt.2)
  (hc : SAt w w.heap.size 5 A l.length (insnsV l)) (hd : SAt w w.heap.size 4 AD e.defs.length (defsV e.defs)) (hU : ∀ n ∈ e.draws, U64 n) :
  ∃ own3 g, (∀ b, b < w.heap.size → own3 b = none) ∧ (∀ b, wr.heap.size ≤ b → own3 b = none) ∧ MchIn own3 wr Mb g l e.defs (mch0M mt e) ∧ g.A = A ∧ g.AD = AD := by
 have hdw : ∀ b, (Value.slice Ad e.draws.length cd).ownBlock = some b → w.heap.size ≤ b := fun b f => (h.draws.lt b f).1
 have hbw := h.bw
 generalize hO : ((fun b => if b = Mb then some Role.mach else if (Value.slice Ad e.draws.length cd).ownBlock = some b then some Role.draws else own1 b) : Own) = O
 have o1 : O Mb = some .mach := by rw [← hO]; exact if_pos rfl
 have o2 : ∀ b, (Value.slice Ad e.draws.length cd).ownBlock = some b → O b = some .draws := fun b f => by
  rw [← hO]
  show (if b = Mb then some Role.mach else _) = _
  rw [if_neg (h.dfree b f).2, if_pos f]
 have o3 : ∀ b r, own1 b = some r → b < wr.heap.size → O b = some r := fun b r f _ => by
  rw [← hO]
  show (if b = Mb then some Role.mach else _) = _
  rw [if_neg (fun g => by rw [g, h.bfree] at f; cases f), if_neg (fun g => by rw [(h.dfree b g).1] at f; cases f), f]
 have o4 : ∀ b, b < w.heap.size → O b = none := fun b hb => by
  rw [← hO]
  show (if b = Mb then some Role.mach else _) = _
  rw [if_neg (by omega), if_neg (fun g => by have := hdw b g; omega)]
  exact h.low b hb
 have o5 : ∀ b, wr.heap.size ≤ b → O b = none := fun b hb => by
  have h1 := h.box.lt
  rw [← hO]
  show (if b = Mb then some Role.mach else _) = _
  rw [if_neg (by omega), if_neg (fun g => by have := (h.draws.lt b g).2; omega)]
  exact h.far b hb
 refine ⟨O, ⟨.slice A l.length c, A, pm, pt, vm, vt, sl, ks, .slice AD e.defs.length cD, AD, .slice Ad e.draws.length cd, .slice none 0 0, fun _ => (.int .i64 0, .int .i64 0, .int .i64 0)⟩, o4, o5, ⟨o1, rfl, rfl, fun n hn => ?_, h.box, ⟨c, rfl, (hc.below h.below).more h.below.size⟩, fun hn b o f => ?_, ⟨cD, rfl, (hd.below h.below).more h.below.size⟩, fun hn b o f => ?_, h.memIn.reown o3, ht.reown o3, ⟨own_mono (Nat.zero_le _) h.draws, o2⟩, hU, ⟨World.ownsRow_nil _ _ _ _, fun b f => by simp [Value.ownBlock] at f⟩, fun i hi => absurd hi (by simp [mch0M])⟩, rfl, rfl⟩
 ·simp only [mch0M, List.mem_replicate] at hn
  rw [hn.2]; exact ⟨by decide, by decide⟩
 ·obtain ⟨b', o', f', hb, -⟩ := hc.2 hn
  simp only at f
  rw [f] at f'; cases f'
  exact o4 b hb
 ·obtain ⟨b', o', f', hb, -⟩ := hd.2 hn
  simp only at f
  rw [f] at f'; cases f'
  exact o4 b hb
end
theorem N11.table {w wr : World} {own1 : Own} {Mb pm p0 pt : Nat} {L D : Value} {Ad : Option Addr} {cd : Nat} {e : EnvM} {vm : Value} {sl : Nat → Value × Value} {mem : List AreaM} (h : N11 w own1 wr Mb pm p0 (.pointer none) L D Ad cd e vm sl mem) : N11 w own1 (wr.setCell ⟨Mb, 24, none⟩ (.pointer (some ⟨pt, 0, none⟩))) Mb pm pt (.pointer (some ⟨pt, 0, none⟩)) L D Ad cd e vm sl mem := by
 have hk : Kept (fun b => b = Mb) wr (wr.setCell ⟨Mb, 24, none⟩ (.pointer (some ⟨pt, 0, none⟩))) := Kept.set Kept.refl rfl
 have hb := h.box.set (k := 24) (by simp [cells0]) (.pointer (some ⟨pt, 0, none⟩))
 exact ⟨h.low, fun b hb => h.far b (by simpa using hb), h.memIn.kept hk (fun _ _ => rfl) (fun b r f _ g => by rw [g, h.bfree] at f; cases f), hb, h.bfree, own_kept h.draws hk (fun b f g => (h.dfree b f).2 g), h.dfree, h.bw, h.efree, h.ene, by simpa using h.elt, h.below.setCell h.bw _⟩
theorem rput9z {own : Own} {w : World} {pt pm : Nat} {v vm : Value} {ks : Nat → Value} {sl : Nat → Value × Value} {mem : List AreaM} {t : List MapM} (h : TabIn own w pt pm v ks t) (hm : MemIn own w pm vm sl mem) (hn : mem.length ≤ 1000000)
  (i : Int) (key val : List Int) (flags : Int) (hkey : BytesOk key) (hval : BytesOk val) (B : Nat) (hB : B ≤ w.heap.size) (A A2 : Option Addr) (c c2 : Nat) (hat : SAt w B 1 A key.length (bytesV key)) (hat2 : SAt w B 1 A2 val.length (bytesV val))
  (hA : 0 < key.length → ∀ b o, A = some ⟨b, o, none⟩ → ¬ own.memTab b) (hA2 : 0 < val.length → ∀ b o, A2 = some ⟨b, o, none⟩ → ¬ own.memTab b) :
  Calls Try.prog 16 #[.pointer (some ⟨pt, 0, none⟩), .int .i64 i, .slice A key.length c, .slice A2 val.length c2, .int .u64 flags] w (TurnOk own w pt pm v (putM mem t i key val flags)) := by
 by_cases h1 : 0 < key.length ∧ 0 < val.length
 ·exact rput9 h hm hn i key val flags hkey hval B hB A A2 c c2 hat hat2 (hA h1.1) (hA2 h1.2)
 ·by_cases hmy : mayM t i key = true
  ·obtain ⟨k, rfl, hk, hkl⟩ := mayM_in hmy
   rw [mapAt_get hk] at hkl
   have hd := (h.ok _ (List.getElem_mem hk)).d
   have hv := defOk_val hd
   have hk2 : 1 ≤ t[k].d.key := by
    unfold defOk at hd
    simp only [Bool.and_eq_true, decide_eq_true_eq] at hd
    obtain ⟨⟨⟨⟨⟨h0, -⟩, -⟩, -⟩, -⟩, -⟩ := hd
    split at h0
    ·simp only [Bool.and_eq_true, decide_eq_true_eq] at h0; omega
    ·simp only [beq_iff_eq] at h0; omega
   exact rput90b h hm k hk key val flags hmy (by omega) A A2 c c2
  ·exact rput90a h hm i key val flags (by simpa using hmy) A A2 c c2
theorem putItems_cons (i : Nat) (y : ItemM) (l : List ItemM) (mt : List AreaM × List MapM) : putItems i (y :: l) mt = if (putM mt.1 mt.2 i y.key y.val 0).2.2.1 ≠ 0 ∨ (putM mt.1 mt.2 i y.key y.val 0).2.2.2 ≠ 0 then none else putItems i l ((putM mt.1 mt.2 i y.key y.val 0).1, (putM mt.1 mt.2 i y.key y.val 0).2.1) := rfl
theorem putAll_cons (i : Nat) (y : List ItemM) (l : List (List ItemM)) (mt : List AreaM × List MapM) : putAll i (y :: l) mt = (putItems i y mt).bind (putAll (i + 1) l) := rfl
end
section
theorem own_nil_at53 {W : World} {g B : Nat} (h : W.heap[g]? = some (.cells #[] 53)) (hB : B ≤ g) : W.ownsRow B 53 1 (.slice (some ⟨g, 0, none⟩) 0 0) 0 [] :=
 ⟨rfl, .inr ⟨g, 0, #[], rfl, hB, h, Nat.le_refl _, by simp [maxLen], rfl, rfl⟩⟩
theorem info53n : (Try.prog.info? 53).map (fun i => (i.zero, i.size, i.bytes)) = some (some (.int .u64 0), 1, 8) := by kernel_rfl
/-- What New of the machine hands back. -/
def New11Ok (w : World) (A AD : Option Addr) (l : List Insn) (e : EnvM) (en : Ending) (w' : World) : Prop :=
 Below w.heap.size w w' ∧ (newM l e = none → en = .returned (.tuple #[.pointer none, .int .i64 1])) ∧
 (∀ a, newM l e = some a → ∃ Mb own g, en = .returned (.tuple #[.pointer (some ⟨Mb, 0, none⟩), .int .i64 0]) ∧ (∀ b, b < w.heap.size → own b = none) ∧ (∀ b, w'.heap.size ≤ b → own b = none) ∧ MchIn own w' Mb g l e.defs a ∧ Runs l a ∧ g.A = A ∧ g.AD = AD)
theorem New11Ok.none_ {w : World} {A AD : Option Addr} {l : List Insn} {e : EnvM} {w' : World} (h : newM l e = none) (hb : Below w.heap.size w w') : New11Ok w A AD l e (.returned (.tuple #[.pointer none, .int .i64 1])) w' :=
 ⟨hb, fun _ => rfl, fun a ha => by rw [h] at ha; cases ha⟩
/-- The machine's box behind its memory's. -/
theorem new4_end {w1 w6 : World} {L D : Value} {Ad : Option Addr} {cd pm n : Nat} {xs : List Value} (hk : Below w1.heap.size w1 w6) (hp : Blk w6 pm [.slice none 0 0]) (hpm : w1.heap.size ≤ pm) (hd : w6.ownsRow w1.heap.size 53 1 (.slice Ad n cd) n xs) (hdn : ∀ b, (Value.slice Ad n cd).ownBlock = some b → b ≠ pm) (Mb : Nat) (hMb : w6.heap.size = Mb) :
  Below w1.heap.size w1 (w6.alloc (.cells (cells0 L D (.slice Ad n cd) pm (.pointer none)).toArray 71)) ∧ Blk (w6.alloc (.cells (cells0 L D (.slice Ad n cd) pm (.pointer none)).toArray 71)) Mb (cells0 L D (.slice Ad n cd) pm (.pointer none)) ∧ Blk (w6.alloc (.cells (cells0 L D (.slice Ad n cd) pm (.pointer none)).toArray 71)) pm [.slice none 0 0] ∧
  (w6.alloc (.cells (cells0 L D (.slice Ad n cd) pm (.pointer none)).toArray 71)).ownsRow w1.heap.size 53 1 (.slice Ad n cd) n xs ∧ w1.heap.size ≤ Mb ∧ w1.heap.size ≤ pm ∧ Mb ≠ pm ∧ (∀ b, (Value.slice Ad n cd).ownBlock = some b → b ≠ Mb ∧ b ≠ pm) := by
 subst hMb
 have h1 := hp.lt
 exact ⟨hk.alloc hk.size _, blk_new (heap_alloc_new w6 _), hp.below (below_boxes1 _ _), hd.alloc _, hk.size, hpm, by omega, fun b e => ⟨by have := (hd.lt b e).2; omega, hdn b e⟩⟩
set_option maxRecDepth 100000 in
set_option maxHeartbeats 8000000 in
theorem rnew11 (l : List Insn) (hl : ∀ x ∈ l, x.Ok) (hl512 : l.length ≤ 512) (A : Option Addr) (c : Nat) (e : EnvM) (Ac AD AI AR : Option Addr) (cc cD cI cR : Nat) (sv : Nat → Value) (dd : Nat → Nat → Value × Value) (w : World) (hcode : SAt w w.heap.size 5 A l.length (insnsV l)) (he : EnvAt w e Ac AD AI AR sv dd) (heo : EnvOk e) :
  Calls Try.prog 5 #[.slice A l.length c, .agg #[.slice Ac e.ctx.length cc, .slice AD e.defs.length cD, .slice AI e.items.length cI, .slice AR e.draws.length cR]] w (New11Ok w A AD l e) := by
 have hck := fun w1 (hb : Below w.heap.size w w1) => rcheck_any l hl A c (by omega) w1 ((hcode.below hb).more hb.size)
 have hbE := below_boxes1 w (.cells #[.slice Ac e.ctx.length cc, .slice AD e.defs.length cD, .slice AI e.items.length cI, .slice AR e.draws.length cR] 28)
 have hE := blk_new (xs := [.slice Ac e.ctx.length cc, .slice AD e.defs.length cD, .slice AI e.items.length cI, .slice AR e.draws.length cR]) (heap_alloc_new w (.cells #[.slice Ac e.ctx.length cc, .slice AD e.defs.length cD, .slice AI e.items.length cI, .slice AR e.draws.length cR] 28))
 have hEs : (w.alloc (.cells #[.slice Ac e.ctx.length cc, .slice AD e.defs.length cD, .slice AI e.items.length cI, .slice AR e.draws.length cR] 28)).heap.size = w.heap.size + 1 := by simp
 obtain ⟨i0, hi0, hz0, hz1, hz2⟩ := info_parts info53n
 go_enter Try.func5, Try.ntmps5
 go_upto_region 1 with fail
 generalize w.alloc (.cells #[.slice Ac e.ctx.length cc, .slice AD e.defs.length cD, .slice AI e.items.length cI, .slice AR e.draws.length cR] 28) = W at *
 go_wp2_with fail
 unfold TwoInts at hck
 refine (hck _ hbE).mono ?_
 rintro en w1 ⟨rfl, hb1⟩
 have hbw1 := hbE.trans (hb1.mono hbE.size)
 have hE1 := hE.below hb1
 have x0 := hE1.cell (k := 0) rfl
 have x1 := hE1.cell (k := 1) rfl
 have x2 := hE1.cell (k := 2) rfl
 have x3 := hE1.cell (k := 3) rfl
 have hs1 : w.heap.size + 1 ≤ w1.heap.size := by have := hb1.size; omega
 have fC := heo.fewC
 have fD := heo.fewD
 have fI := heo.fewI
 have fR := heo.fewR
 have HCK := Lib.hid (show (checkM l).2 = 0 → Prog l from check_prog)
 have HB0 := Lib.hid (show Bad1 l e ↔ (checkM l).2 ≠ 0 ∨ 64 < e.ctx.length ∨ e.defs.length < e.items.length from Iff.rfl)
 clear hck hb1 hE
 generalize (checkM l).2 = ck at *
 generalize (checkM l).1 = ck1 at *
 by_cases hk : ck = 0
 ·have hkb : (ck != 0) = false := by simpa using hk
  by_cases hx : 64 < e.ctx.length
  ·have hxi : ((e.ctx.length : Nat) : Int) > 64 := by omega
   have HN := Lib.hid (newM_bad (.inl (HB0.out.2 (.inr (.inl hx)))))
   clear hcode he
   go_wp2_with fail
   go_ret2
   exact New11Ok.none_ HN.out hbw1
  ·have hxi : ¬ ((e.ctx.length : Nat) : Int) > 64 := by omega
   by_cases hy : e.defs.length < e.items.length
   ·have hyi : ((e.items.length : Nat) : Int) > ((e.defs.length : Nat) : Int) := by omega
    have HN := Lib.hid (newM_bad (.inl (HB0.out.2 (.inr (.inr hy)))))
    clear hcode he
    go_wp2_with fail
    go_ret2
    exact New11Ok.none_ HN.out hbw1
   ·have hyi : ¬ ((e.items.length : Nat) : Int) > ((e.defs.length : Nat) : Int) := by omega
    have hnb : ¬ Bad1 l e := by rw [HB0.out]; omega
    have hprog := HCK.out hk
    have HN := Lib.hid hnb
    have HPR := Lib.hid hprog
    clear hnb hprog
    go_upto_region 4 with fail
    have hwlt : w.heap.size < w1.heap.size := by omega
    have x1n : ∀ w', Below w1.heap.size w1 w' → w'.cell? ⟨w.heap.size, 1, none⟩ = some (.slice AD e.defs.length cD) := fun w' hb => (hb.cell (p := ⟨w.heap.size, 1, none⟩) hwlt).trans x1
    have x3n : ∀ w', Below w1.heap.size w1 w' → w'.cell? ⟨w.heap.size, 3, none⟩ = some (.slice AR e.draws.length cR) := fun w' hb => (hb.cell (p := ⟨w.heap.size, 3, none⟩) hwlt).trans x3
    have hdr1 : SAt w1 w1.heap.size 1 AR e.draws.length (e.draws.map (Value.int .u64)) := (he.draws.below hbw1).more hbw1.size
    have hbyt : ∀ u ∈ e.draws.map (Value.int .u64), u.oneCell' = true := fun u hu => by rw [List.mem_map] at hu; obtain ⟨a, -, rfl⟩ := hu; rfl
    have m63 : 0 + e.draws.length ≤ maxLen := by simp only [maxLen]; omega
    have mby : (0 + e.draws.length) * 8 ≤ 140737488355328 := by omega
    have HDR := Lib.hid hdr1
    clear x0 x1 x2 x3 hdr1
    go_cut [8] from 15 (fun v8 wx => ∃ Mb pm Ad cd, v8 = .pointer (some ⟨Mb, 0, none⟩) ∧ Below w1.heap.size w1 wx ∧ Blk wx Mb (cells0 (.slice A l.length c) (.slice AD e.defs.length cD) (.slice Ad e.draws.length cd) pm (.pointer none)) ∧ Blk wx pm [.slice none 0 0] ∧ wx.ownsRow w1.heap.size 53 1 (.slice Ad e.draws.length cd) e.draws.length (e.draws.map (Value.int .u64)) ∧ w1.heap.size ≤ Mb ∧ w1.heap.size ≤ pm ∧ Mb ≠ pm ∧ (∀ b, (Value.slice Ad e.draws.length cd).ownBlock = some b → b ≠ Mb ∧ b ≠ pm))
    case first =>
     go_region_held3 (fun w' => Below w1.heap.size w1 w')
      (repeat (first | assumption | exact Below.refl _ _ | refine sbelow_drew ?_ | refine sbelow_alloc ?_ (Nat.le_refl _)))
      (first
       | (refine step_append_y rfl (.tmp 42) (.tmp 44) 26 rfl w1.heap.size 53 i0 (.int .u64 0) 1 8 Try.underlying26 hi0 hz0 hz1 hz2 rfl (by decide) _ 0 0 [] rfl ?_ w1.heap.size AR e.draws.length cR (e.draws.map (Value.int .u64)) rfl ?_ hbyt m63 mby ?_ ?_; (refine own_nil_at53 ?_ ?_; (first | exact heap1_0 w1 _ | exact heap2_1 w1 _ _ | exact heap2_0 w1 _ _); (first | exact Nat.le_refl _ | exact Nat.le_succ _ | omega)); (refine SAt.below HDR.out ?_; (repeat (first | assumption | exact Below.refl _ _ | refine sbelow_drew ?_ | refine sbelow_alloc ?_ (Nat.le_refl _)))); (refine Below.size (B := w1.heap.size) (w := w1) ?_; (repeat (first | assumption | exact Below.refl _ _ | refine sbelow_drew ?_ | refine sbelow_alloc ?_ (Nat.le_refl _)))); (intro A6 c6 w6 ho6 hg6 hor6; have k6 : Below w1.heap.size w1 w6 := (by refine Below.trans ?_ (below_of_grown hg6 ?_ ?_); (repeat (first | assumption | exact Below.refl _ _ | refine sbelow_drew ?_ | refine sbelow_alloc ?_ (Nat.le_refl _))); (refine Below.size (B := w1.heap.size) (w := w1) ?_; (repeat (first | assumption | exact Below.refl _ _ | refine sbelow_drew ?_ | refine sbelow_alloc ?_ (Nat.le_refl _)))); (intro k hk; simp [Value.ownBlock] at hk; omega)))))
     all_goals
      have hd6 : w6.ownsRow w1.heap.size 53 1 (.slice A6 e.draws.length c6) e.draws.length (e.draws.map (Value.int .u64)) := by simpa using ho6
      have hor6' : ∀ b, (Value.slice A6 e.draws.length c6).ownBlock = some b → (Value.slice A6 (0 + e.draws.length) c6).ownBlock = some b := fun b f => by simpa using f
     ·have hpb : Blk ((w1.alloc (.cells #[.slice none 0 0] 66)).alloc (.cells #[] 53)).drew w1.heap.size [.slice none 0 0] := (blk_new (t := 66) (heap2_0 w1 (.cells #[.slice none 0 0] 66) (.cells #[] 53))).drew
      have hp6 := hpb.kept (grown_kept (X := fun b => b = w1.heap.size + 1) hg6 (fun k f => by simp [Value.ownBlock] at f; exact f.symm)) (by omega)
      have hdn : ∀ b, (Value.slice A6 e.draws.length c6).ownBlock = some b → b ≠ w1.heap.size := fun b f => by
       have f2 := hor6' b f
       rcases hor6 with h | h
       ·rw [h] at f2; simp [Value.ownBlock] at f2; omega
       ·rw [h] at f2; simp [World.drew] at f2; omega
      have hend := new4_end (L := .slice A l.length c) (D := .slice AD e.defs.length cD) k6 hp6 (Nat.le_refl _) hd6 hdn _ rfl
      have HE := Lib.hid hend
      clear hend hp6 hpb hdn hd6 ho6 hg6 hor6 hor6' k6
      go_wp2_with fail
      go_meet
      case rel => exact ⟨_, _, _, _, rfl, HE.out⟩
     ·have hpb : Blk ((w1.alloc (.cells #[] 53)).alloc (.cells #[.slice none 0 0] 66)).drew (w1.heap.size + 1) [.slice none 0 0] := (blk_new (t := 66) (heap2_1 w1 (.cells #[] 53) (.cells #[.slice none 0 0] 66))).drew
      have hp6 := hpb.kept (grown_kept (X := fun b => b = w1.heap.size) hg6 (fun k f => by simp [Value.ownBlock] at f; exact f.symm)) (by omega)
      have hdn : ∀ b, (Value.slice A6 e.draws.length c6).ownBlock = some b → b ≠ w1.heap.size + 1 := fun b f => by
       have f2 := hor6' b f
       rcases hor6 with h | h
       ·rw [h] at f2; simp [Value.ownBlock] at f2; omega
       ·rw [h] at f2; simp [World.drew] at f2; omega
      have hend := new4_end (L := .slice A l.length c) (D := .slice AD e.defs.length cD) k6 hp6 (Nat.le_succ _) hd6 hdn _ rfl
      have HE := Lib.hid hend
      clear hend hp6 hpb hdn hd6 ho6 hg6 hor6 hor6' k6
      go_wp2_with fail
      go_meet
      case rel => exact ⟨_, _, _, _, rfl, HE.out⟩
     ·have k7 : Below w1.heap.size w1 (w6.alloc (.cells #[.slice none 0 0] 66)) := k6.alloc k6.size _
      have hp6 := blk_new (xs := [.slice none 0 0]) (heap_alloc_new w6 (.cells #[.slice none 0 0] 66))
      have hdn : ∀ b, (Value.slice A6 e.draws.length c6).ownBlock = some b → b ≠ w6.heap.size := fun b f => by
       have := (hd6.lt b f).2; omega
      have hend := new4_end (L := .slice A l.length c) (D := .slice AD e.defs.length cD) k7 hp6 k6.size (hd6.alloc _) hdn (w6.heap.size + 1) (by simp)
      have HE := Lib.hid hend
      clear hend hp6 hdn hd6 ho6 hg6 hor6 hor6' k6 k7
      go_wp2_with fail
      go_meet
      case rel => exact ⟨_, _, _, _, rfl, HE.out⟩
    case rest =>
     obtain ⟨Mb, pm, Ad, cd, rfl, hb2, hM2, hp2, hd2, hMb, hpm, hMp, hdn⟩ := hcut
     obtain ⟨V, hV⟩ : ∃ V : World, V = wc := ⟨wc, rfl⟩
     subst hV
     have hbV : Below w.heap.size w V := hbw1.trans (hb2.mono hbw1.size)
     have hEV := hE1.below hb2
     have hwV : w.heap.size < V.heap.size := hEV.lt
     have h0 : N11 w (fun b => if b = pm then some .mem else none) V Mb pm 0 (.pointer none) (.slice A l.length c) (.slice AD e.defs.length cD) Ad cd e (.slice none 0 0) (fun _ => (.int .i64 0, .int .i64 0)) [] := by
      have hpl := hp2.lt
      refine ⟨fun b hb => if_neg (by omega), fun b hb => if_neg (by omega), ⟨if_pos rfl, hp2, ⟨World.ownsRow_nil _ _ _ _, fun b hb => by simp [Value.ownBlock] at hb⟩, (fun a ha => absurd ha (by simp)), (fun i hi => absurd hi (by simp))⟩, hM2, if_neg hMp, own_mono (by omega) hd2, fun b f => ⟨if_neg (hdn b f).2, (hdn b f).1⟩, by omega, if_neg (by omega), by omega, hwV, hbV⟩
     clear hM2 hp2 hd2 hdn hb2 hE1 x1n x3n
     generalize ((fun b => if b = pm then some .mem else none) : Own) = own0 at *
     have hctx : SAt V.drew V.drew.heap.size 1 Ac e.ctx.length (bytesV e.ctx) := ((he.ctx.below hbV).more hbV.size)
     have hmk1 : Calls Try.prog 14 #[.pointer (some ⟨pm, 0, none⟩), .int .i64 1, .slice Ac e.ctx.length cc, .bool false, .bool true] V.drew fun en w' => en = .returned (.int .i64 0) ∧ ∃ own' v' sl', (∀ b, b < V.drew.heap.size → own' b = own0 b) ∧ MemIn own' w' pm v' sl' [⟨1, e.ctx, List.replicate e.ctx.length false, true⟩] ∧ Kept (fun b => own0 b = some .mem ∨ own0 b = some .areas) V.drew w' := by
      have := rmake8 (h0.memIn.below (Below.refl V.heap.size V).drew) (by simp) 1 (by decide) (by decide) Ac cc e.ctx heo.ctx (by omega) false true V.drew.heap.size (Nat.le_refl _) hctx
      rw [makeM_new (by decide) (by decide) (by simp) (by omega)] at this
      exact this
     have z23 : V.drew.cell? ⟨Mb, 23, none⟩ = some (.pointer (some ⟨pm, 0, none⟩)) := h0.box.drew.cell (k := 23) rfl
     have ze0 : V.drew.cell? ⟨w.heap.size, 0, none⟩ = some (.slice Ac e.ctx.length cc) := hEV.drew.cell (k := 0) rfl
     have HI := Lib.hid (And.intro h0 hEV)
     have HENV := Lib.hid he
     have HCODE := Lib.hid hcode
     clear h0 hEV hctx he hcode
     go_upto_region 5 with fail
     refine wp_region_still_tail 6 (by kernel_rfl) (by kernel_rfl) ?_
     simp only [List.take_succ_cons, List.take_zero, List.drop_succ_cons, List.drop_zero]
     change wpStill _ _ V.drew _ _ _
     repeat still_step
     refine wpStill_nil ?_
     change wpList _ _ _ _ _ V.drew
     clear z23 ze0
     generalize hVd : V.drew = V1 at *
     go_wp2_with fail
     refine hmk1.mono ?_
     rintro en w3 ⟨rfl, own', v3, sl3, ho3, hm3, hk3⟩
     obtain ⟨own3, r1, r2, hm3'⟩ := hm3.restrict
     have h3 : N11 w own3 w3 Mb pm 0 (.pointer none) (.slice A l.length c) (.slice AD e.defs.length cD) Ad cd e v3 sl3 [⟨1, e.ctx, List.replicate e.ctx.length false, true⟩] := by
      have hVs : V1.heap.size = V.heap.size := by rw [← hVd]; rfl
      have hk30 : Kept (fun b => own0 b ≠ none) V w3 := by
       refine Kept.trans (w1 := V1) (X' := fun b => own0 b = some .mem ∨ own0 b = some .areas) ?_ hk3 (fun i _ f => by rcases f with f | f <;> simp [f])
       rw [← hVd]; exact Kept.refl.drew
      exact HI.out.1.turn (fun b hb => (r1 b (Nat.lt_of_lt_of_le hb hk30.size)).trans (ho3 b (by omega))) r2 hk30 hm3'
     have hE3 : Blk w3 w.heap.size [.slice Ac e.ctx.length cc, .slice AD e.defs.length cD, .slice AI e.items.length cI, .slice AR e.draws.length cR] := by
      have hk30 : Kept (fun b => own0 b ≠ none) V w3 := by
       refine Kept.trans (w1 := V1) (X' := fun b => own0 b = some .mem ∨ own0 b = some .areas) ?_ hk3 (fun i _ f => by rcases f with f | f <;> simp [f])
       rw [← hVd]; exact Kept.refl.drew
      exact HI.out.2.kept hk30 (fun f => f HI.out.1.efree)
     clear hmk1 ho3 hm3 hk3 r1 r2 hm3' HI hbV hwV hVd
     have hmkS : ∀ W, (Instr.makeSlice 23 (.int .i64 512) (.int .i64 512)).run Try.prog W = .ok (.slice (some ⟨W.heap.size, 0, none⟩) 512 512) (W.alloc (.cells (madeCells #[Value.int .u8 0] 512) 5)) := fun W => run_make_row' (P := Try.prog) 23 5 (.int .u8 0) 1 Try.underlying23 info5n rfl .i64 .i64 512 (by omega) (by omega) W
     generalize hZZ : madeCells #[Value.int .u8 0] 512 = ZZ at *
     have hzs : SAt (w3.alloc (.cells ZZ 5)).drew (w3.alloc (.cells ZZ 5)).drew.heap.size 1 (some ⟨w3.heap.size, 0, none⟩) 512 (bytesV (List.replicate 512 0)) := by
      have := sat_new w3 5 ZZ 1 512 (by rw [← hZZ]; simp [size_madeCells])
      rw [← hZZ, toList_madeCells_one] at this
      have h2 : bytesV (List.replicate 512 0) = List.replicate 512 (Value.int .u8 0) := by simp [bytesV]
      rw [h2, ← hZZ]
      exact (this.below (Below.refl _ _).drew).more (by simp [World.drew])
     have hmake : Calls Try.prog 14 #[.pointer (some ⟨pm, 0, none⟩), .int .i64 2, .slice (some ⟨w3.heap.size, 0, none⟩) 512 512, .bool true, .bool false] (w3.alloc (.cells ZZ 5)).drew fun en w' => en = .returned (.int .i64 0) ∧ ∃ own' v' sl', (∀ b, b < (w3.alloc (.cells ZZ 5)).drew.heap.size → own' b = own3 b) ∧ MemIn own' w' pm v' sl' (mem1M e) ∧ Kept (fun b => own3 b = some .mem ∨ own3 b = some .areas) (w3.alloc (.cells ZZ 5)).drew w' := by
      have := rmake8 (h3.memIn.below (below_boxes1 w3 (.cells ZZ 5)).drew) (by simp) 2 (by decide) (by decide) (some ⟨w3.heap.size, 0, none⟩) 512 (List.replicate 512 0) (fun b hb => by rw [List.mem_replicate] at hb; omega) (by simp) true false _ (Nat.le_refl _) (by simpa using hzs)
      rw [makeM_new (by decide) (by decide) (by simp) (by simp)] at this
      simpa [mem1M] using this
     have z23 : ∀ w', Below w3.heap.size w3 w' → w'.cell? ⟨Mb, 23, none⟩ = some (.pointer (some ⟨pm, 0, none⟩)) := fun w' hb => (h3.box.below hb).cell (k := 23) rfl
     have HI := Lib.hid (And.intro h3 hE3)
     have hr3 := Below.refl w3.heap.size w3
     clear h3 hE3 hZZ
     go_upto_region 6 with fail
     go_cut [8] from 15 (fun v8 wx => v8 = .pointer (some ⟨Mb, 0, none⟩) ∧ ∃ own4 v4 sl4, N11 w own4 wx Mb pm 0 (.pointer none) (.slice A l.length c) (.slice AD e.defs.length cD) Ad cd e v4 sl4 (mem1M e) ∧ Blk wx w.heap.size [.slice Ac e.ctx.length cc, .slice AD e.defs.length cD, .slice AI e.items.length cI, .slice AR e.draws.length cR])
     case first =>
      go_region_law
       (first
        | (go_simp; refine hmake.mono ?_; rintro en w4 ⟨rfl, own', v4, sl4, ho4, hm4, hk4⟩))
      all_goals
       obtain ⟨own4, r1, r2, hm4'⟩ := hm4.restrict
       have hk34 : Kept (fun b => own3 b ≠ none) w3 w4 := (Kept.of (X := fun b => own3 b ≠ none) (below_boxes1 w3 (.cells ZZ 5)).drew (Nat.le_refl _)).trans hk4 (fun i _ f => by rcases f with f | f <;> simp [f])
       have h4 : N11 w own4 w4 Mb pm 0 (.pointer none) (.slice A l.length c) (.slice AD e.defs.length cD) Ad cd e v4 sl4 (mem1M e) := HI.out.1.turn (fun b hb => (r1 b (Nat.lt_of_lt_of_le hb hk34.size)).trans (ho4 b (Nat.lt_of_lt_of_le hb (by simp [World.drew])))) r2 hk34 hm4'
       have hE4 := HI.out.2.kept hk34 (fun f => f HI.out.1.efree)
       have HJ := Lib.hid (And.intro h4 hE4)
       clear h4 hE4 ho4 hm4 hk4 r1 r2 hm4' hk34 z23
       go_wp2_with fail
       go_meet
       case rel => exact ⟨rfl, own4, v4, sl4, HJ.out⟩
     case rest =>
      obtain ⟨rfl, own4, v4, sl4, h4, hE4⟩ := hcut
      obtain ⟨w4, hw4⟩ : ∃ w4 : World, w4 = wc := ⟨wc, rfl⟩
      subst hw4
      clear hmake hmkS hzs z23 HI hr3
      have hbw4 := h4.below
      have hrt := rnew9 (w := w4.drew) (own := own4) (fun b hb => h4.far b hb) (h4.memIn.below (Below.refl w4.heap.size w4).drew) (fun a ha => by simp only [mem1M, List.mem_cons, List.mem_nil_iff, or_false] at ha; rcases ha with rfl | rfl <;> simp) (by simp [mem1M]) e.defs AD cD ((HENV.out.defs.below (hbw4.drew)).more hbw4.size) (fun hn b o f => by
       obtain ⟨b', o', f', hb, -⟩ := HENV.out.defs.2 hn
       rw [f] at f'; cases f'
       exact h4.low b hb) (by omega)
      have z23 : w4.drew.cell? ⟨Mb, 23, none⟩ = some (.pointer (some ⟨pm, 0, none⟩)) := h4.box.drew.cell (k := 23) rfl
      have ze1 : w4.drew.cell? ⟨w.heap.size, 1, none⟩ = some (.slice AD e.defs.length cD) := hE4.drew.cell (k := 1) rfl
      have HI := Lib.hid (And.intro h4 hE4)
      have hMl := h4.box.lt
      have hEl := hE4.lt
      have hMn := h4.bfree
      have hEn := h4.efree
      clear h4 hE4
      unfold New9Ok at hrt
      cases hok : defsOk e.defs with
      | false =>
       have hrt2 : Calls Try.prog 15 #[.pointer (some ⟨pm, 0, none⟩), .slice AD e.defs.length cD] w4.drew fun en w' => en = .returned (.tuple #[.pointer none, .int .i64 1]) ∧ Below w4.drew.heap.size w4.drew w' := hrt.mono (fun en w' h => h.1 hok)
       have HN2 := Lib.hid (newM_bad (l := l) (.inr hok))
       clear hrt hok
       go_upto_region 7 with fail
       go_region_held3 (fun w' => w'.cell? ⟨Mb, 23, none⟩ = some (.pointer (some ⟨pm, 0, none⟩)) ∧ w'.cell? ⟨w.heap.size, 1, none⟩ = some (.slice AD e.defs.length cD))
        (first | assumption | exact ⟨z23, ze1⟩ | exact h5c)
        (first | (go_at_call 15; refine hrt2.mono ?_; rintro en w5 ⟨rfl, hb5⟩; have h5c : w5.cell? ⟨Mb, 23, none⟩ = some (.pointer (some ⟨pm, 0, none⟩)) ∧ w5.cell? ⟨w.heap.size, 1, none⟩ = some (.slice AD e.defs.length cD) := ⟨(hb5.cell (p := ⟨Mb, 23, none⟩) hMl).trans z23, (hb5.cell (p := ⟨w.heap.size, 1, none⟩) hEl).trans ze1⟩))
       all_goals
        have hbw5 : Below w.heap.size w w5 := hbw4.drew.trans (hb5.mono hbw4.size)
        clear z23 ze1
        go_wp2_with fail
        go_ret2
        exact New11Ok.none_ HN2.out hbw5
      | true =>
       have hrt2 : Calls Try.prog 15 #[.pointer (some ⟨pm, 0, none⟩), .slice AD e.defs.length cD] w4.drew fun en w' => ∃ pt own' v' sl' vt ks, en = .returned (.tuple #[.pointer (some ⟨pt, 0, none⟩), .int .i64 0]) ∧ (∀ b, b < w4.drew.heap.size → own' b = own4 b) ∧ (∀ b, w'.heap.size ≤ b → own' b = none) ∧ MemIn own' w' pm v' sl' (tab0 (mem1M e) 0 e.defs).1 ∧ TabIn own' w' pt pm vt ks (tab0 (mem1M e) 0 e.defs).2 ∧ Kept (fun b => own4 b ≠ none) w4.drew w' := hrt.mono (fun en w' h => h.2 hok)
       have HOK := Lib.hid hok
       clear hrt hok
       go_upto_region 7 with fail
       go_region_held3 (fun w' => w'.cell? ⟨Mb, 23, none⟩ = some (.pointer (some ⟨pm, 0, none⟩)) ∧ w'.cell? ⟨w.heap.size, 1, none⟩ = some (.slice AD e.defs.length cD))
        (first | assumption | exact ⟨z23, ze1⟩ | exact h5c)
        (first | (go_at_call 15; refine hrt2.mono ?_; rintro en w5 ⟨pt, own5, v5, sl5, vt, ks, rfl, hl5, hf5, hm5, ht5, hk5⟩; have h5c : w5.cell? ⟨Mb, 23, none⟩ = some (.pointer (some ⟨pm, 0, none⟩)) ∧ w5.cell? ⟨w.heap.size, 1, none⟩ = some (.slice AD e.defs.length cD) := ⟨(hk5.cell hMl (fun f => f hMn)).trans z23, (hk5.cell hEl (fun f => f hEn)).trans ze1⟩))
       all_goals
        have hk45 : Kept (fun b => own4 b ≠ none) w4 w5 := Kept.trans (w1 := w4.drew) (X' := fun b => own4 b ≠ none) Kept.refl.drew hk5 (fun _ _ f => f)
        have h5 := HI.out.1.turn (own2 := own5) hl5 hf5 hk45 hm5
        have hE5 := HI.out.2.kept hk45 (fun f => f hEn)
        have hk6 : Kept (fun b => b = Mb) w5 (w5.setCell ⟨Mb, 24, none⟩ (.pointer (some ⟨pt, 0, none⟩))) := Kept.set Kept.refl rfl
        have h6 := h5.table (pt := pt)
        have ht6 := ht5.kept hk6 (fun _ _ => rfl) (fun b r f _ g => by rw [g, h5.bfree] at f; cases f)
        have hE6 := hE5.kept hk6 (fun f => h5.ene f.symm)
        have p24 : w5.cell? ⟨Mb, 24, none⟩ = some (.pointer none) := h5.box.cell (k := 24) rfl
        have f24 := h5.box.free 24
        have hfew6 : (((tab0 (mem1M e) 0 e.defs).1.length : Nat) : Int) ≤ 2 + madeSum (tab0 (mem1M e) 0 e.defs).2 := by
         rw [tab0_len]; simp [mem1M]
        have hnew := newM_good HN.out HOK.out
        have HL := Lib.hid (And.intro h6 (And.intro ht6 (And.intro hE6 hfew6)))
        have HNW := Lib.hid hnew
        clear h5 hE5 hk45 hk6 h6 ht6 hE6 hfew6 hnew hm5 ht5 hl5 hf5 hk5 z23 ze1 h5c HI hMl hEl hMn hEn hrt2 hbw4
        generalize hmt0 : tab0 (mem1M e) 0 e.defs = mt0 at *
        generalize hres : putAll 0 e.items mt0 = res at *
        have HRES := Lib.hid hres
        clear hres hmt0
        go_upto_block 0 with fail
        go_cut [8, 9] from 15 (fun v8 v9 wr => v8 = .pointer (some ⟨Mb, 0, none⟩) ∧ v9 = .pointer (some ⟨pt, 0, none⟩) ∧ ∃ own1 mt v1 sl1 ks1, (N11 w own1 wr Mb pm pt (.pointer (some ⟨pt, 0, none⟩)) (.slice A l.length c) (.slice AD e.defs.length cD) Ad cd e v1 sl1 mt.1 ∧ TabIn own1 wr pt pm vt ks1 mt.2 ∧ Blk wr w.heap.size [.slice Ac e.ctx.length cc, .slice AD e.defs.length cD, .slice AI e.items.length cI, .slice AR e.draws.length cR] ∧ ((mt.1.length : Nat) : Int) ≤ 2 + madeSum mt.2) ∧ res = some mt)
        case first =>
         clear p24 f24
         generalize w5.setCell ⟨Mb, 24, none⟩ (.pointer (some ⟨pt, 0, none⟩)) = W6 at *
         go_wp2_with fail
         go_loopw [11] (fun q wr => ∃ (i : Nat) (own1 : Own) (mt : List AreaM × List MapM) (v1 : Value) (sl1 : Nat → Value × Value) (ks1 : Nat → Value), i ≤ e.items.length ∧ q = .int .i64 i ∧ (N11 w own1 wr Mb pm pt (.pointer (some ⟨pt, 0, none⟩)) (.slice A l.length c) (.slice AD e.defs.length cD) Ad cd e v1 sl1 mt.1 ∧ TabIn own1 wr pt pm vt ks1 mt.2 ∧ Blk wr w.heap.size [.slice Ac e.ctx.length cc, .slice AD e.defs.length cD, .slice AI e.items.length cI, .slice AR e.draws.length cR] ∧ ((mt.1.length : Nat) : Int) ≤ 2 + madeSum mt.2) ∧ res = putAll i (e.items.drop i) mt) (fun q _ => e.items.length - (intOf q).toNat)
         case atStart => exact ⟨0, own5, mt0, v5, sl5, ks, by omega, rfl, HL.out, HRES.out.symm⟩
         case round =>
          obtain ⟨i, own1, mt, v1, sl1, ks1, hi, rfl, hLS, hr⟩ := hrel
          obtain ⟨h7, ht7, hE7, hf7⟩ := hLS
          have ze2 := hE7.cell (k := 2) rfl
          rcases Nat.lt_or_ge i e.items.length with hlt | hge
          ·have hii : (i : Int) < (e.items.length : Int) := by omega
           have hdI : e.items.drop i = e.items[i] :: e.items.drop (i + 1) := List.drop_eq_getElem_cons hlt
           rw [hdI, putAll_cons] at hr
           obtain ⟨bI, oI, Ai, ci, rfl, hbI, hcI, hIA⟩ := HENV.out.items.get hlt
           have hyo := heo.items _ (List.getElem_mem hlt)
           have hy20 := heo.fewY _ (List.getElem_mem hlt)
           have hcIn : ∀ w', Below w.heap.size w w' → w'.cell? ⟨bI, oI + i, none⟩ = some (.slice Ai e.items[i].length ci) := fun w' hb => (hb.cell (p := ⟨bI, oI + i, none⟩) hbI).trans hcI
           generalize e.items[i] = Y at *
           go_wp2_with fail
           go_loopw [12] (fun q wr => ∃ (k : Nat) (own1 : Own) (mt : List AreaM × List MapM) (v1 : Value) (sl1 : Nat → Value × Value) (ks1 : Nat → Value), k ≤ Y.length ∧ q = .int .i64 k ∧ (N11 w own1 wr Mb pm pt (.pointer (some ⟨pt, 0, none⟩)) (.slice A l.length c) (.slice AD e.defs.length cD) Ad cd e v1 sl1 mt.1 ∧ TabIn own1 wr pt pm vt ks1 mt.2 ∧ Blk wr w.heap.size [.slice Ac e.ctx.length cc, .slice AD e.defs.length cD, .slice (some ⟨bI, oI, none⟩) e.items.length cI, .slice AR e.draws.length cR] ∧ ((mt.1.length : Nat) : Int) ≤ 2 + madeSum mt.2) ∧ res = (putItems i (Y.drop k) mt).bind (putAll (i + 1) (e.items.drop (i + 1)))) (fun q _ => Y.length - (intOf q).toNat)
           case atStart => exact ⟨0, own1, mt, v1, sl1, ks1, by omega, rfl, ⟨h7, ht7, hE7, hf7⟩, hr⟩
           case round =>
            clear h7 ht7 hE7 hf7 ze2 hr
            obtain ⟨k, own7, mt7, v7, sl7, ks7, hk, rfl, hLS, hr⟩ := hrel
            obtain ⟨w7, hw7⟩ : ∃ w7 : World, w7 = wr := ⟨wr, rfl⟩
            subst hw7
            obtain ⟨h7, ht7, hE7, hf7⟩ := hLS
            have ze2 := hE7.cell (k := 2) rfl
            have zI := hcIn _ h7.below
            rcases Nat.lt_or_ge k Y.length with hlk | hgk
            ·have hkk : (k : Int) < (Y.length : Int) := by omega
             have hdY : Y.drop k = Y[k] :: Y.drop (k + 1) := List.drop_eq_getElem_cons hlk
             rw [hdY, putItems_cons] at hr
             obtain ⟨bk, ok', Ak, ck, Av, cv, hAi, hbk, c1, c2, s1, s2⟩ := hIA.get hlk
             subst hAi
             have hyk := hyo _ (List.getElem_mem hlk)
             generalize Y[k] = y at *
             have hbw7 := h7.below
             have hm7 : mt7.1.length ≤ 1000000 := by
              have q1 := madeSum_le mt7.2 ht7.ok
              have q2 := ht7.few
              omega
             have hb7 := hbw7.drew
             have hput := rput9z (ht7.below (Below.refl w7.heap.size w7).drew) (h7.memIn.below (Below.refl w7.heap.size w7).drew) hm7 i y.key y.val 0 hyk.key hyk.val w.heap.size hbw7.size Ak Av ck cv (s1.below hb7) (s2.below hb7) (fun h0 b o f g => by
              obtain ⟨b', o', f', hb, -⟩ := s1.2 h0
              rw [f] at f'; cases f'
              obtain ⟨r, g2, -⟩ := g
              rw [h7.low b hb] at g2; cases g2) (fun h0 b o f g => by
              obtain ⟨b', o', f', hb, -⟩ := s2.2 h0
              rw [f] at f'; cases f'
              obtain ⟨r, g2, -⟩ := g
              rw [h7.low b hb] at g2; cases g2)
             have hfewn := putM_few mt7.1 mt7.2 i y.key y.val 0 hf7
             have z1 := (hb7.cell (p := ⟨bk, ok' + k * 2, none⟩) hbk).trans c1
             have z2 := (hb7.cell (p := ⟨bk, ok' + k * 2 + 1, none⟩) hbk).trans c2
             have z3 : w7.drew.cell? ⟨w.heap.size, 2, none⟩ = some (.slice (some ⟨bI, oI, none⟩) e.items.length cI) := ze2
             have z4 := hcIn _ hb7
             have hnk : ∀ b, own7 b = none → ¬ own7.memTab b := fun b f g => by obtain ⟨r, g2, -⟩ := g; rw [f] at g2; cases g2
             have hnb := h7.low bk hbk
             have hnI := h7.low bI hbI
             have hnE := h7.efree
             have hlk7 : bk < w7.heap.size := Nat.lt_of_lt_of_le hbk hbw7.size
             have hlI7 : bI < w7.heap.size := Nat.lt_of_lt_of_le hbI hbw7.size
             have hlE7 := h7.elt
             unfold TurnOk at hput
             have HJ := Lib.hid (And.intro h7 (And.intro hE7 (And.intro hfewn hr)))
             clear h7 ht7 hE7 hf7 hr hfewn hdY c1 c2 s1 s2
             generalize hP : putM mt7.1 mt7.2 i y.key y.val 0 = P at *
             clear hP
             go_upto_region 17 with fail
             clear ze2 zI
             go_region_held3 (fun w' => w'.cell? ⟨bk, ok' + k * 2, none⟩ = some (.slice Ak y.key.length ck) ∧ w'.cell? ⟨bk, ok' + k * 2 + 1, none⟩ = some (.slice Av y.val.length cv) ∧ w'.cell? ⟨w.heap.size, 2, none⟩ = some (.slice (some ⟨bI, oI, none⟩) e.items.length cI) ∧ w'.cell? ⟨bI, oI + i, none⟩ = some (.slice (some ⟨bk, ok', none⟩) Y.length ci))
              (first | assumption | exact ⟨z1, z2, z3, z4⟩ | exact h8c)
              (first | (go_at_call 16; refine hput.mono ?_; rintro en w8 ⟨rfl, own8, v8, sl8, ks8, ho8, ht8, hm8, hk8⟩; have h8c : w8.cell? ⟨bk, ok' + k * 2, none⟩ = some (.slice Ak y.key.length ck) ∧ w8.cell? ⟨bk, ok' + k * 2 + 1, none⟩ = some (.slice Av y.val.length cv) ∧ w8.cell? ⟨w.heap.size, 2, none⟩ = some (.slice (some ⟨bI, oI, none⟩) e.items.length cI) ∧ w8.cell? ⟨bI, oI + i, none⟩ = some (.slice (some ⟨bk, ok', none⟩) Y.length ci) := ⟨(hk8.cell hlk7 (hnk bk hnb)).trans z1, (hk8.cell hlk7 (hnk bk hnb)).trans z2, (hk8.cell hlE7 (hnk _ hnE)).trans z3, (hk8.cell hlI7 (hnk bI hnI)).trans z4⟩))
             all_goals
              clear z1 z2 z3 z4 h8c hput
              obtain ⟨h7, hE7, hfewn, hr⟩ := HJ.out
              have hk78 : Kept (fun b => own7 b ≠ none) w7 w8 := Kept.trans (w1 := w7.drew) (X' := own7.memTab) Kept.refl.drew hk8 (fun b _ f => by obtain ⟨r, f2, -⟩ := f; simp [f2])
              generalize hO9 : ((fun b => if b < w8.heap.size then own8 b else none) : Own) = own9
              have ho9 : ∀ b, b < w8.heap.size → own9 b = own8 b := fun b hb => by rw [← hO9]; exact if_pos hb
              have hf9 : ∀ b, w8.heap.size ≤ b → own9 b = none := fun b hb => by rw [← hO9]; exact if_neg (by omega)
              have hm9 := hm8.kept (Kept.refl (X := fun _ => False)) ho9 (fun _ _ _ _ => id)
              have ht9 := ht8.kept (Kept.refl (X := fun _ => False)) ho9 (fun _ _ _ _ => id)
              have h9 := h7.turn (own2 := own9) (wn := w8) (fun b hb => (ho9 b (Nat.lt_of_lt_of_le hb hk78.size)).trans (ho8 b hb)) hf9 hk78 hm9
              have hE9 := hE7.kept hk78 (fun f => f hnE)
              have hb9 := h9.below
              by_cases p1 : P.2.2.1 = 0
              ·by_cases p2 : P.2.2.2 = 0
               ·have hr9 := hr.trans (congrArg (fun x => Option.bind x (putAll (i + 1) (e.items.drop (i + 1)))) (if_neg (fun f => by rcases f with f | f; exact f p1; exact f p2)))
                have HK := Lib.hid (And.intro (And.intro h9 (And.intro ht9 (And.intro hE9 hfewn))) hr9)
                have p1b : (P.2.2.1 != 0) = false := by simpa using p1
                have p2b : (P.2.2.2 != 0) = false := by simpa using p2
                clear h7 hE7 hfewn hr hk78 hO9 ho9 hf9 hm9 ht9 h9 hE9 hr9 hm8 ht8 hk8 ho8 p1 p2
                go_wp2_with fail
                go_roundw
                case rel => exact ⟨k + 1, own9, (P.1, P.2.1), v8, sl8, ks8, by omega, by go_num, HK.out.1, HK.out.2⟩
                all_goals (simp [intOf]; omega)
               ·have hr9 := hr.trans (congrArg (fun x => Option.bind x (putAll (i + 1) (e.items.drop (i + 1)))) (if_pos (.inr p2)))
                have HK := Lib.hid (show newM l e = none from by rw [HNW.out, hr9]; rfl)
                have p1b : (P.2.2.1 != 0) = false := by simpa using p1
                have p2b : (P.2.2.2 != 0) = true := by simpa using p2
                clear h7 hE7 hfewn hr hk78 hO9 ho9 hf9 hm9 ht9 h9 hE9 hr9 hm8 ht8 hk8 ho8 p1 p2
                go_wp2_with fail
                go_ret2
                exact New11Ok.none_ HK.out hb9
              ·have hr9 := hr.trans (congrArg (fun x => Option.bind x (putAll (i + 1) (e.items.drop (i + 1)))) (if_pos (.inl p1)))
               have HK := Lib.hid (show newM l e = none from by rw [HNW.out, hr9]; rfl)
               have p1b : (P.2.2.1 != 0) = true := by simpa using p1
               clear h7 hE7 hfewn hr hk78 hO9 ho9 hf9 hm9 ht9 h9 hE9 hr9 hm8 ht8 hk8 ho8 p1
               go_wp2_with fail
               go_ret2
               exact New11Ok.none_ HK.out hb9
            ·have hkk : ¬ (k : Int) < (Y.length : Int) := by omega
             have hdn : Y.drop k = [] := List.drop_of_length_le hgk
             rw [hdn] at hr
             have HJ := Lib.hid (And.intro (And.intro h7 (And.intro ht7 (And.intro hE7 hf7))) hr)
             clear h7 ht7 hE7 hf7 hr
             go_wp2_with fail
             go_roundw
             case rel => exact ⟨i + 1, own7, mt7, v7, sl7, ks7, by omega, by go_num, HJ.out.1, HJ.out.2⟩
             all_goals (simp [intOf]; omega)
          ·have hii : ¬ (i : Int) < (e.items.length : Int) := by omega
           have hdn : e.items.drop i = [] := List.drop_of_length_le hge
           rw [hdn] at hr
           have HJ := Lib.hid (And.intro (And.intro h7 (And.intro ht7 (And.intro hE7 hf7))) hr)
           clear h7 ht7 hE7 hf7 hr
           go_wp2_with fail
           go_meet
           case rel => exact ⟨rfl, rfl, own1, mt, v1, sl1, ks1, HJ.out.1, HJ.out.2⟩
        case rest =>
         obtain ⟨rfl, rfl, own1, mt, v1, sl1, ks1, hLS, rfl⟩ := hcut
         obtain ⟨h7, ht7, hE7, hf7⟩ := hLS
         obtain ⟨own9, g9, q1, q2, q3, q4, q5⟩ := h7.start ht7 HCODE.out HENV.out.defs heo.draws
         have hb7 := h7.below
         have q3w := h7.bw
         have hprog := HPR.out
         have hruns : Runs l (mch0M mt e) := ⟨hf7, by simp [mch0M], fun c hc => absurd hc (by simp [mch0M]), fun _ => ⟨⟨hf7, by simp [mch0M]⟩, by show e.draws.length ≤ 1000; omega, fun _ => ⟨by show 0 < l.length; have := hprog.pos; omega, rfl⟩⟩⟩
         have hset1 := rput11 q3 1 (by decide) 4294967296 ⟨by decide, by decide⟩
         have hat1 : ∀ w, Calls Try.prog 18 #[.int .i64 1, .int .i64 0] w fun e w' => e = .returned (.int .u64 4294967296) ∧ w' = w := fun w => rat8 1 0 (by decide) (by decide) (by decide) (by decide) w
         have hat2 : ∀ w, Calls Try.prog 18 #[.int .i64 2, .int .i64 512] w fun e w' => e = .returned (.int .u64 8589935104) ∧ w' = w := fun w => rat8 2 512 (by decide) (by decide) (by decide) (by decide) w
         have HK := Lib.hid (show newM l e = some (putR (putR (mch0M mt e) 1 4294967296) 10 8589935104) from by rw [HNW.out]; rfl)
         clear h7 ht7 hE7 hf7 q3 p24 f24 HL
         go_wp2_with fail
         refine (hat1 _).mono ?_
         rintro en w8 ⟨rfl, rfl⟩
         have hbw := q3w
         go_wp2_with fail
         refine hset1.mono ?_
         rintro en w9 ⟨rfl, hm9, hk9⟩
         have hset2 := rput11 hm9 10 (by decide) 8589935104 ⟨by decide, by decide⟩
         have hb9 : Below w.heap.size w w9 := hb7.trans (hk9.below (fun b f => by rw [f]; exact hbw) hb7.size)
         have hsz9 := hk9.size
         clear hset1 hm9 hk9
         go_wp2_with fail
         refine (hat2 _).mono ?_
         rintro en w9' ⟨rfl, rfl⟩
         go_wp2_with fail
         refine hset2.mono ?_
         rintro en w10 ⟨rfl, hm10, hk10⟩
         have hb10 : Below w.heap.size w w10 := hb9.trans (hk10.below (fun b f => by rw [f]; exact hbw) hb9.size)
         have HM := Lib.hid (And.intro hm10 (Nat.le_trans hsz9 hk10.size))
         clear hset2 hm10 hk10
         go_wp2_with fail
         go_ret2
         refine ⟨hb10, fun h => absurd h (by rw [HK.out]; simp), fun a ha => ?_⟩
         rw [HK.out] at ha
         cases ha
         refine ⟨Mb, own9, g9, rfl, q1, fun b hb => q2 b (Nat.le_trans HM.out.2 hb), HM.out.1, ⟨hruns.mem, hruns.calls, hruns.ok, fun h => ?_⟩, q4, q5⟩
         have hl1 := hruns.live rfl
         exact ⟨⟨hl1.few.mem, hl1.few.calls⟩, hl1.draws, fun h2 => ⟨(hl1.stands rfl).at_, (hl1.stands rfl).start⟩⟩
 ·have hkb : (ck != 0) = true := by simpa using hk
  have HN := Lib.hid (newM_bad (.inl (HB0.out.2 (.inl hk))))
  clear hcode he
  go_wp2_with fail
  go_ret2
  exact New11Ok.none_ HN.out hbw1
end
end Go.Proofs.Ytncogaikiceidaa
