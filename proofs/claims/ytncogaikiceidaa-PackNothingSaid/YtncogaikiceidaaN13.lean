/- Put, its last arm. No statement is proved here. -/
import Derived.Test.YtncogaikiceidaaN12
import Derived.BigQuiet
section
namespace Go.Proofs.Ytncogaikiceidaa
open Go.RowKit
set_option linter.unusedSimpArgs false
set_option linter.unusedVariables false
set_option linter.unnecessarySimpa false
section
theorem keys_sat {own' : Own} {r : Role} {w w' : World} {gk nl c : Nat} {l : List KeyM} (h : RowIn own' r w 106 2 (.slice (some ⟨gk, 0, none⟩) nl c) nl (keysV l)) (hl : l.length = nl) (j : Nat) (hj : j ≤ nl) (hb : Below w.heap.size w w') :
    SAt w' w.heap.size 2 (some ⟨gk, j * 2, none⟩) (nl - j) (keysV (l.drop j)) ∧ SAt w' w.heap.size 2 (some ⟨gk, 0, none⟩) j (keysV (l.take j)) := by
  refine ⟨⟨by rw [keysV_length, List.length_drop, hl], fun hn => ?_⟩, ⟨by rw [keysV_length, List.length_take, hl, Nat.min_eq_left hj], fun hn => ?_⟩⟩
  · obtain ⟨g, c', hv, hg, -, hc⟩ := h.get (by omega)
    simp only [Value.slice.injEq, Option.some.injEq, Addr.mk.injEq, and_true, true_and] at hv
    obtain ⟨rfl, rfl⟩ := hv
    exact ⟨gk, j * 2, rfl, hg, fun q u hu => (hb.cell (p := ⟨gk, j * 2 + q, none⟩) hg).trans (hc _ _ (by rw [← keysV_drop]; exact hu))⟩
  · obtain ⟨g, c', hv, hg, -, hc⟩ := h.get (by omega)
    simp only [Value.slice.injEq, Option.some.injEq, Addr.mk.injEq, and_true, true_and] at hv
    obtain ⟨rfl, rfl⟩ := hv
    refine ⟨gk, 0, rfl, hg, fun q u hu => ?_⟩
    rw [Nat.zero_add]
    exact (hb.cell (p := ⟨gk, q, none⟩) hg).trans (hc _ _ (by rw [← keysV_take l j q (List.getElem?_eq_some_iff.1 hu).1]; exact hu))
end
section
theorem grown_refl (w : World) (o : Option Nat) : w.grownBy w o := ⟨rfl, rfl, rfl, Nat.le_refl _, fun _ _ _ => rfl⟩
/-- 'v = append(v, xs...)' as a step of a region that draws its order; what else there is stays. -/
theorem step_append_y {P : Program} {ops : Array Oper} {o : Oper} {a : Act} {K : Act → World → Prop} {Q : Exit → Act → World → Prop} {E : Prop} (hgd : o.guard = none) (s x : Operand) (t : TypeId)
    (ho : o.op = .call { callee := .builtin .append, args := #[s, x], argTypes := #[t, t] })
    (base : Nat) (e : TypeId) (i : TypeInfo) (z : Value) (size bytes : Nat) (ht : P.underlying t = some (.slice e)) (hi : P.info? e = some i) (hz : i.zero = some z)
    (hsize : i.size = size) (hby : i.bytes = bytes) (hzs : z.cells.size = size) (hsz : 0 < size)
    {w : World} (A : Option Addr) (n c : Nat) (xs : List Value) (hs : a.eval s = .slice A n c) (hown : w.ownsRow base e size (.slice A n c) n xs)
    (B : Nat) (Ax : Option Addr) (m cx : Nat) (news : List Value) (hx : a.eval x = .slice Ax m cx) (hat : SAt w B size Ax m news) (h1 : ∀ u ∈ news, u.oneCell' = true)
    (h63 : n + m ≤ maxLen) (hbytes : (n + m) * bytes ≤ 140737488355328) (hbase : base ≤ w.heap.size)
    (h : ∀ A' c' w1, w1.ownsRow base e size (.slice A' (n + m) c') (n + m) (xs ++ news) → w.grownBy w1 (Value.slice A n c).ownBlock →
      ((Value.slice A' (n + m) c').ownBlock = (Value.slice A n c).ownBlock ∨ (Value.slice A' (n + m) c').ownBlock = some w.heap.size) → K (a.put o.dst (.slice A' (n + m) c')) w1) :
    if Region.wanted o (yielded ops a.tmps) = true then Oper.wp P o a w K Q else E := by
  rcases Nat.eq_zero_or_pos m with hm | hm
  · have hw : Region.wanted o (yielded ops a.tmps) = true := by simp [Region.wanted, hgd]
    rw [if_pos hw]
    subst hm
    have hn : news = [] := List.eq_nil_of_length_eq_zero (by simpa using hat.1)
    subst hn
    have hrun : (Builtin.append_ #[t, t] o.type #[.slice A n c, .slice Ax 0 cx]).run P w = .ok (.slice A n c) w := by
      rcases hown.2 with ⟨hv, rfl⟩ | ⟨g, cap, cur, hv, _, _, hnc, _⟩
      · injection hv with hA _ hc
        subst hA hc
        cases Ax <;> simp [Builtin.append_, run_underlying ht, sizeOf, typeInfo, hi, Builtin.lenOf, Builtin.firstCells, loadCells, loadCellsFrom]
      · injection hv with hA _ hc
        subst hA hc
        cases Ax <;> simp [Builtin.append_, run_underlying ht, sizeOf, typeInfo, hi, Builtin.lenOf, Builtin.firstCells, hnc, storeCells, loadCells, loadCellsFrom]
    unfold Oper.wp execOp
    simp only [ho, resolve, invoke, builtin, Sem.run_bind, Sem.run_pure, Result.andThen_ok, List.map_toArray, List.map_cons, List.map_nil, hs, hx, hrun]
    exact h A c w (by simpa using hown) (grown_refl _ _) (.inl rfl)
  · exact step_append_x hgd s x t ho base e i z size bytes ht hi hz hsize hby hzs hsz A n c xs hs hown B Ax m cx news hx hat hm h1 h63 hbytes hbase h
theorem sat_grown {w w1 : World} {B size n b o : Nat} {r : Option Nat} {xs : List Value} (h : SAt w B size (some ⟨b, o, none⟩) n xs) (hB : b < w.heap.size) (hg : w.grownBy w1 r) (hr : some b ≠ r) : SAt w1 B size (some ⟨b, o, none⟩) n xs := by
  refine ⟨h.1, fun hn => ?_⟩
  obtain ⟨b', o', e, hb, hc⟩ := h.2 hn
  simp only [Option.some.injEq, Addr.mk.injEq, and_true] at e
  obtain ⟨rfl, rfl⟩ := e
  refine ⟨b, o, rfl, hb, fun j u hu => ?_⟩
  rw [World.cell?_of_block (a := ⟨b, o + j, none⟩) (hg.block b hB hr)]
  exact hc j u hu
end
section
theorem put_fin {own' : Own} {w3 w8 : World} {pt pm g cv k : Nat} {ks : Nat → Value} {t : List MapM} {v' : Value} {sl' : Nat → Value × Value} {mem' : List AreaM} (hT3 : TabIn own' w3 pt pm (.slice (some ⟨g, 0, none⟩) t.length cv) ks t) (hM3 : MemIn own' w3 pm v' sl' mem') (hk : k < t.length) (k10 : Below w3.heap.size w3 w8)
    (LN : List KeyM) (hf : LN.length ≤ 16) (hs : ∀ y ∈ LN, 0 ≤ y.slot ∧ y.slot < 1024) (hy : ∀ y ∈ LN, BytesOk y.k) (md : Int) (h0 : 0 ≤ md) (h1 : md < 1024) (hmd : t[k].made = md) (A8 : Option Addr) (c8 N : Nat) (hN : LN.length = N) (ho8 : w8.ownsRow w3.heap.size 106 2 (.slice A8 N c8) N (keysV LN)) :
    ∃ own'' ks', (∀ b, b < w3.heap.size → own'' b = own' b) ∧ TabIn own'' ((w8.setCell ⟨g, k * 6 + 4, none⟩ (.slice A8 N c8)).setCell ⟨g, k * 6 + 5, none⟩ (.int .i64 (md + 1))) pt pm (.slice (some ⟨g, 0, none⟩) t.length cv) ks' (t.set k { t[k] with l := LN, made := md + 1 }) ∧
      MemIn own'' ((w8.setCell ⟨g, k * 6 + 4, none⟩ (.slice A8 N c8)).setCell ⟨g, k * 6 + 5, none⟩ (.int .i64 (md + 1))) pm v' sl' mem' ∧ Kept (fun b => b = g) w3 ((w8.setCell ⟨g, k * 6 + 4, none⟩ (.slice A8 N c8)).setCell ⟨g, k * 6 + 5, none⟩ (.int .i64 (md + 1))) := by
  subst hN
  have hok := hT3.ok _ (List.getElem_mem hk)
  have hgr := hT3.row.role g rfl
  have hgl := (hT3.row.row.lt g rfl).2
  generalize hO : (fun b => if b < w3.heap.size then own' b else if (Value.slice A8 LN.length c8).ownBlock = some b then some (Role.keys k) else none) = O
  have ho : ∀ b, b < w3.heap.size → O b = own' b := fun b hb => by rw [← hO]; exact if_pos hb
  have hK8 := Kept.of (X := fun _ => False) k10 (Nat.le_refl _)
  have hT8 := hT3.kept hK8 ho (fun _ _ _ _ => id)
  have hM8 := hM3.kept hK8 ho (fun _ _ _ _ => id)
  have hgr8 : O g = some .maps := by rw [ho g hgl]; exact hgr
  have hrow : RowIn O (.keys k) w8 106 2 ((fun q => if q = k then Value.slice A8 LN.length c8 else ks q) k) LN.length (keysV LN) := by
    simp only [if_true]
    refine ⟨own_mono (Nat.zero_le _) ho8, fun b hb => ?_⟩
    have := (ho8.lt b hb).1
    rw [← hO]
    show (if b < w3.heap.size then own' b else _) = _
    rw [if_neg (by omega), if_pos hb]
  have s1 := hT8.set1 (ks' := fun q => if q = k then Value.slice A8 LN.length c8 else ks q) hk rfl 4 (by omega) (.slice A8 LN.length c8) { t[k] with l := LN } ⟨hok.d, hf, hok.made0, hok.made, hs, hy⟩ (fun q hq => if_neg hq) (by simp [mapCells]) hrow
  obtain ⟨hT9, hk9⟩ := s1
  have hk' : k < (t.set k { t[k] with l := LN }).length := by rw [List.length_set]; exact hk
  have hv : (Value.slice (some ⟨g, 0, none⟩) t.length cv : Value) = .slice (some ⟨g, 0, none⟩) (t.set k { t[k] with l := LN }).length cv := by rw [List.length_set]
  have hget : (t.set k { t[k] with l := LN })[k] = { t[k] with l := LN } := List.getElem_set_self _
  have hrow9 := hT9.keys k hk'
  rw [hget] at hrow9
  have s2 := hT9.set1 (ks' := fun q => if q = k then Value.slice A8 LN.length c8 else ks q) hk' hv 5 (by omega) (.int .i64 (md + 1)) { t[k] with l := LN, made := md + 1 } ⟨hok.d, hf, by show 0 ≤ md + 1; omega, by show md + 1 ≤ 1024; omega, hs, hy⟩ (fun q hq => rfl) (by rw [hget]; simp [mapCells]) hrow9
  obtain ⟨hT10, hk11⟩ := s2
  rw [List.set_set] at hT10
  have hx : ∀ b r, O b = some r → r.isMem → ¬ b = g := fun b r hb hr e => by subst e; rw [hgr8] at hb; cases hb; exact hr
  exact ⟨O, _, ho, hT10, (hM8.kept hk9 (fun _ _ => rfl) hx).kept hk11 (fun _ _ => rfl) hx, ((Kept.refl (X := fun b => b = g)).trans hK8 (fun _ _ h => h.elim)).trans (hk9.trans hk11 (fun _ _ h => h)) (fun _ _ h => h)⟩
end
section
set_option maxRecDepth 100000 in
set_option maxHeartbeats 8000000 in
theorem rput99 {own : Own} {w : World} {pt pm : Nat} {v vm : Value} {ks : Nat → Value} {sl : Nat → Value × Value} {mem : List AreaM} {t : List MapM} (h : TabIn own w pt pm v ks t) (hm : MemIn own w pm vm sl mem) (hn : mem.length ≤ 1000000)
    (k : Nat) (hk : k < t.length) (key val : List Int) (flags : Int) (hmy : mayM t k key = true) (hvl : (val.length : Int) = t[k].d.val) (hkey : BytesOk key) (B : Nat) (hB : B ≤ w.heap.size) (A A2 : Option Addr) (c c2 : Nat) (hat : SAt w B 1 A key.length (bytesV key)) (hfar : ∀ b, w.heap.size ≤ b → own b = none) (f1 : ¬ 2 < flags) (f1b : ¬ flags = 2) (f2 : findK t[k].l key < 0) (f3 : t[k].d.hash = true) (f4 : ¬ t[k].d.max ≤ t[k].l.length) (f5 : ¬ 1024 ≤ t[k].made) (hval : BytesOk val) (hat2 : SAt w B 1 A2 val.length (bytesV val)) (hA2 : ∀ b o, A2 = some ⟨b, o, none⟩ → ¬ own.memTab b) (hA : ∀ b o, A = some ⟨b, o, none⟩ → ¬ own.memTab b) (f6 : (makeM mem (slotArea k t[k].made) val false false).2 = 0) :
    Calls Try.prog 16 #[.pointer (some ⟨pt, 0, none⟩), .int .i64 k, .slice A key.length c, .slice A2 val.length c2, .int .u64 flags] w (TurnOk own w pt pm v (putM mem t k key val flags)) := by
  have hT := fun w' (hb : Below w.heap.size w w') => h.below hb
  have hM := fun w' (hb : Below w.heap.size w w') => hm.below hb
  have hmay := fun w' (hb : Below w.heap.size w w') => rmay9 (h.below hb) k key A c
  rw [hmy] at hmay
  have hfi := fun w' (hb : Below w.heap.size w w') => rfind9 (h.below hb) k hk key hkey B (Nat.le_trans hB hb.size) A c (hat.below (hb.mono hB))
  have hR0 := put_eq mem t k key val flags hk hmy hvl
  obtain ⟨g, cv, rfl, hcs⟩ := mapAt_cells h hk
  obtain ⟨Ak, ck, hks⟩ := (h.keys k hk).slice
  rw [hks] at hcs
  have hfw := h.few
  have hki : (k : Int) < (t.length : Int) := by omega
  have hrf := Below.refl w.heap.size w
  have hvb : ((val.length : Int) != t[k].d.val) = false := by simpa using hvl
  unfold TurnOk
  rw [hR0]
  rw [if_neg f1, if_neg (by rw [f3]; simp), if_neg (by omega), if_neg (by omega), if_neg f1b, if_neg f4, if_neg f5, if_neg (by rw [f6]; simp)]
  have f2b : ¬ 0 ≤ findK t[k].l key := by omega
  have f1c : (flags == 2) = false := by simpa using f1b
  have hmd0 := (h.ok _ (List.getElem_mem hk)).made0
  have hv64 : val.length ≤ 64 := by have := (defOk_val (h.ok _ (List.getElem_mem hk)).d).2.1; omega
  have hsl := fun w' => rslot9 k t[k].made (by omega) (by omega) hmd0 (by omega) w'
  have hsb : 1 ≤ slotArea k t[k].made ∧ slotArea k t[k].made < 2147483648 := by simp only [slotArea]; omega
  have hmk := fun w' (hb : Below w.heap.size w w') => rmake8 (hm.below hb) hn (slotArea k t[k].made) hsb.1 hsb.2 A2 c2 val hval (by omega) false false B (Nat.le_trans hB hb.size) (hat2.below (hb.mono hB))
  have hTk := fun w' (own' : Own) (ho : ∀ b, b < w.heap.size → own' b = own b) (hk : Kept (fun b => own b = some .mem ∨ own b = some .areas) w w') => h.kept hk ho (fun b r hb hr => by rintro (e | e) <;> rw [hb] at e <;> cases e <;> exact hr)
  have hat3 := fun w' (hk : Kept (fun b => own b = some .mem ∨ own b = some .areas) w w') => hat.keep hB hk (fun b o e => by rintro (e2 | e2); exact hA b o e ⟨_, e2, .inl trivial⟩; exact hA b o e ⟨_, e2, .inl trivial⟩)
  have hok := h.ok _ (List.getElem_mem hk)
  have hfk := hok.few
  have hko := hok.key
  have hPL := putPos_le t[k].l key
  have hsl0 := hok.slot
  have hokd := hok.d
  have hnl16 : t[k].l.length + 1 ≤ 16 := by have := (defOk_val hokd).2.2.2; omega
  have hgr := h.row.role g rfl
  have hrow0 := h.row.row
  have hgl := (hrow0.lt g rfl).2
  have hptr := h.role
  have hptl := h.blk.lt
  generalize slotArea k t[k].made = sa at *
  generalize hMK : makeM mem sa val false false = MK at *
  clear hR0 h hat
  generalize t[k].d.hash = dh at *
  generalize t[k].d.key = dk at *
  generalize t[k].d.val = dv at *
  generalize t[k].d.max = dm at *
  generalize hmdk : t[k].made = md at *
  generalize hnl : t[k].l.length = nl at *
  generalize findK t[k].l key = s at *
  subst f3
  go_enter Try.func16, Try.ntmps16
  go_wp2_with fail
  refine (hmay _ hrf).mono ?_
  rintro e w1 ⟨rfl, rfl⟩
  obtain ⟨z0, z1, z2, z3, z4, z5, z6, z7⟩ := hcs _ hrf
  go_wp2_with fail
  refine (hfi _ hrf).mono ?_
  rintro e w2 ⟨rfl, hb2⟩
  clear z0 z1 z2 z3 z4 z5 z6 z7
  obtain ⟨z0, z1, z2, z3, z4, z5, z6, z7⟩ := hcs _ hb2
  have hbW := hb2.alloc hb2.size (.cells #[.bool true, .int .i64 dk, .int .i64 dv, .int .i64 dm, .slice Ak nl ck, .int .i64 md] 103)
  have hXf : own w2.heap.size = none := hfar _ hb2.size
  have hXlt : w2.heap.size < (w2.alloc (.cells #[.bool true, .int .i64 dk, .int .i64 dv, .int .i64 dm, .slice Ak nl ck, .int .i64 md] 103)).heap.size := by simp
  have hXc4 := boxc (heap_alloc_new w2 (.cells #[.bool true, .int .i64 dk, .int .i64 dv, .int .i64 dm, .slice Ak nl ck, .int .i64 md] 103)) (k := 4) (u := .slice Ak nl ck) rfl
  have hXc5 := boxc (heap_alloc_new w2 (.cells #[.bool true, .int .i64 dk, .int .i64 dv, .int .i64 dm, .slice Ak nl ck, .int .i64 md] 103)) (k := 5) (u := .int .i64 md) rfl
  generalize hX : w2.heap.size = X at *
  go_upto_region 20 with fail
  generalize hW : w2.alloc (.cells #[.bool true, .int .i64 dk, .int .i64 dv, .int .i64 dm, .slice Ak nl ck, .int .i64 md] 103) = W at *
  clear hW
  have hbt := hbW.drew
  have hrW := (Below.refl W.heap.size W).drew
  have y5 := hXc5 _ hrW
  obtain ⟨z0, z1, z2, z3, z4, z5, z6, z7⟩ := hcs _ hbt
  clear hb2
  refine wp_region_still_tail 9 (by kernel_rfl) (by kernel_rfl) ?_
  simp only [List.take_succ_cons, List.take_zero, List.drop_succ_cons, List.drop_zero]
  change wpStill _ _ W.drew _ _ _
  repeat (first | still_step | still_call (hsl _))
  refine wpStill_nil ?_
  change wpList _ _ _ _ _ W.drew
  clear z0 z1 z2 z3 z4 z5 z6 z7 y5
  have hVX : X < W.drew.heap.size := hXlt
  generalize hVe : W.drew = V at *
  go_wp2_with fail
  refine (hmk _ hbt).mono ?_
  rintro e w3 ⟨rfl, own', v', sl', ho, hM3, hk3⟩
  have hk3w : Kept (fun b => own b = some .mem ∨ own b = some .areas) w1 w3 := (Kept.of hbt (Nat.le_refl _)).trans hk3 (fun _ _ h => h)
  have how : ∀ b, b < w1.heap.size → own' b = own b := fun b hb => ho b (Nat.lt_of_lt_of_le hb hbt.size)
  have hT3 := hTk _ own' how hk3w
  have hK := (Kept.refl (X := own.memTab)).trans hk3w (fun _ _ h => by rcases h with e | e; exact ⟨_, e, .inl trivial⟩; exact ⟨_, e, .inl trivial⟩)
  have hat4 := hat3 _ hk3w
  have hXn : ¬ (own X = some .mem ∨ own X = some .areas) := by rw [hXf]; simp
  have y4 : ∀ w', Below w3.heap.size w3 w' → w'.cell? ⟨X, 4, none⟩ = some (.slice Ak nl ck) := fun w' hb => (hb.cell (p := ⟨X, 4, none⟩) (Nat.lt_of_lt_of_le hVX hk3.size)).trans ((hk3.cell hVX hXn).trans (hXc4 _ hrW))
  have y5 : ∀ w', Below w3.heap.size w3 w' → w'.cell? ⟨X, 5, none⟩ = some (.int .i64 md) := fun w' hb => (hb.cell (p := ⟨X, 5, none⟩) (Nat.lt_of_lt_of_le hVX hk3.size)).trans ((hk3.cell hVX hXn).trans (hXc5 _ hrW))
  have hst : ∀ w', Below w3.heap.size w3 w' → (convert 23 9 (.slice A key.length c)).run Try.prog w' = .ok (.string (strOfNums key)) w' := fun w' hb => run_string_sat key (hat4.below (hb.mono (Nat.le_trans hB hk3w.size))) 23 9 5 rfl rfl rfl
  have hrow := hT3.keys k hk
  rw [hks, hnl] at hrow
  have hF := Lib.hid (And.intro how (And.intro hT3 (And.intro hM3 (And.intro hK hnl))))
  have hrest := Lib.hid (And.intro hok hfk)
  clear hT3 hM3 hK how hTk hmk hT hM hcs hfi hmay hat3 hXc4 hXc5 hsl hok hk3w hk3 ho hbt hrW hbW hmy hvl hks hat4 hat2 hsl0
  have hr3 := Below.refl w3.heap.size w3
  have hnl16 : nl + 1 ≤ 16 := hnl16
  have HMD := Lib.hid hmdk
  clear hmdk
  generalize hlk : t[k].l = l at *
  have HLK := Lib.hid hlk
  clear hlk
  have hkb : ∀ x ∈ key, isByte x := fun x hx => hkey x hx
  have hob := hrow.row
  clear z0 z1 z2 z3 z4 z5 z6 z7 hrf
  go_wp2_with fail
  go_loopw [15] (fun q wr => ∃ j : Nat, j ≤ nl ∧ q = .int .i64 j ∧ putPos l key = j + putPos (l.drop j) key ∧ Below w3.heap.size w3 wr) (fun q _ => nl - (intOf q).toNat)
  case atStart => exact ⟨0, by omega, rfl, by simp, hr3⟩
  case round =>
    obtain ⟨j, hj, rfl, he, hbr⟩ := hrel
    have d4 := fun nq => y4 _ (below_drewN hbr nq)
    have hs := fun nq => hst _ (below_drewN hbr nq)
    rcases Nat.lt_or_ge j nl with hlt | hge
    · have hjl : j < l.length := by omega
      obtain ⟨gk, ck', hv, hgk, -, hck⟩ := hrow.get (by omega)
      simp only [Value.slice.injEq] at hv
      obtain ⟨rfl, -, rfl⟩ := hv
      have e0 := fun nq => ((below_drewN hbr nq).cell (p := ⟨gk, j * 2, none⟩) hgk).trans (hck _ _ (keysV_get l j hjl).1)
      have hsl := str_lt l[j].k key (fun x hx => by have := hko _ (List.getElem_mem hjl) x hx; exact this) hkb
      rw [← str_toList, ← str_toList] at hsl
      rw [List.drop_eq_getElem_cons hjl, putPos] at he
      have hd1 : decide ((j : Int) < (nl : Int)) = true := by simpa using hlt
      have hji : (j : Int) < (nl : Int) := by omega
      have HE := Lib.hid he
      clear he hck
      cases hx : lessB l[j].k key with
      | true =>
        rw [hx] at hsl
        go_upto_region 24 with fail
        go_quiet (fail)
        clear d4 hs e0
        rename_i nq
        have hbq := below_drewN hbr nq
        go_wp2_with fail
        go_roundw
        case rel => exact ⟨j + 1, by omega, by go_num, by rw [HE.out, if_pos hx]; omega, hbq⟩
        case measure => simp [intOf]; omega
      | false =>
        rw [hx] at hsl
        go_upto_region 24 with fail
        go_quiet (fail)
        clear d4 hs e0
        rename_i nq
        have hbq := below_drewN hbr nq
        have hP : putPos l key = j := by rw [HE.out, if_neg (by rw [hx]; decide)]; rfl
        go_upto_region 26 with fail
        have hks2 := fun w' (hb : Below w3.heap.size w3 w') => keys_sat hrow hnl j hj hb
        have hjc : j ≤ ck := Nat.le_trans hj (own_cap hob)
        have hjci : (j : Int) ≤ (ck : Int) := by omega
        have hjli : (j : Int) ≤ (nl : Int) := by omega
        have hcj : ¬ ck = j := by have := own_cap hob; omega
        have hst2 := fun w' hb => hst w' hb
        clear hlt hd1 hji hsl hx hrow hob hst
        generalize wr.drewN nq = V4 at *
        have hown0 : (V4.alloc (.cells #[] 106)).ownsRow w3.heap.size 106 2 (.slice (some ⟨V4.heap.size, 0, none⟩) 0 0) 0 [] := own_new V4 V4.heap.size #[] 106 2 0 0 w3.heap.size rfl hbq.size (Nat.le_refl _) (by decide) rfl
        have hb4 := hbq.alloc hbq.size (.cells #[] 106)
        have hat1 := (hks2 _ hb4).1
        have u4 := y4 _ hb4
        have u5 := y5 _ hb4
        obtain ⟨i6, hi6, hv0, hv1, hv2⟩ := info_parts info106
        go_wp2_with (at_builtin; refine wpList_append_sat rfl (.tmp 127) (.tmp 131) 101 rfl w3.heap.size 106 i6 (.agg #[.string ByteArray.empty, .int .i64 0]) 2 24 Try.underlying101 hi6 hv0 hv1 hv2 rfl (by decide) _ 0 0 _ rfl hown0 w3.heap.size _ _ _ _ rfl hat1 (keysV_ones _) ?c2 ?c3 ?c4 ?c5)
        case c2 => simp only [maxLen]; omega
        case c3 => omega
        case c4 => first | exact hb4.size | exact Nat.le_succ_of_le hbq.size | (simp; exact Nat.le_succ_of_le hbq.size) | exact hbq.size
        case c5 =>
          intro Ar cr w5 ho5 hg5 hb5 hor5
          replace hb5 : Below w3.heap.size w3 w5 := hb4.trans hb5
          have hz5 := hb5.size
          have hD := hb5.drew
          have ho5 : w5.ownsRow w3.heap.size 106 2 (.slice Ar (nl - j) cr) (nl - j) (keysV (l.drop j)) := ho5
          clear hown0 hat1 hor5 hg5 hb4 u4 u5
          go_upto_region 27 with fail
          have u1 : Below w5.heap.size w5 ((w5.alloc (.cells #[] 106)).drew) := ((Below.refl w5.heap.size w5).alloc (Nat.le_refl _) _).drew
          have u2 : Below w5.heap.size w5 (((w5.alloc (.cells #[] 106)).alloc (.cells #[.string (strOfNums key), .int .i64 md] 106)).drew) := (((Below.refl w5.heap.size w5).alloc (Nat.le_refl _) _).alloc (by simp) _).drew
          have u3 : Below w5.heap.size w5 (((w5.alloc (.cells #[.string (strOfNums key), .int .i64 md] 106)).alloc (.cells #[] 106)).drew) := (((Below.refl w5.heap.size w5).alloc (Nat.le_refl _) _).alloc (by simp) _).drew
          have o1 : ((w5.alloc (.cells #[] 106)).drew).ownsRow w5.heap.size 106 2 (.slice (some ⟨w5.heap.size, 0, none⟩) 0 0) 0 [] := own_new w5 w5.heap.size #[] 106 2 0 0 w5.heap.size rfl (Nat.le_refl _) (Nat.le_refl _) (by decide) rfl
          have o2 : (((w5.alloc (.cells #[] 106)).alloc (.cells #[.string (strOfNums key), .int .i64 md] 106)).drew).ownsRow w5.heap.size 106 2 (.slice (some ⟨w5.heap.size, 0, none⟩) 0 0) 0 [] := o1.alloc _
          have o3 : (((w5.alloc (.cells #[.string (strOfNums key), .int .i64 md] 106)).alloc (.cells #[] 106)).drew).ownsRow w5.heap.size 106 2 (.slice (some ⟨w5.heap.size + 1, 0, none⟩) 0 0) 0 [] := own_new (w5.alloc (.cells #[.string (strOfNums key), .int .i64 md] 106)) (w5.heap.size + 1) #[] 106 2 0 0 w5.heap.size (by simp) (Nat.le_succ _) (Nat.le_refl _) (by decide) rfl
          have s1 := (hks2 _ (hb5.trans (u1.mono hz5))).2
          have s2 := (hks2 _ (hb5.trans (u2.mono hz5))).2
          have s3 := (hks2 _ (hb5.trans (u3.mono hz5))).2
          have bx1 : ∀ w6 : World, SAt (w6.alloc (.cells #[.string (strOfNums key), .int .i64 md] 106)) (w6.heap.size + 1) 2 (some ⟨w6.heap.size, 0, none⟩) 1 [.string (strOfNums key), .int .i64 md] := fun w6 => sat_new w6 106 #[.string (strOfNums key), .int .i64 md] 2 1 rfl
          have bx2 : ∀ (w6 : World) (q : Nat), (((w5.alloc (.cells #[] 106)).alloc (.cells #[.string (strOfNums key), .int .i64 md] 106)).drew).grownBy w6 (Value.slice (some ⟨w5.heap.size, 0, none⟩) 0 q).ownBlock → SAt w6 (w5.heap.size + 2) 2 (some ⟨w5.heap.size + 1, 0, none⟩) 1 [.string (strOfNums key), .int .i64 md] := fun w6 q hg => by
            have hh := sat_new (w5.alloc (.cells #[] 106)) 106 #[.string (strOfNums key), .int .i64 md] 2 1 rfl
            have hz : (w5.alloc (.cells #[] 106)).heap.size = w5.heap.size + 1 := by simp
            rw [hz] at hh
            exact sat_grown (w := ((w5.alloc (.cells #[] 106)).alloc (.cells #[.string (strOfNums key), .int .i64 md] 106)).drew) (hh.below (Below.refl _ _).drew) (show w5.heap.size + 1 < ((w5.alloc (.cells #[] 106)).alloc (.cells #[.string (strOfNums key), .int .i64 md] 106)).heap.size by simp only [World.size_alloc]; omega) hg (by simp [Value.ownBlock])
          have bx3 : ∀ (w6 : World) (q : Nat), (((w5.alloc (.cells #[.string (strOfNums key), .int .i64 md] 106)).alloc (.cells #[] 106)).drew).grownBy w6 (Value.slice (some ⟨w5.heap.size + 1, 0, none⟩) 0 q).ownBlock → SAt w6 (w5.heap.size + 2) 2 (some ⟨w5.heap.size, 0, none⟩) 1 [.string (strOfNums key), .int .i64 md] := fun w6 q hg => by
            have hh := sat_new w5 106 #[.string (strOfNums key), .int .i64 md] 2 1 rfl
            have hb := hh.below (Below.alloc (Below.refl _ _) (by simp) (.cells #[] 106))
            exact (sat_grown (w := ((w5.alloc (.cells #[.string (strOfNums key), .int .i64 md] 106)).alloc (.cells #[] 106)).drew) (hb.below (Below.refl _ _).drew) (show w5.heap.size < ((w5.alloc (.cells #[.string (strOfNums key), .int .i64 md] 106)).alloc (.cells #[] 106)).heap.size by simp only [World.size_alloc]; omega) hg (by simp [Value.ownBlock])).more2 (by omega)
          have m63 : 0 + j ≤ maxLen := by simp only [maxLen]; omega
          have mby : (0 + j) * 24 ≤ 140737488355328 := by omega
          have m63b : j + 1 ≤ maxLen := by simp only [maxLen]; omega
          have mbyb : (j + 1) * 24 ≤ 140737488355328 := by omega
          have m63c : 0 + j + 1 ≤ maxLen := by rw [Nat.zero_add]; exact m63b
          have mbyc : (0 + j + 1) * 24 ≤ 140737488355328 := by rw [Nat.zero_add]; exact mbyb
          have z1 : w5.heap.size ≤ ((w5.alloc (.cells #[] 106)).drew).heap.size := u1.size
          have z2 : w5.heap.size ≤ (((w5.alloc (.cells #[] 106)).alloc (.cells #[.string (strOfNums key), .int .i64 md] 106)).drew).heap.size := u2.size
          have z3 : w5.heap.size ≤ (((w5.alloc (.cells #[.string (strOfNums key), .int .i64 md] 106)).alloc (.cells #[] 106)).drew).heap.size := u3.size
          have gg1 : ∀ (w6 : World) (r : Option Nat), ((w5.alloc (.cells #[] 106)).drew).grownBy w6 r → (∀ k, r = some k → w5.heap.size ≤ k) → Below w5.heap.size w5 w6 := fun w6 r hg hr => u1.trans (below_of_grown hg z1 hr)
          have gg2 : ∀ (w6 : World) (r : Option Nat), (((w5.alloc (.cells #[] 106)).alloc (.cells #[.string (strOfNums key), .int .i64 md] 106)).drew).grownBy w6 r → (∀ k, r = some k → w5.heap.size ≤ k) → Below w5.heap.size w5 w6 := fun w6 r hg hr => u2.trans (below_of_grown hg z2 hr)
          have gg3 : ∀ (w6 : World) (r : Option Nat), (((w5.alloc (.cells #[.string (strOfNums key), .int .i64 md] 106)).alloc (.cells #[] 106)).drew).grownBy w6 r → (∀ k, r = some k → w5.heap.size ≤ k) → Below w5.heap.size w5 w6 := fun w6 r hg hr => u3.trans (below_of_grown hg z3 hr)
          go_region_held3 (fun w' => Below w3.heap.size w3 w')
            (repeat (first | assumption | refine sbelow_drew ?_ | refine sbelow_alloc ?_ (Nat.le_refl _)))
            (first | (refine step_append_y rfl (.tmp 133) (.tmp 137) 101 rfl w5.heap.size 106 i6 (.agg #[.string ByteArray.empty, .int .i64 0]) 2 24 Try.underlying101 hi6 hv0 hv1 hv2 rfl (by decide) _ 0 0 [] rfl ?_ w3.heap.size (some ⟨gk, 0, none⟩) j ck (keysV (l.take j)) rfl ?_ (keysV_ones _) m63 mby ?_ ?_; (first | with_reducible exact o1 | with_reducible exact o2 | with_reducible exact o3); (first | with_reducible exact s1 | with_reducible exact s2 | with_reducible exact s3); (first | with_reducible exact z1 | with_reducible exact z2 | with_reducible exact z3); (intro A6 c6 w6 ho6r hg6 hor6; have ho6 : w6.ownsRow w5.heap.size 106 2 (.slice A6 j c6) j (keysV (l.take j)) := (by have hh := ho6r; rw [Nat.zero_add, List.nil_append] at hh; exact hh); have k5 : Below w5.heap.size w5 w6 := (by first | with_reducible exact gg1 _ _ hg6 (by intro k hk; simp [Value.ownBlock] at hk; omega) | with_reducible exact gg2 _ _ hg6 (by intro k hk; simp [Value.ownBlock] at hk; omega) | with_reducible exact gg3 _ _ hg6 (by intro k hk; simp [Value.ownBlock] at hk; omega)); have k6 := hb5.trans (k5.mono hz5))) | (refine step_append_y rfl (.tmp 138) (.tmp 144) 101 rfl w5.heap.size 106 i6 (.agg #[.string ByteArray.empty, .int .i64 0]) 2 24 Try.underlying101 hi6 hv0 hv1 hv2 rfl (by decide) A6 j c6 (keysV (l.take j)) rfl (ho6.alloc _) (w6.heap.size + 1) (some ⟨w6.heap.size, 0, none⟩) 1 1 [.string (strOfNums key), .int .i64 md] rfl (bx1 w6) (keysV_ones [⟨key, md⟩]) m63b mbyb (Nat.le_trans k5.size (by simp)) ?_; intro A7 c7 w7 ho7 hg7 hor7; have k7 : Below w3.heap.size w3 w7 := (k6.alloc (Nat.le_trans hz5 k5.size) _).trans (below_of_grown hg7 (Nat.le_trans hz5 (Nat.le_trans k5.size (by simp))) (fun k hk => Nat.le_trans hz5 (ho6.lt k hk).1)); have k8 : Below w5.heap.size w5 w7 := (k5.alloc k5.size _).trans (below_of_grown hg7 (Nat.le_trans k5.size (by simp)) (fun k hk => (ho6.lt k hk).1)); have ho7n : w7.ownsRow w5.heap.size 106 2 (.slice A7 (j + 1) c7) (j + 1) (keysV (l.take j ++ [⟨key, md⟩])) := (by have hh := ho7; rw [keysV_append]; exact hh)) | (refine step_append_y rfl (.tmp 138) (.tmp 144) 101 rfl w5.heap.size 106 i6 (.agg #[.string ByteArray.empty, .int .i64 0]) 2 24 Try.underlying101 hi6 hv0 hv1 hv2 rfl (by decide) A6 (0 + j) c6 ([] ++ keysV (l.take j)) rfl ho6r (w5.heap.size + 2) _ 1 1 [.string (strOfNums key), .int .i64 md] rfl ?_ (keysV_ones [⟨key, md⟩]) m63c mbyc k5.size ?_; (first | with_reducible exact bx2 _ _ hg6 | with_reducible exact bx3 _ _ hg6); (intro A7 c7 w7 ho7 hg7 hor7; have k7 : Below w3.heap.size w3 w7 := k6.trans (below_of_grown hg7 (Nat.le_trans hz5 k5.size) (fun k hk => Nat.le_trans hz5 (ho6r.lt k hk).1)); have k8 : Below w5.heap.size w5 w7 := k5.trans (below_of_grown hg7 k5.size (fun k hk => (ho6r.lt k hk).1)); have ho7n : w7.ownsRow w5.heap.size 106 2 (.slice A7 (j + 1) c7) (j + 1) (keysV (l.take j ++ [⟨key, md⟩])) := (by have hh := ho7; rw [Nat.zero_add, List.nil_append] at hh; rw [keysV_append]; exact hh))))
          all_goals
            clear o1 o2 o3 s1 s2 s3 u1 u2 u3 gg1 gg2 gg3 bx1 bx2 bx3 z1 z2 z3
            have k8d : Below w5.heap.size w5 w7.drew := k8.drew
            have k7d := k7.drew
            have HP := Lib.hid hP
            have hT3 := hF.out.2.1
            obtain ⟨gx, cx, hvx, hcsT⟩ := mapAt_cells hT3 hk
            simp only [Value.slice.injEq, Option.some.injEq, Addr.mk.injEq, and_true, true_and] at hvx
            obtain ⟨rfl, rfl⟩ := hvx
            have hfz : ∀ w', Below w3.heap.size w3 w' → ∀ q, w'.frozen? ⟨g, q, none⟩ = false := fun w' hb q => by
              have := (own_kept (X := fun _ => False) hT3.row.row (Kept.of hb (Nat.le_refl _)) (fun _ _ => id)).frozenAt q
              simpa using this
            have hpg : g ≠ pt := fun e => by
              have h1 := hT3.row.role g rfl
              have h2 := hT3.role
              rw [e] at h1; rw [h1] at h2; cases h2
            have r7 : SAt w7.drew w5.heap.size 2 Ar (nl - j) (keysV (l.drop j)) := (own_sat ho5).below k8d
            have o7 : w7.drew.ownsRow w5.heap.size 106 2 (.slice A7 (j + 1) c7) (j + 1) (keysV (l.take j ++ [⟨key, md⟩])) := ho7n
            have n63 : j + 1 + (nl - j) ≤ maxLen := by simp only [maxLen]; omega
            have nby : (j + 1 + (nl - j)) * 24 ≤ 140737488355328 := by omega
            have hS7 : w7.cell? ⟨pt, 1, none⟩ = some (.slice (some ⟨g, 0, none⟩) t.length cv) := (hcsT _ k7).2.1
            have hS7d : w7.drew.cell? ⟨pt, 1, none⟩ = some (.slice (some ⟨g, 0, none⟩) t.length cv) := (hcsT _ k7d).2.1
            clear hT3 ho7 ho7n hg7 hor7 hP k7
            go_upto_region 28 with fail
            go_region_held3 (fun w' => w'.cell? ⟨pt, 1, none⟩ = some (.slice (some ⟨g, 0, none⟩) t.length cv))
              (first | assumption | exact (World.cell?_setCell_far _ _ _ _ hpg).trans hS8)
              (first | (refine step_append_y rfl (.tmp 151) (.tmp 152) 101 rfl w5.heap.size 106 i6 (.agg #[.string ByteArray.empty, .int .i64 0]) 2 24 Try.underlying101 hi6 hv0 hv1 hv2 rfl (by decide) A7 (j + 1) c7 (keysV (l.take j ++ [⟨key, md⟩])) rfl o7 w5.heap.size Ar (nl - j) cr (keysV (l.drop j)) rfl r7 (keysV_ones _) n63 nby k8d.size ?_; (intro A8 c8 w8 ho8 hg8 hor8; have k9 : Below w5.heap.size w5 w8 := k8d.trans (below_of_grown hg8 k8d.size (fun k hk => (o7.lt k hk).1)); have k10 : Below w3.heap.size w3 w8 := hb5.trans (k9.mono hz5); have hc8 := hcsT w8 k10; have z6 : w8.cell? ⟨g, k * 6 + 4, none⟩ = some (ks k) := hc8.2.2.2.2.2.2.1; have z7 : w8.cell? ⟨g, k * 6 + 5, none⟩ = some (.int .i64 md) := (by have hh := hc8.2.2.2.2.2.2.2; rw [HMD.out] at hh; exact hh); have hS8 : w8.cell? ⟨pt, 1, none⟩ = some (.slice (some ⟨g, 0, none⟩) t.length cv) := hc8.2.1; have fz4 := hfz w8 k10 (k * 6 + 4); have fz5 := hfz w8 k10 (k * 6 + 5))))
            all_goals
              have hLN : keysV (l.take j ++ [⟨key, md⟩] ++ l.drop j) = keysV (l.take j ++ [⟨key, md⟩]) ++ keysV (l.drop j) := keysV_append _ _
              have hll : l.length = nl := hF.out.2.2.2.2
              have hlen : (l.take j ++ [(⟨key, md⟩ : KeyM)] ++ l.drop j).length = j + 1 + (nl - j) := by simp [hll]; omega
              have hmem : ∀ y ∈ l.take j ++ [(⟨key, md⟩ : KeyM)] ++ l.drop j, y ∈ l ∨ y = ⟨key, md⟩ := fun y hy => by
                simp only [List.mem_append, List.mem_singleton] at hy
                rcases hy with (hy | hy) | hy
                · exact .inl (List.mem_of_mem_take hy)
                · exact .inr hy
                · exact .inl (List.mem_of_mem_drop hy)
              have hfin := put_fin (w8 := w8) hF.out.2.1 hF.out.2.2.1 hk k10 (l.take j ++ [⟨key, md⟩] ++ l.drop j) (by rw [hlen]; omega) (fun y hy => by
                rcases hmem y hy with h | rfl
                · exact hrest.out.1.slot y (by rw [HLK.out]; exact h)
                · exact ⟨hmd0, f5⟩) (fun y hy => by
                rcases hmem y hy with h | rfl
                · exact hko y h
                · exact hkey) md hmd0 (by omega) HMD.out A8 c8 (j + 1 + (nl - j)) hlen (by rw [hLN]; exact own_mono hz5 ho8)
              obtain ⟨o9, ks9, p1, p2, p3, p4⟩ := hfin
              have hgm : own.memTab g := ⟨.maps, hgr, .inr trivial⟩
              have hKf := hF.out.2.2.2.1.trans p4 (fun b _ e => by rw [e]; exact hgm)
              have how := hF.out.1
              have hsz3 : w1.heap.size ≤ w3.heap.size := hF.out.2.2.2.1.size
              have HFIN := Lib.hid (And.intro (fun b (hb : b < w1.heap.size) => (p1 b (Nat.lt_of_lt_of_le hb hsz3)).trans (how b hb)) (And.intro p2 (And.intro p3 hKf)))
              clear p1 p2 p3 p4 hKf how hLN hlen hmem hll ho8 hg8 hor8 hc8 hcsT hfz z6
              go_wp2_with fail
              go_ret2
              obtain ⟨g1, g2, g3, g4⟩ := HFIN.out
              rw [HLK.out, HP.out]
              simp only [List.append_assoc, List.singleton_append] at g2 ⊢
              refine ⟨rfl, ?_⟩
              first
                | exact ⟨o9, v', sl', ks9, g1, g2, g3, g4⟩
                | exact ⟨o9, g1, ⟨ks9, g2⟩, ⟨v', sl', g3⟩, g4⟩
    · have hjn : j = nl := by omega
      have HE := Lib.hid (show putPos l key = j from by rw [he, List.drop_eq_nil_of_le (by omega)]; rfl)
      have hd1 : decide ((j : Int) < (nl : Int)) = false := by simp; omega
      have hji : ¬ (j : Int) < (nl : Int) := by omega
      have hsc := slice_cases hrow
      have HZ := Lib.hid (show ¬ 0 < nl - j by omega)
      clear he
      rcases hsc with ⟨hv, h0⟩ | ⟨gk, ck', hv, hnc⟩
      · simp only [Value.slice.injEq] at hv
        obtain ⟨rfl, -, rfl⟩ := hv
        subst h0
        obtain rfl : j = 0 := by omega
        clear hjn hge
        go_upto_region 24 with fail
        go_quiet (fail)
        clear d4 hs
        rename_i nq
        have hbq := below_drewN hbr nq
        have hP : putPos l key = 0 := HE.out
        go_upto_region 26 with fail
        have hks2 : ∀ w', Below w3.heap.size w3 w' → SAt w' w3.heap.size 2 none (0 - 0) (keysV (l.drop 0)) ∧ SAt w' w3.heap.size 2 none 0 (keysV (l.take 0)) := fun w' _ => ⟨⟨by rw [keysV_length, List.length_drop, hnl], fun hq => absurd hq (by omega)⟩, ⟨by rw [keysV_length, List.length_take, hnl]; rfl, fun hq => absurd hq (by omega)⟩⟩
        have hjc : 0 ≤ 0 := Nat.le_trans hj (own_cap hob)
        have hjci : (0 : Int) ≤ (0 : Int) := by omega
        have hjli : (0 : Int) ≤ (0 : Int) := by omega
        have hst2 := fun w' hb => hst w' hb
        clear hd1 hji hrow hob hst
        generalize wr.drewN nq = V4 at *
        have hown0 : (V4.alloc (.cells #[] 106)).ownsRow w3.heap.size 106 2 (.slice (some ⟨V4.heap.size, 0, none⟩) 0 0) 0 [] := own_new V4 V4.heap.size #[] 106 2 0 0 w3.heap.size rfl hbq.size (Nat.le_refl _) (by decide) rfl
        have hb4 := hbq.alloc hbq.size (.cells #[] 106)
        have hat1 : SAt (V4.alloc (.cells #[] 106)) w3.heap.size 2 none 0 (keysV (l.drop 0)) := (hks2 _ hb4).1
        have u4 := y4 _ hb4
        have u5 := y5 _ hb4
        obtain ⟨i6, hi6, hv0, hv1, hv2⟩ := info_parts info106
        go_wp2_with (at_builtin; refine wpList_append_sat rfl (.tmp 127) (.tmp 131) 101 rfl w3.heap.size 106 i6 (.agg #[.string ByteArray.empty, .int .i64 0]) 2 24 Try.underlying101 hi6 hv0 hv1 hv2 rfl (by decide) _ 0 0 _ rfl hown0 w3.heap.size _ _ _ _ rfl hat1 (keysV_ones _) ?c2 ?c3 ?c4 ?c5)
        case c2 => simp only [maxLen]; omega
        case c3 => omega
        case c4 => first | exact hb4.size | exact Nat.le_succ_of_le hbq.size | (simp; exact Nat.le_succ_of_le hbq.size) | exact hbq.size
        case c5 =>
          intro Ar cr w5 ho5 hg5 hb5 hor5
          replace hb5 : Below w3.heap.size w3 w5 := hb4.trans hb5
          have hz5 := hb5.size
          have hD := hb5.drew
          have ho5 : w5.ownsRow w3.heap.size 106 2 (.slice Ar (0 - 0) cr) (0 - 0) (keysV (l.drop 0)) := ho5
          clear hown0 hat1 hor5 hg5 hb4 u4 u5
          go_upto_region 27 with fail
          have u1 : Below w5.heap.size w5 ((w5.alloc (.cells #[] 106)).drew) := ((Below.refl w5.heap.size w5).alloc (Nat.le_refl _) _).drew
          have u2 : Below w5.heap.size w5 (((w5.alloc (.cells #[] 106)).alloc (.cells #[.string (strOfNums key), .int .i64 md] 106)).drew) := (((Below.refl w5.heap.size w5).alloc (Nat.le_refl _) _).alloc (by simp) _).drew
          have u3 : Below w5.heap.size w5 (((w5.alloc (.cells #[.string (strOfNums key), .int .i64 md] 106)).alloc (.cells #[] 106)).drew) := (((Below.refl w5.heap.size w5).alloc (Nat.le_refl _) _).alloc (by simp) _).drew
          have o1 : ((w5.alloc (.cells #[] 106)).drew).ownsRow w5.heap.size 106 2 (.slice (some ⟨w5.heap.size, 0, none⟩) 0 0) 0 [] := own_new w5 w5.heap.size #[] 106 2 0 0 w5.heap.size rfl (Nat.le_refl _) (Nat.le_refl _) (by decide) rfl
          have o2 : (((w5.alloc (.cells #[] 106)).alloc (.cells #[.string (strOfNums key), .int .i64 md] 106)).drew).ownsRow w5.heap.size 106 2 (.slice (some ⟨w5.heap.size, 0, none⟩) 0 0) 0 [] := o1.alloc _
          have o3 : (((w5.alloc (.cells #[.string (strOfNums key), .int .i64 md] 106)).alloc (.cells #[] 106)).drew).ownsRow w5.heap.size 106 2 (.slice (some ⟨w5.heap.size + 1, 0, none⟩) 0 0) 0 [] := own_new (w5.alloc (.cells #[.string (strOfNums key), .int .i64 md] 106)) (w5.heap.size + 1) #[] 106 2 0 0 w5.heap.size (by simp) (Nat.le_succ _) (Nat.le_refl _) (by decide) rfl
          have s1 := (hks2 _ (hb5.trans (u1.mono hz5))).2
          have s2 := (hks2 _ (hb5.trans (u2.mono hz5))).2
          have s3 := (hks2 _ (hb5.trans (u3.mono hz5))).2
          have bx1 : ∀ w6 : World, SAt (w6.alloc (.cells #[.string (strOfNums key), .int .i64 md] 106)) (w6.heap.size + 1) 2 (some ⟨w6.heap.size, 0, none⟩) 1 [.string (strOfNums key), .int .i64 md] := fun w6 => sat_new w6 106 #[.string (strOfNums key), .int .i64 md] 2 1 rfl
          have bx2 : ∀ (w6 : World) (q : Nat), (((w5.alloc (.cells #[] 106)).alloc (.cells #[.string (strOfNums key), .int .i64 md] 106)).drew).grownBy w6 (Value.slice (some ⟨w5.heap.size, 0, none⟩) 0 q).ownBlock → SAt w6 (w5.heap.size + 2) 2 (some ⟨w5.heap.size + 1, 0, none⟩) 1 [.string (strOfNums key), .int .i64 md] := fun w6 q hg => by
            have hh := sat_new (w5.alloc (.cells #[] 106)) 106 #[.string (strOfNums key), .int .i64 md] 2 1 rfl
            have hz : (w5.alloc (.cells #[] 106)).heap.size = w5.heap.size + 1 := by simp
            rw [hz] at hh
            exact sat_grown (w := ((w5.alloc (.cells #[] 106)).alloc (.cells #[.string (strOfNums key), .int .i64 md] 106)).drew) (hh.below (Below.refl _ _).drew) (show w5.heap.size + 1 < ((w5.alloc (.cells #[] 106)).alloc (.cells #[.string (strOfNums key), .int .i64 md] 106)).heap.size by simp only [World.size_alloc]; omega) hg (by simp [Value.ownBlock])
          have bx3 : ∀ (w6 : World) (q : Nat), (((w5.alloc (.cells #[.string (strOfNums key), .int .i64 md] 106)).alloc (.cells #[] 106)).drew).grownBy w6 (Value.slice (some ⟨w5.heap.size + 1, 0, none⟩) 0 q).ownBlock → SAt w6 (w5.heap.size + 2) 2 (some ⟨w5.heap.size, 0, none⟩) 1 [.string (strOfNums key), .int .i64 md] := fun w6 q hg => by
            have hh := sat_new w5 106 #[.string (strOfNums key), .int .i64 md] 2 1 rfl
            have hb := hh.below (Below.alloc (Below.refl _ _) (by simp) (.cells #[] 106))
            exact (sat_grown (w := ((w5.alloc (.cells #[.string (strOfNums key), .int .i64 md] 106)).alloc (.cells #[] 106)).drew) (hb.below (Below.refl _ _).drew) (show w5.heap.size < ((w5.alloc (.cells #[.string (strOfNums key), .int .i64 md] 106)).alloc (.cells #[] 106)).heap.size by simp only [World.size_alloc]; omega) hg (by simp [Value.ownBlock])).more2 (by omega)
          have m63 : 0 + 0 ≤ maxLen := by simp only [maxLen]; omega
          have mby : (0 + 0) * 24 ≤ 140737488355328 := by omega
          have m63b : 0 + 1 ≤ maxLen := by simp only [maxLen]; omega
          have mbyb : (0 + 1) * 24 ≤ 140737488355328 := by omega
          have m63c : 0 + 0 + 1 ≤ maxLen := by rw [Nat.zero_add]; exact m63b
          have mbyc : (0 + 0 + 1) * 24 ≤ 140737488355328 := by rw [Nat.zero_add]; exact mbyb
          have z1 : w5.heap.size ≤ ((w5.alloc (.cells #[] 106)).drew).heap.size := u1.size
          have z2 : w5.heap.size ≤ (((w5.alloc (.cells #[] 106)).alloc (.cells #[.string (strOfNums key), .int .i64 md] 106)).drew).heap.size := u2.size
          have z3 : w5.heap.size ≤ (((w5.alloc (.cells #[.string (strOfNums key), .int .i64 md] 106)).alloc (.cells #[] 106)).drew).heap.size := u3.size
          have gg1 : ∀ (w6 : World) (r : Option Nat), ((w5.alloc (.cells #[] 106)).drew).grownBy w6 r → (∀ k, r = some k → w5.heap.size ≤ k) → Below w5.heap.size w5 w6 := fun w6 r hg hr => u1.trans (below_of_grown hg z1 hr)
          have gg2 : ∀ (w6 : World) (r : Option Nat), (((w5.alloc (.cells #[] 106)).alloc (.cells #[.string (strOfNums key), .int .i64 md] 106)).drew).grownBy w6 r → (∀ k, r = some k → w5.heap.size ≤ k) → Below w5.heap.size w5 w6 := fun w6 r hg hr => u2.trans (below_of_grown hg z2 hr)
          have gg3 : ∀ (w6 : World) (r : Option Nat), (((w5.alloc (.cells #[.string (strOfNums key), .int .i64 md] 106)).alloc (.cells #[] 106)).drew).grownBy w6 r → (∀ k, r = some k → w5.heap.size ≤ k) → Below w5.heap.size w5 w6 := fun w6 r hg hr => u3.trans (below_of_grown hg z3 hr)
          go_region_held3 (fun w' => Below w3.heap.size w3 w')
            (repeat (first | assumption | refine sbelow_drew ?_ | refine sbelow_alloc ?_ (Nat.le_refl _)))
            (first | (refine step_append_y rfl (.tmp 133) (.tmp 137) 101 rfl w5.heap.size 106 i6 (.agg #[.string ByteArray.empty, .int .i64 0]) 2 24 Try.underlying101 hi6 hv0 hv1 hv2 rfl (by decide) _ 0 0 [] rfl ?_ w3.heap.size none 0 0 (keysV (l.take 0)) rfl ?_ (keysV_ones _) m63 mby ?_ ?_; (first | with_reducible exact o1 | with_reducible exact o2 | with_reducible exact o3); (first | with_reducible exact s1 | with_reducible exact s2 | with_reducible exact s3); (first | with_reducible exact z1 | with_reducible exact z2 | with_reducible exact z3); (intro A6 c6 w6 ho6r hg6 hor6; have ho6 : w6.ownsRow w5.heap.size 106 2 (.slice A6 0 c6) 0 (keysV (l.take 0)) := (by have hh := ho6r; rw [Nat.zero_add, List.nil_append] at hh; exact hh); have k5 : Below w5.heap.size w5 w6 := (by first | with_reducible exact gg1 _ _ hg6 (by intro k hk; simp [Value.ownBlock] at hk; omega) | with_reducible exact gg2 _ _ hg6 (by intro k hk; simp [Value.ownBlock] at hk; omega) | with_reducible exact gg3 _ _ hg6 (by intro k hk; simp [Value.ownBlock] at hk; omega)); have k6 := hb5.trans (k5.mono hz5))) | (refine step_append_y rfl (.tmp 138) (.tmp 144) 101 rfl w5.heap.size 106 i6 (.agg #[.string ByteArray.empty, .int .i64 0]) 2 24 Try.underlying101 hi6 hv0 hv1 hv2 rfl (by decide) A6 0 c6 (keysV (l.take 0)) rfl (ho6.alloc _) (w6.heap.size + 1) (some ⟨w6.heap.size, 0, none⟩) 1 1 [.string (strOfNums key), .int .i64 md] rfl (bx1 w6) (keysV_ones [⟨key, md⟩]) m63b mbyb (Nat.le_trans k5.size (by simp)) ?_; intro A7 c7 w7 ho7 hg7 hor7; have k7 : Below w3.heap.size w3 w7 := (k6.alloc (Nat.le_trans hz5 k5.size) _).trans (below_of_grown hg7 (Nat.le_trans hz5 (Nat.le_trans k5.size (by simp))) (fun k hk => Nat.le_trans hz5 (ho6.lt k hk).1)); have k8 : Below w5.heap.size w5 w7 := (k5.alloc k5.size _).trans (below_of_grown hg7 (Nat.le_trans k5.size (by simp)) (fun k hk => (ho6.lt k hk).1)); have ho7n : w7.ownsRow w5.heap.size 106 2 (.slice A7 (0 + 1) c7) (0 + 1) (keysV (l.take 0 ++ [⟨key, md⟩])) := (by have hh := ho7; rw [keysV_append]; exact hh)) | (refine step_append_y rfl (.tmp 138) (.tmp 144) 101 rfl w5.heap.size 106 i6 (.agg #[.string ByteArray.empty, .int .i64 0]) 2 24 Try.underlying101 hi6 hv0 hv1 hv2 rfl (by decide) A6 (0 + 0) c6 ([] ++ keysV (l.take 0)) rfl ho6r (w5.heap.size + 2) _ 1 1 [.string (strOfNums key), .int .i64 md] rfl ?_ (keysV_ones [⟨key, md⟩]) m63c mbyc k5.size ?_; (first | with_reducible exact bx2 _ _ hg6 | with_reducible exact bx3 _ _ hg6); (intro A7 c7 w7 ho7 hg7 hor7; have k7 : Below w3.heap.size w3 w7 := k6.trans (below_of_grown hg7 (Nat.le_trans hz5 k5.size) (fun k hk => Nat.le_trans hz5 (ho6r.lt k hk).1)); have k8 : Below w5.heap.size w5 w7 := k5.trans (below_of_grown hg7 k5.size (fun k hk => (ho6r.lt k hk).1)); have ho7n : w7.ownsRow w5.heap.size 106 2 (.slice A7 (0 + 1) c7) (0 + 1) (keysV (l.take 0 ++ [⟨key, md⟩])) := (by have hh := ho7; rw [Nat.zero_add, List.nil_append] at hh; rw [keysV_append]; exact hh))))
          all_goals
            clear o1 o2 o3 s1 s2 s3 u1 u2 u3 gg1 gg2 gg3 bx1 bx2 bx3 z1 z2 z3
            have k8d : Below w5.heap.size w5 w7.drew := k8.drew
            have k7d := k7.drew
            have HP := Lib.hid hP
            have hT3 := hF.out.2.1
            obtain ⟨gx, cx, hvx, hcsT⟩ := mapAt_cells hT3 hk
            simp only [Value.slice.injEq, Option.some.injEq, Addr.mk.injEq, and_true, true_and] at hvx
            obtain ⟨rfl, rfl⟩ := hvx
            have hfz : ∀ w', Below w3.heap.size w3 w' → ∀ q, w'.frozen? ⟨g, q, none⟩ = false := fun w' hb q => by
              have := (own_kept (X := fun _ => False) hT3.row.row (Kept.of hb (Nat.le_refl _)) (fun _ _ => id)).frozenAt q
              simpa using this
            have hpg : g ≠ pt := fun e => by
              have h1 := hT3.row.role g rfl
              have h2 := hT3.role
              rw [e] at h1; rw [h1] at h2; cases h2
            have r7 : SAt w7.drew w5.heap.size 2 Ar (0 - 0) (keysV (l.drop 0)) := (own_sat ho5).below k8d
            have o7 : w7.drew.ownsRow w5.heap.size 106 2 (.slice A7 (0 + 1) c7) (0 + 1) (keysV (l.take 0 ++ [⟨key, md⟩])) := ho7n
            have n63 : 0 + 1 + (0 - 0) ≤ maxLen := by simp only [maxLen]; omega
            have nby : (0 + 1 + (0 - 0)) * 24 ≤ 140737488355328 := by omega
            have hS7 : w7.cell? ⟨pt, 1, none⟩ = some (.slice (some ⟨g, 0, none⟩) t.length cv) := (hcsT _ k7).2.1
            have hS7d : w7.drew.cell? ⟨pt, 1, none⟩ = some (.slice (some ⟨g, 0, none⟩) t.length cv) := (hcsT _ k7d).2.1
            clear hT3 ho7 ho7n hg7 hor7 hP k7
            go_upto_region 28 with fail
            go_region_held3 (fun w' => w'.cell? ⟨pt, 1, none⟩ = some (.slice (some ⟨g, 0, none⟩) t.length cv))
              (first | assumption | exact (World.cell?_setCell_far _ _ _ _ hpg).trans hS8)
              (first | (refine step_append_y rfl (.tmp 151) (.tmp 152) 101 rfl w5.heap.size 106 i6 (.agg #[.string ByteArray.empty, .int .i64 0]) 2 24 Try.underlying101 hi6 hv0 hv1 hv2 rfl (by decide) A7 (0 + 1) c7 (keysV (l.take 0 ++ [⟨key, md⟩])) rfl o7 w5.heap.size Ar (0 - 0) cr (keysV (l.drop 0)) rfl r7 (keysV_ones _) n63 nby k8d.size ?_; (intro A8 c8 w8 ho8 hg8 hor8; have k9 : Below w5.heap.size w5 w8 := k8d.trans (below_of_grown hg8 k8d.size (fun k hk => (o7.lt k hk).1)); have k10 : Below w3.heap.size w3 w8 := hb5.trans (k9.mono hz5); have hc8 := hcsT w8 k10; have z6 : w8.cell? ⟨g, k * 6 + 4, none⟩ = some (ks k) := hc8.2.2.2.2.2.2.1; have z7 : w8.cell? ⟨g, k * 6 + 5, none⟩ = some (.int .i64 md) := (by have hh := hc8.2.2.2.2.2.2.2; rw [HMD.out] at hh; exact hh); have hS8 : w8.cell? ⟨pt, 1, none⟩ = some (.slice (some ⟨g, 0, none⟩) t.length cv) := hc8.2.1; have fz4 := hfz w8 k10 (k * 6 + 4); have fz5 := hfz w8 k10 (k * 6 + 5))))
            all_goals
              have hLN : keysV (l.take 0 ++ [⟨key, md⟩] ++ l.drop 0) = keysV (l.take 0 ++ [⟨key, md⟩]) ++ keysV (l.drop 0) := keysV_append _ _
              have hll : l.length = 0 := hF.out.2.2.2.2
              have hlen : (l.take 0 ++ [(⟨key, md⟩ : KeyM)] ++ l.drop 0).length = 0 + 1 + (0 - 0) := by simp [hll]
              have hmem : ∀ y ∈ l.take 0 ++ [(⟨key, md⟩ : KeyM)] ++ l.drop 0, y ∈ l ∨ y = ⟨key, md⟩ := fun y hy => by
                simp only [List.mem_append, List.mem_singleton] at hy
                rcases hy with (hy | hy) | hy
                · exact .inl (List.mem_of_mem_take hy)
                · exact .inr hy
                · exact .inl (List.mem_of_mem_drop hy)
              have hfin := put_fin (w8 := w8) hF.out.2.1 hF.out.2.2.1 hk k10 (l.take 0 ++ [⟨key, md⟩] ++ l.drop 0) (by rw [hlen]; omega) (fun y hy => by
                rcases hmem y hy with h | rfl
                · exact hrest.out.1.slot y (by rw [HLK.out]; exact h)
                · exact ⟨hmd0, f5⟩) (fun y hy => by
                rcases hmem y hy with h | rfl
                · exact hko y h
                · exact hkey) md hmd0 (by omega) HMD.out A8 c8 (0 + 1 + (0 - 0)) hlen (by rw [hLN]; exact own_mono hz5 ho8)
              obtain ⟨o9, ks9, p1, p2, p3, p4⟩ := hfin
              have hgm : own.memTab g := ⟨.maps, hgr, .inr trivial⟩
              have hKf := hF.out.2.2.2.1.trans p4 (fun b _ e => by rw [e]; exact hgm)
              have how := hF.out.1
              have hsz3 : w1.heap.size ≤ w3.heap.size := hF.out.2.2.2.1.size
              have HFIN := Lib.hid (And.intro (fun b (hb : b < w1.heap.size) => (p1 b (Nat.lt_of_lt_of_le hb hsz3)).trans (how b hb)) (And.intro p2 (And.intro p3 hKf)))
              clear p1 p2 p3 p4 hKf how hLN hlen hmem hll ho8 hg8 hor8 hc8 hcsT hfz z6
              go_wp2_with fail
              go_ret2
              obtain ⟨g1, g2, g3, g4⟩ := HFIN.out
              rw [HLK.out, HP.out]
              simp only [List.append_assoc, List.singleton_append] at g2 ⊢
              refine ⟨rfl, ?_⟩
              first
                | exact ⟨o9, v', sl', ks9, g1, g2, g3, g4⟩
                | exact ⟨o9, g1, ⟨ks9, g2⟩, ⟨v', sl', g3⟩, g4⟩
      · simp only [Value.slice.injEq] at hv
        obtain ⟨rfl, -, rfl⟩ := hv
        by_cases hcj : ck = j
        · obtain rfl : j = ck := hcj.symm
          clear hjn hnc
          go_upto_region 24 with fail
          go_quiet (fail)
          clear d4 hs
          rename_i nq
          have hbq := below_drewN hbr nq
          have hP : putPos l key = j := HE.out
          go_upto_region 26 with fail
          have hks2 := fun w' (hb : Below w3.heap.size w3 w') => keys_sat hrow hnl j hj hb
          have hjc : j ≤ j := Nat.le_trans hj (own_cap hob)
          have hjci : (j : Int) ≤ (j : Int) := by omega
          have hjli : (j : Int) ≤ (nl : Int) := by omega
          clear hge
          have hst2 := fun w' hb => hst w' hb
          clear hd1 hji hrow hob hst
          generalize wr.drewN nq = V4 at *
          have hown0 : (V4.alloc (.cells #[] 106)).ownsRow w3.heap.size 106 2 (.slice (some ⟨V4.heap.size, 0, none⟩) 0 0) 0 [] := own_new V4 V4.heap.size #[] 106 2 0 0 w3.heap.size rfl hbq.size (Nat.le_refl _) (by decide) rfl
          have hb4 := hbq.alloc hbq.size (.cells #[] 106)
          have hat1 : SAt (V4.alloc (.cells #[] 106)) w3.heap.size 2 (some ⟨gk, 0, none⟩) (nl - j) (keysV (l.drop j)) := ⟨by rw [keysV_length, List.length_drop, hnl], fun hq => absurd hq HZ.out⟩
          have u4 := y4 _ hb4
          have u5 := y5 _ hb4
          obtain ⟨i6, hi6, hv0, hv1, hv2⟩ := info_parts info106
          go_wp2_with (at_builtin; refine wpList_append_sat rfl (.tmp 127) (.tmp 131) 101 rfl w3.heap.size 106 i6 (.agg #[.string ByteArray.empty, .int .i64 0]) 2 24 Try.underlying101 hi6 hv0 hv1 hv2 rfl (by decide) _ 0 0 _ rfl hown0 w3.heap.size _ _ _ _ rfl hat1 (keysV_ones _) ?c2 ?c3 ?c4 ?c5)
          case c2 => simp only [maxLen]; omega
          case c3 => omega
          case c4 => first | exact hb4.size | exact Nat.le_succ_of_le hbq.size | (simp; exact Nat.le_succ_of_le hbq.size) | exact hbq.size
          case c5 =>
            intro Ar cr w5 ho5 hg5 hb5 hor5
            replace hb5 : Below w3.heap.size w3 w5 := hb4.trans hb5
            have hz5 := hb5.size
            have hD := hb5.drew
            have ho5 : w5.ownsRow w3.heap.size 106 2 (.slice Ar (nl - j) cr) (nl - j) (keysV (l.drop j)) := ho5
            clear hown0 hat1 hor5 hg5 hb4 u4 u5
            go_upto_region 27 with fail
            have u1 : Below w5.heap.size w5 ((w5.alloc (.cells #[] 106)).drew) := ((Below.refl w5.heap.size w5).alloc (Nat.le_refl _) _).drew
            have u2 : Below w5.heap.size w5 (((w5.alloc (.cells #[] 106)).alloc (.cells #[.string (strOfNums key), .int .i64 md] 106)).drew) := (((Below.refl w5.heap.size w5).alloc (Nat.le_refl _) _).alloc (by simp) _).drew
            have u3 : Below w5.heap.size w5 (((w5.alloc (.cells #[.string (strOfNums key), .int .i64 md] 106)).alloc (.cells #[] 106)).drew) := (((Below.refl w5.heap.size w5).alloc (Nat.le_refl _) _).alloc (by simp) _).drew
            have o1 : ((w5.alloc (.cells #[] 106)).drew).ownsRow w5.heap.size 106 2 (.slice (some ⟨w5.heap.size, 0, none⟩) 0 0) 0 [] := own_new w5 w5.heap.size #[] 106 2 0 0 w5.heap.size rfl (Nat.le_refl _) (Nat.le_refl _) (by decide) rfl
            have o2 : (((w5.alloc (.cells #[] 106)).alloc (.cells #[.string (strOfNums key), .int .i64 md] 106)).drew).ownsRow w5.heap.size 106 2 (.slice (some ⟨w5.heap.size, 0, none⟩) 0 0) 0 [] := o1.alloc _
            have o3 : (((w5.alloc (.cells #[.string (strOfNums key), .int .i64 md] 106)).alloc (.cells #[] 106)).drew).ownsRow w5.heap.size 106 2 (.slice (some ⟨w5.heap.size + 1, 0, none⟩) 0 0) 0 [] := own_new (w5.alloc (.cells #[.string (strOfNums key), .int .i64 md] 106)) (w5.heap.size + 1) #[] 106 2 0 0 w5.heap.size (by simp) (Nat.le_succ _) (Nat.le_refl _) (by decide) rfl
            have s1 := (hks2 _ (hb5.trans (u1.mono hz5))).2
            have s2 := (hks2 _ (hb5.trans (u2.mono hz5))).2
            have s3 := (hks2 _ (hb5.trans (u3.mono hz5))).2
            have bx1 : ∀ w6 : World, SAt (w6.alloc (.cells #[.string (strOfNums key), .int .i64 md] 106)) (w6.heap.size + 1) 2 (some ⟨w6.heap.size, 0, none⟩) 1 [.string (strOfNums key), .int .i64 md] := fun w6 => sat_new w6 106 #[.string (strOfNums key), .int .i64 md] 2 1 rfl
            have bx2 : ∀ (w6 : World) (q : Nat), (((w5.alloc (.cells #[] 106)).alloc (.cells #[.string (strOfNums key), .int .i64 md] 106)).drew).grownBy w6 (Value.slice (some ⟨w5.heap.size, 0, none⟩) 0 q).ownBlock → SAt w6 (w5.heap.size + 2) 2 (some ⟨w5.heap.size + 1, 0, none⟩) 1 [.string (strOfNums key), .int .i64 md] := fun w6 q hg => by
              have hh := sat_new (w5.alloc (.cells #[] 106)) 106 #[.string (strOfNums key), .int .i64 md] 2 1 rfl
              have hz : (w5.alloc (.cells #[] 106)).heap.size = w5.heap.size + 1 := by simp
              rw [hz] at hh
              exact sat_grown (w := ((w5.alloc (.cells #[] 106)).alloc (.cells #[.string (strOfNums key), .int .i64 md] 106)).drew) (hh.below (Below.refl _ _).drew) (show w5.heap.size + 1 < ((w5.alloc (.cells #[] 106)).alloc (.cells #[.string (strOfNums key), .int .i64 md] 106)).heap.size by simp only [World.size_alloc]; omega) hg (by simp [Value.ownBlock])
            have bx3 : ∀ (w6 : World) (q : Nat), (((w5.alloc (.cells #[.string (strOfNums key), .int .i64 md] 106)).alloc (.cells #[] 106)).drew).grownBy w6 (Value.slice (some ⟨w5.heap.size + 1, 0, none⟩) 0 q).ownBlock → SAt w6 (w5.heap.size + 2) 2 (some ⟨w5.heap.size, 0, none⟩) 1 [.string (strOfNums key), .int .i64 md] := fun w6 q hg => by
              have hh := sat_new w5 106 #[.string (strOfNums key), .int .i64 md] 2 1 rfl
              have hb := hh.below (Below.alloc (Below.refl _ _) (by simp) (.cells #[] 106))
              exact (sat_grown (w := ((w5.alloc (.cells #[.string (strOfNums key), .int .i64 md] 106)).alloc (.cells #[] 106)).drew) (hb.below (Below.refl _ _).drew) (show w5.heap.size < ((w5.alloc (.cells #[.string (strOfNums key), .int .i64 md] 106)).alloc (.cells #[] 106)).heap.size by simp only [World.size_alloc]; omega) hg (by simp [Value.ownBlock])).more2 (by omega)
            have m63 : 0 + j ≤ maxLen := by simp only [maxLen]; omega
            have mby : (0 + j) * 24 ≤ 140737488355328 := by omega
            have m63b : j + 1 ≤ maxLen := by simp only [maxLen]; omega
            have mbyb : (j + 1) * 24 ≤ 140737488355328 := by omega
            have m63c : 0 + j + 1 ≤ maxLen := by rw [Nat.zero_add]; exact m63b
            have mbyc : (0 + j + 1) * 24 ≤ 140737488355328 := by rw [Nat.zero_add]; exact mbyb
            have z1 : w5.heap.size ≤ ((w5.alloc (.cells #[] 106)).drew).heap.size := u1.size
            have z2 : w5.heap.size ≤ (((w5.alloc (.cells #[] 106)).alloc (.cells #[.string (strOfNums key), .int .i64 md] 106)).drew).heap.size := u2.size
            have z3 : w5.heap.size ≤ (((w5.alloc (.cells #[.string (strOfNums key), .int .i64 md] 106)).alloc (.cells #[] 106)).drew).heap.size := u3.size
            have gg1 : ∀ (w6 : World) (r : Option Nat), ((w5.alloc (.cells #[] 106)).drew).grownBy w6 r → (∀ k, r = some k → w5.heap.size ≤ k) → Below w5.heap.size w5 w6 := fun w6 r hg hr => u1.trans (below_of_grown hg z1 hr)
            have gg2 : ∀ (w6 : World) (r : Option Nat), (((w5.alloc (.cells #[] 106)).alloc (.cells #[.string (strOfNums key), .int .i64 md] 106)).drew).grownBy w6 r → (∀ k, r = some k → w5.heap.size ≤ k) → Below w5.heap.size w5 w6 := fun w6 r hg hr => u2.trans (below_of_grown hg z2 hr)
            have gg3 : ∀ (w6 : World) (r : Option Nat), (((w5.alloc (.cells #[.string (strOfNums key), .int .i64 md] 106)).alloc (.cells #[] 106)).drew).grownBy w6 r → (∀ k, r = some k → w5.heap.size ≤ k) → Below w5.heap.size w5 w6 := fun w6 r hg hr => u3.trans (below_of_grown hg z3 hr)
            go_region_held3 (fun w' => Below w3.heap.size w3 w')
              (repeat (first | assumption | refine sbelow_drew ?_ | refine sbelow_alloc ?_ (Nat.le_refl _)))
              (first | (refine step_append_y rfl (.tmp 133) (.tmp 137) 101 rfl w5.heap.size 106 i6 (.agg #[.string ByteArray.empty, .int .i64 0]) 2 24 Try.underlying101 hi6 hv0 hv1 hv2 rfl (by decide) _ 0 0 [] rfl ?_ w3.heap.size (some ⟨gk, 0, none⟩) j j (keysV (l.take j)) rfl ?_ (keysV_ones _) m63 mby ?_ ?_; (first | with_reducible exact o1 | with_reducible exact o2 | with_reducible exact o3); (first | with_reducible exact s1 | with_reducible exact s2 | with_reducible exact s3); (first | with_reducible exact z1 | with_reducible exact z2 | with_reducible exact z3); (intro A6 c6 w6 ho6r hg6 hor6; have ho6 : w6.ownsRow w5.heap.size 106 2 (.slice A6 j c6) j (keysV (l.take j)) := (by have hh := ho6r; rw [Nat.zero_add, List.nil_append] at hh; exact hh); have k5 : Below w5.heap.size w5 w6 := (by first | with_reducible exact gg1 _ _ hg6 (by intro k hk; simp [Value.ownBlock] at hk; omega) | with_reducible exact gg2 _ _ hg6 (by intro k hk; simp [Value.ownBlock] at hk; omega) | with_reducible exact gg3 _ _ hg6 (by intro k hk; simp [Value.ownBlock] at hk; omega)); have k6 := hb5.trans (k5.mono hz5))) | (refine step_append_y rfl (.tmp 138) (.tmp 144) 101 rfl w5.heap.size 106 i6 (.agg #[.string ByteArray.empty, .int .i64 0]) 2 24 Try.underlying101 hi6 hv0 hv1 hv2 rfl (by decide) A6 j c6 (keysV (l.take j)) rfl (ho6.alloc _) (w6.heap.size + 1) (some ⟨w6.heap.size, 0, none⟩) 1 1 [.string (strOfNums key), .int .i64 md] rfl (bx1 w6) (keysV_ones [⟨key, md⟩]) m63b mbyb (Nat.le_trans k5.size (by simp)) ?_; intro A7 c7 w7 ho7 hg7 hor7; have k7 : Below w3.heap.size w3 w7 := (k6.alloc (Nat.le_trans hz5 k5.size) _).trans (below_of_grown hg7 (Nat.le_trans hz5 (Nat.le_trans k5.size (by simp))) (fun k hk => Nat.le_trans hz5 (ho6.lt k hk).1)); have k8 : Below w5.heap.size w5 w7 := (k5.alloc k5.size _).trans (below_of_grown hg7 (Nat.le_trans k5.size (by simp)) (fun k hk => (ho6.lt k hk).1)); have ho7n : w7.ownsRow w5.heap.size 106 2 (.slice A7 (j + 1) c7) (j + 1) (keysV (l.take j ++ [⟨key, md⟩])) := (by have hh := ho7; rw [keysV_append]; exact hh)) | (refine step_append_y rfl (.tmp 138) (.tmp 144) 101 rfl w5.heap.size 106 i6 (.agg #[.string ByteArray.empty, .int .i64 0]) 2 24 Try.underlying101 hi6 hv0 hv1 hv2 rfl (by decide) A6 (0 + j) c6 ([] ++ keysV (l.take j)) rfl ho6r (w5.heap.size + 2) _ 1 1 [.string (strOfNums key), .int .i64 md] rfl ?_ (keysV_ones [⟨key, md⟩]) m63c mbyc k5.size ?_; (first | with_reducible exact bx2 _ _ hg6 | with_reducible exact bx3 _ _ hg6); (intro A7 c7 w7 ho7 hg7 hor7; have k7 : Below w3.heap.size w3 w7 := k6.trans (below_of_grown hg7 (Nat.le_trans hz5 k5.size) (fun k hk => Nat.le_trans hz5 (ho6r.lt k hk).1)); have k8 : Below w5.heap.size w5 w7 := k5.trans (below_of_grown hg7 k5.size (fun k hk => (ho6r.lt k hk).1)); have ho7n : w7.ownsRow w5.heap.size 106 2 (.slice A7 (j + 1) c7) (j + 1) (keysV (l.take j ++ [⟨key, md⟩])) := (by have hh := ho7; rw [Nat.zero_add, List.nil_append] at hh; rw [keysV_append]; exact hh))))
            all_goals
              clear o1 o2 o3 s1 s2 s3 u1 u2 u3 gg1 gg2 gg3 bx1 bx2 bx3 z1 z2 z3
              have k8d : Below w5.heap.size w5 w7.drew := k8.drew
              have k7d := k7.drew
              have HP := Lib.hid hP
              have hT3 := hF.out.2.1
              obtain ⟨gx, cx, hvx, hcsT⟩ := mapAt_cells hT3 hk
              simp only [Value.slice.injEq, Option.some.injEq, Addr.mk.injEq, and_true, true_and] at hvx
              obtain ⟨rfl, rfl⟩ := hvx
              have hfz : ∀ w', Below w3.heap.size w3 w' → ∀ q, w'.frozen? ⟨g, q, none⟩ = false := fun w' hb q => by
                have := (own_kept (X := fun _ => False) hT3.row.row (Kept.of hb (Nat.le_refl _)) (fun _ _ => id)).frozenAt q
                simpa using this
              have hpg : g ≠ pt := fun e => by
                have h1 := hT3.row.role g rfl
                have h2 := hT3.role
                rw [e] at h1; rw [h1] at h2; cases h2
              have r7 : SAt w7.drew w5.heap.size 2 Ar (nl - j) (keysV (l.drop j)) := (own_sat ho5).below k8d
              have o7 : w7.drew.ownsRow w5.heap.size 106 2 (.slice A7 (j + 1) c7) (j + 1) (keysV (l.take j ++ [⟨key, md⟩])) := ho7n
              have n63 : j + 1 + (nl - j) ≤ maxLen := by simp only [maxLen]; omega
              have nby : (j + 1 + (nl - j)) * 24 ≤ 140737488355328 := by omega
              have hS7 : w7.cell? ⟨pt, 1, none⟩ = some (.slice (some ⟨g, 0, none⟩) t.length cv) := (hcsT _ k7).2.1
              have hS7d : w7.drew.cell? ⟨pt, 1, none⟩ = some (.slice (some ⟨g, 0, none⟩) t.length cv) := (hcsT _ k7d).2.1
              clear hT3 ho7 ho7n hg7 hor7 hP k7
              go_upto_region 28 with fail
              go_region_held3 (fun w' => w'.cell? ⟨pt, 1, none⟩ = some (.slice (some ⟨g, 0, none⟩) t.length cv))
                (first | assumption | exact (World.cell?_setCell_far _ _ _ _ hpg).trans hS8)
                (first | (refine step_append_y rfl (.tmp 151) (.tmp 152) 101 rfl w5.heap.size 106 i6 (.agg #[.string ByteArray.empty, .int .i64 0]) 2 24 Try.underlying101 hi6 hv0 hv1 hv2 rfl (by decide) A7 (j + 1) c7 (keysV (l.take j ++ [⟨key, md⟩])) rfl o7 w5.heap.size Ar (nl - j) cr (keysV (l.drop j)) rfl r7 (keysV_ones _) n63 nby k8d.size ?_; (intro A8 c8 w8 ho8 hg8 hor8; have k9 : Below w5.heap.size w5 w8 := k8d.trans (below_of_grown hg8 k8d.size (fun k hk => (o7.lt k hk).1)); have k10 : Below w3.heap.size w3 w8 := hb5.trans (k9.mono hz5); have hc8 := hcsT w8 k10; have z6 : w8.cell? ⟨g, k * 6 + 4, none⟩ = some (ks k) := hc8.2.2.2.2.2.2.1; have z7 : w8.cell? ⟨g, k * 6 + 5, none⟩ = some (.int .i64 md) := (by have hh := hc8.2.2.2.2.2.2.2; rw [HMD.out] at hh; exact hh); have hS8 : w8.cell? ⟨pt, 1, none⟩ = some (.slice (some ⟨g, 0, none⟩) t.length cv) := hc8.2.1; have fz4 := hfz w8 k10 (k * 6 + 4); have fz5 := hfz w8 k10 (k * 6 + 5))))
              all_goals
                have hLN : keysV (l.take j ++ [⟨key, md⟩] ++ l.drop j) = keysV (l.take j ++ [⟨key, md⟩]) ++ keysV (l.drop j) := keysV_append _ _
                have hll : l.length = nl := hF.out.2.2.2.2
                have hlen : (l.take j ++ [(⟨key, md⟩ : KeyM)] ++ l.drop j).length = j + 1 + (nl - j) := by simp [hll]; omega
                have hmem : ∀ y ∈ l.take j ++ [(⟨key, md⟩ : KeyM)] ++ l.drop j, y ∈ l ∨ y = ⟨key, md⟩ := fun y hy => by
                  simp only [List.mem_append, List.mem_singleton] at hy
                  rcases hy with (hy | hy) | hy
                  · exact .inl (List.mem_of_mem_take hy)
                  · exact .inr hy
                  · exact .inl (List.mem_of_mem_drop hy)
                have hfin := put_fin (w8 := w8) hF.out.2.1 hF.out.2.2.1 hk k10 (l.take j ++ [⟨key, md⟩] ++ l.drop j) (by rw [hlen]; omega) (fun y hy => by
                  rcases hmem y hy with h | rfl
                  · exact hrest.out.1.slot y (by rw [HLK.out]; exact h)
                  · exact ⟨hmd0, f5⟩) (fun y hy => by
                  rcases hmem y hy with h | rfl
                  · exact hko y h
                  · exact hkey) md hmd0 (by omega) HMD.out A8 c8 (j + 1 + (nl - j)) hlen (by rw [hLN]; exact own_mono hz5 ho8)
                obtain ⟨o9, ks9, p1, p2, p3, p4⟩ := hfin
                have hgm : own.memTab g := ⟨.maps, hgr, .inr trivial⟩
                have hKf := hF.out.2.2.2.1.trans p4 (fun b _ e => by rw [e]; exact hgm)
                have how := hF.out.1
                have hsz3 : w1.heap.size ≤ w3.heap.size := hF.out.2.2.2.1.size
                have HFIN := Lib.hid (And.intro (fun b (hb : b < w1.heap.size) => (p1 b (Nat.lt_of_lt_of_le hb hsz3)).trans (how b hb)) (And.intro p2 (And.intro p3 hKf)))
                clear p1 p2 p3 p4 hKf how hLN hlen hmem hll ho8 hg8 hor8 hc8 hcsT hfz z6
                go_wp2_with fail
                go_ret2
                obtain ⟨g1, g2, g3, g4⟩ := HFIN.out
                rw [HLK.out, HP.out]
                simp only [List.append_assoc, List.singleton_append] at g2 ⊢
                refine ⟨rfl, ?_⟩
                first
                  | exact ⟨o9, v', sl', ks9, g1, g2, g3, g4⟩
                  | exact ⟨o9, g1, ⟨ks9, g2⟩, ⟨v', sl', g3⟩, g4⟩
        · clear hjn
          go_upto_region 24 with fail
          go_quiet (fail)
          clear d4 hs
          rename_i nq
          have hbq := below_drewN hbr nq
          have hP : putPos l key = j := HE.out
          go_upto_region 26 with fail
          have hks2 := fun w' (hb : Below w3.heap.size w3 w') => keys_sat hrow hnl j hj hb
          have hjc : j ≤ ck := Nat.le_trans hj (own_cap hob)
          have hjci : (j : Int) ≤ (ck : Int) := by omega
          have hjli : (j : Int) ≤ (nl : Int) := by omega
          clear hge
          have hst2 := fun w' hb => hst w' hb
          clear hd1 hji hrow hob hst
          generalize wr.drewN nq = V4 at *
          have hown0 : (V4.alloc (.cells #[] 106)).ownsRow w3.heap.size 106 2 (.slice (some ⟨V4.heap.size, 0, none⟩) 0 0) 0 [] := own_new V4 V4.heap.size #[] 106 2 0 0 w3.heap.size rfl hbq.size (Nat.le_refl _) (by decide) rfl
          have hb4 := hbq.alloc hbq.size (.cells #[] 106)
          have hat1 := (hks2 _ hb4).1
          have u4 := y4 _ hb4
          have u5 := y5 _ hb4
          obtain ⟨i6, hi6, hv0, hv1, hv2⟩ := info_parts info106
          go_wp2_with (at_builtin; refine wpList_append_sat rfl (.tmp 127) (.tmp 131) 101 rfl w3.heap.size 106 i6 (.agg #[.string ByteArray.empty, .int .i64 0]) 2 24 Try.underlying101 hi6 hv0 hv1 hv2 rfl (by decide) _ 0 0 _ rfl hown0 w3.heap.size _ _ _ _ rfl hat1 (keysV_ones _) ?c2 ?c3 ?c4 ?c5)
          case c2 => simp only [maxLen]; omega
          case c3 => omega
          case c4 => first | exact hb4.size | exact Nat.le_succ_of_le hbq.size | (simp; exact Nat.le_succ_of_le hbq.size) | exact hbq.size
          case c5 =>
            intro Ar cr w5 ho5 hg5 hb5 hor5
            replace hb5 : Below w3.heap.size w3 w5 := hb4.trans hb5
            have hz5 := hb5.size
            have hD := hb5.drew
            have ho5 : w5.ownsRow w3.heap.size 106 2 (.slice Ar (nl - j) cr) (nl - j) (keysV (l.drop j)) := ho5
            clear hown0 hat1 hor5 hg5 hb4 u4 u5
            go_upto_region 27 with fail
            have u1 : Below w5.heap.size w5 ((w5.alloc (.cells #[] 106)).drew) := ((Below.refl w5.heap.size w5).alloc (Nat.le_refl _) _).drew
            have u2 : Below w5.heap.size w5 (((w5.alloc (.cells #[] 106)).alloc (.cells #[.string (strOfNums key), .int .i64 md] 106)).drew) := (((Below.refl w5.heap.size w5).alloc (Nat.le_refl _) _).alloc (by simp) _).drew
            have u3 : Below w5.heap.size w5 (((w5.alloc (.cells #[.string (strOfNums key), .int .i64 md] 106)).alloc (.cells #[] 106)).drew) := (((Below.refl w5.heap.size w5).alloc (Nat.le_refl _) _).alloc (by simp) _).drew
            have o1 : ((w5.alloc (.cells #[] 106)).drew).ownsRow w5.heap.size 106 2 (.slice (some ⟨w5.heap.size, 0, none⟩) 0 0) 0 [] := own_new w5 w5.heap.size #[] 106 2 0 0 w5.heap.size rfl (Nat.le_refl _) (Nat.le_refl _) (by decide) rfl
            have o2 : (((w5.alloc (.cells #[] 106)).alloc (.cells #[.string (strOfNums key), .int .i64 md] 106)).drew).ownsRow w5.heap.size 106 2 (.slice (some ⟨w5.heap.size, 0, none⟩) 0 0) 0 [] := o1.alloc _
            have o3 : (((w5.alloc (.cells #[.string (strOfNums key), .int .i64 md] 106)).alloc (.cells #[] 106)).drew).ownsRow w5.heap.size 106 2 (.slice (some ⟨w5.heap.size + 1, 0, none⟩) 0 0) 0 [] := own_new (w5.alloc (.cells #[.string (strOfNums key), .int .i64 md] 106)) (w5.heap.size + 1) #[] 106 2 0 0 w5.heap.size (by simp) (Nat.le_succ _) (Nat.le_refl _) (by decide) rfl
            have s1 := (hks2 _ (hb5.trans (u1.mono hz5))).2
            have s2 := (hks2 _ (hb5.trans (u2.mono hz5))).2
            have s3 := (hks2 _ (hb5.trans (u3.mono hz5))).2
            have bx1 : ∀ w6 : World, SAt (w6.alloc (.cells #[.string (strOfNums key), .int .i64 md] 106)) (w6.heap.size + 1) 2 (some ⟨w6.heap.size, 0, none⟩) 1 [.string (strOfNums key), .int .i64 md] := fun w6 => sat_new w6 106 #[.string (strOfNums key), .int .i64 md] 2 1 rfl
            have bx2 : ∀ (w6 : World) (q : Nat), (((w5.alloc (.cells #[] 106)).alloc (.cells #[.string (strOfNums key), .int .i64 md] 106)).drew).grownBy w6 (Value.slice (some ⟨w5.heap.size, 0, none⟩) 0 q).ownBlock → SAt w6 (w5.heap.size + 2) 2 (some ⟨w5.heap.size + 1, 0, none⟩) 1 [.string (strOfNums key), .int .i64 md] := fun w6 q hg => by
              have hh := sat_new (w5.alloc (.cells #[] 106)) 106 #[.string (strOfNums key), .int .i64 md] 2 1 rfl
              have hz : (w5.alloc (.cells #[] 106)).heap.size = w5.heap.size + 1 := by simp
              rw [hz] at hh
              exact sat_grown (w := ((w5.alloc (.cells #[] 106)).alloc (.cells #[.string (strOfNums key), .int .i64 md] 106)).drew) (hh.below (Below.refl _ _).drew) (show w5.heap.size + 1 < ((w5.alloc (.cells #[] 106)).alloc (.cells #[.string (strOfNums key), .int .i64 md] 106)).heap.size by simp only [World.size_alloc]; omega) hg (by simp [Value.ownBlock])
            have bx3 : ∀ (w6 : World) (q : Nat), (((w5.alloc (.cells #[.string (strOfNums key), .int .i64 md] 106)).alloc (.cells #[] 106)).drew).grownBy w6 (Value.slice (some ⟨w5.heap.size + 1, 0, none⟩) 0 q).ownBlock → SAt w6 (w5.heap.size + 2) 2 (some ⟨w5.heap.size, 0, none⟩) 1 [.string (strOfNums key), .int .i64 md] := fun w6 q hg => by
              have hh := sat_new w5 106 #[.string (strOfNums key), .int .i64 md] 2 1 rfl
              have hb := hh.below (Below.alloc (Below.refl _ _) (by simp) (.cells #[] 106))
              exact (sat_grown (w := ((w5.alloc (.cells #[.string (strOfNums key), .int .i64 md] 106)).alloc (.cells #[] 106)).drew) (hb.below (Below.refl _ _).drew) (show w5.heap.size < ((w5.alloc (.cells #[.string (strOfNums key), .int .i64 md] 106)).alloc (.cells #[] 106)).heap.size by simp only [World.size_alloc]; omega) hg (by simp [Value.ownBlock])).more2 (by omega)
            have m63 : 0 + j ≤ maxLen := by simp only [maxLen]; omega
            have mby : (0 + j) * 24 ≤ 140737488355328 := by omega
            have m63b : j + 1 ≤ maxLen := by simp only [maxLen]; omega
            have mbyb : (j + 1) * 24 ≤ 140737488355328 := by omega
            have m63c : 0 + j + 1 ≤ maxLen := by rw [Nat.zero_add]; exact m63b
            have mbyc : (0 + j + 1) * 24 ≤ 140737488355328 := by rw [Nat.zero_add]; exact mbyb
            have z1 : w5.heap.size ≤ ((w5.alloc (.cells #[] 106)).drew).heap.size := u1.size
            have z2 : w5.heap.size ≤ (((w5.alloc (.cells #[] 106)).alloc (.cells #[.string (strOfNums key), .int .i64 md] 106)).drew).heap.size := u2.size
            have z3 : w5.heap.size ≤ (((w5.alloc (.cells #[.string (strOfNums key), .int .i64 md] 106)).alloc (.cells #[] 106)).drew).heap.size := u3.size
            have gg1 : ∀ (w6 : World) (r : Option Nat), ((w5.alloc (.cells #[] 106)).drew).grownBy w6 r → (∀ k, r = some k → w5.heap.size ≤ k) → Below w5.heap.size w5 w6 := fun w6 r hg hr => u1.trans (below_of_grown hg z1 hr)
            have gg2 : ∀ (w6 : World) (r : Option Nat), (((w5.alloc (.cells #[] 106)).alloc (.cells #[.string (strOfNums key), .int .i64 md] 106)).drew).grownBy w6 r → (∀ k, r = some k → w5.heap.size ≤ k) → Below w5.heap.size w5 w6 := fun w6 r hg hr => u2.trans (below_of_grown hg z2 hr)
            have gg3 : ∀ (w6 : World) (r : Option Nat), (((w5.alloc (.cells #[.string (strOfNums key), .int .i64 md] 106)).alloc (.cells #[] 106)).drew).grownBy w6 r → (∀ k, r = some k → w5.heap.size ≤ k) → Below w5.heap.size w5 w6 := fun w6 r hg hr => u3.trans (below_of_grown hg z3 hr)
            go_region_held3 (fun w' => Below w3.heap.size w3 w')
              (repeat (first | assumption | refine sbelow_drew ?_ | refine sbelow_alloc ?_ (Nat.le_refl _)))
              (first | (refine step_append_y rfl (.tmp 133) (.tmp 137) 101 rfl w5.heap.size 106 i6 (.agg #[.string ByteArray.empty, .int .i64 0]) 2 24 Try.underlying101 hi6 hv0 hv1 hv2 rfl (by decide) _ 0 0 [] rfl ?_ w3.heap.size (some ⟨gk, 0, none⟩) j ck (keysV (l.take j)) rfl ?_ (keysV_ones _) m63 mby ?_ ?_; (first | with_reducible exact o1 | with_reducible exact o2 | with_reducible exact o3); (first | with_reducible exact s1 | with_reducible exact s2 | with_reducible exact s3); (first | with_reducible exact z1 | with_reducible exact z2 | with_reducible exact z3); (intro A6 c6 w6 ho6r hg6 hor6; have ho6 : w6.ownsRow w5.heap.size 106 2 (.slice A6 j c6) j (keysV (l.take j)) := (by have hh := ho6r; rw [Nat.zero_add, List.nil_append] at hh; exact hh); have k5 : Below w5.heap.size w5 w6 := (by first | with_reducible exact gg1 _ _ hg6 (by intro k hk; simp [Value.ownBlock] at hk; omega) | with_reducible exact gg2 _ _ hg6 (by intro k hk; simp [Value.ownBlock] at hk; omega) | with_reducible exact gg3 _ _ hg6 (by intro k hk; simp [Value.ownBlock] at hk; omega)); have k6 := hb5.trans (k5.mono hz5))) | (refine step_append_y rfl (.tmp 138) (.tmp 144) 101 rfl w5.heap.size 106 i6 (.agg #[.string ByteArray.empty, .int .i64 0]) 2 24 Try.underlying101 hi6 hv0 hv1 hv2 rfl (by decide) A6 j c6 (keysV (l.take j)) rfl (ho6.alloc _) (w6.heap.size + 1) (some ⟨w6.heap.size, 0, none⟩) 1 1 [.string (strOfNums key), .int .i64 md] rfl (bx1 w6) (keysV_ones [⟨key, md⟩]) m63b mbyb (Nat.le_trans k5.size (by simp)) ?_; intro A7 c7 w7 ho7 hg7 hor7; have k7 : Below w3.heap.size w3 w7 := (k6.alloc (Nat.le_trans hz5 k5.size) _).trans (below_of_grown hg7 (Nat.le_trans hz5 (Nat.le_trans k5.size (by simp))) (fun k hk => Nat.le_trans hz5 (ho6.lt k hk).1)); have k8 : Below w5.heap.size w5 w7 := (k5.alloc k5.size _).trans (below_of_grown hg7 (Nat.le_trans k5.size (by simp)) (fun k hk => (ho6.lt k hk).1)); have ho7n : w7.ownsRow w5.heap.size 106 2 (.slice A7 (j + 1) c7) (j + 1) (keysV (l.take j ++ [⟨key, md⟩])) := (by have hh := ho7; rw [keysV_append]; exact hh)) | (refine step_append_y rfl (.tmp 138) (.tmp 144) 101 rfl w5.heap.size 106 i6 (.agg #[.string ByteArray.empty, .int .i64 0]) 2 24 Try.underlying101 hi6 hv0 hv1 hv2 rfl (by decide) A6 (0 + j) c6 ([] ++ keysV (l.take j)) rfl ho6r (w5.heap.size + 2) _ 1 1 [.string (strOfNums key), .int .i64 md] rfl ?_ (keysV_ones [⟨key, md⟩]) m63c mbyc k5.size ?_; (first | with_reducible exact bx2 _ _ hg6 | with_reducible exact bx3 _ _ hg6); (intro A7 c7 w7 ho7 hg7 hor7; have k7 : Below w3.heap.size w3 w7 := k6.trans (below_of_grown hg7 (Nat.le_trans hz5 k5.size) (fun k hk => Nat.le_trans hz5 (ho6r.lt k hk).1)); have k8 : Below w5.heap.size w5 w7 := k5.trans (below_of_grown hg7 k5.size (fun k hk => (ho6r.lt k hk).1)); have ho7n : w7.ownsRow w5.heap.size 106 2 (.slice A7 (j + 1) c7) (j + 1) (keysV (l.take j ++ [⟨key, md⟩])) := (by have hh := ho7; rw [Nat.zero_add, List.nil_append] at hh; rw [keysV_append]; exact hh))))
            all_goals
              clear o1 o2 o3 s1 s2 s3 u1 u2 u3 gg1 gg2 gg3 bx1 bx2 bx3 z1 z2 z3
              have k8d : Below w5.heap.size w5 w7.drew := k8.drew
              have k7d := k7.drew
              have HP := Lib.hid hP
              have hT3 := hF.out.2.1
              obtain ⟨gx, cx, hvx, hcsT⟩ := mapAt_cells hT3 hk
              simp only [Value.slice.injEq, Option.some.injEq, Addr.mk.injEq, and_true, true_and] at hvx
              obtain ⟨rfl, rfl⟩ := hvx
              have hfz : ∀ w', Below w3.heap.size w3 w' → ∀ q, w'.frozen? ⟨g, q, none⟩ = false := fun w' hb q => by
                have := (own_kept (X := fun _ => False) hT3.row.row (Kept.of hb (Nat.le_refl _)) (fun _ _ => id)).frozenAt q
                simpa using this
              have hpg : g ≠ pt := fun e => by
                have h1 := hT3.row.role g rfl
                have h2 := hT3.role
                rw [e] at h1; rw [h1] at h2; cases h2
              have r7 : SAt w7.drew w5.heap.size 2 Ar (nl - j) (keysV (l.drop j)) := (own_sat ho5).below k8d
              have o7 : w7.drew.ownsRow w5.heap.size 106 2 (.slice A7 (j + 1) c7) (j + 1) (keysV (l.take j ++ [⟨key, md⟩])) := ho7n
              have n63 : j + 1 + (nl - j) ≤ maxLen := by simp only [maxLen]; omega
              have nby : (j + 1 + (nl - j)) * 24 ≤ 140737488355328 := by omega
              have hS7 : w7.cell? ⟨pt, 1, none⟩ = some (.slice (some ⟨g, 0, none⟩) t.length cv) := (hcsT _ k7).2.1
              have hS7d : w7.drew.cell? ⟨pt, 1, none⟩ = some (.slice (some ⟨g, 0, none⟩) t.length cv) := (hcsT _ k7d).2.1
              clear hT3 ho7 ho7n hg7 hor7 hP k7
              go_upto_region 28 with fail
              go_region_held3 (fun w' => w'.cell? ⟨pt, 1, none⟩ = some (.slice (some ⟨g, 0, none⟩) t.length cv))
                (first | assumption | exact (World.cell?_setCell_far _ _ _ _ hpg).trans hS8)
                (first | (refine step_append_y rfl (.tmp 151) (.tmp 152) 101 rfl w5.heap.size 106 i6 (.agg #[.string ByteArray.empty, .int .i64 0]) 2 24 Try.underlying101 hi6 hv0 hv1 hv2 rfl (by decide) A7 (j + 1) c7 (keysV (l.take j ++ [⟨key, md⟩])) rfl o7 w5.heap.size Ar (nl - j) cr (keysV (l.drop j)) rfl r7 (keysV_ones _) n63 nby k8d.size ?_; (intro A8 c8 w8 ho8 hg8 hor8; have k9 : Below w5.heap.size w5 w8 := k8d.trans (below_of_grown hg8 k8d.size (fun k hk => (o7.lt k hk).1)); have k10 : Below w3.heap.size w3 w8 := hb5.trans (k9.mono hz5); have hc8 := hcsT w8 k10; have z6 : w8.cell? ⟨g, k * 6 + 4, none⟩ = some (ks k) := hc8.2.2.2.2.2.2.1; have z7 : w8.cell? ⟨g, k * 6 + 5, none⟩ = some (.int .i64 md) := (by have hh := hc8.2.2.2.2.2.2.2; rw [HMD.out] at hh; exact hh); have hS8 : w8.cell? ⟨pt, 1, none⟩ = some (.slice (some ⟨g, 0, none⟩) t.length cv) := hc8.2.1; have fz4 := hfz w8 k10 (k * 6 + 4); have fz5 := hfz w8 k10 (k * 6 + 5))))
              all_goals
                have hLN : keysV (l.take j ++ [⟨key, md⟩] ++ l.drop j) = keysV (l.take j ++ [⟨key, md⟩]) ++ keysV (l.drop j) := keysV_append _ _
                have hll : l.length = nl := hF.out.2.2.2.2
                have hlen : (l.take j ++ [(⟨key, md⟩ : KeyM)] ++ l.drop j).length = j + 1 + (nl - j) := by simp [hll]; omega
                have hmem : ∀ y ∈ l.take j ++ [(⟨key, md⟩ : KeyM)] ++ l.drop j, y ∈ l ∨ y = ⟨key, md⟩ := fun y hy => by
                  simp only [List.mem_append, List.mem_singleton] at hy
                  rcases hy with (hy | hy) | hy
                  · exact .inl (List.mem_of_mem_take hy)
                  · exact .inr hy
                  · exact .inl (List.mem_of_mem_drop hy)
                have hfin := put_fin (w8 := w8) hF.out.2.1 hF.out.2.2.1 hk k10 (l.take j ++ [⟨key, md⟩] ++ l.drop j) (by rw [hlen]; omega) (fun y hy => by
                  rcases hmem y hy with h | rfl
                  · exact hrest.out.1.slot y (by rw [HLK.out]; exact h)
                  · exact ⟨hmd0, f5⟩) (fun y hy => by
                  rcases hmem y hy with h | rfl
                  · exact hko y h
                  · exact hkey) md hmd0 (by omega) HMD.out A8 c8 (j + 1 + (nl - j)) hlen (by rw [hLN]; exact own_mono hz5 ho8)
                obtain ⟨o9, ks9, p1, p2, p3, p4⟩ := hfin
                have hgm : own.memTab g := ⟨.maps, hgr, .inr trivial⟩
                have hKf := hF.out.2.2.2.1.trans p4 (fun b _ e => by rw [e]; exact hgm)
                have how := hF.out.1
                have hsz3 : w1.heap.size ≤ w3.heap.size := hF.out.2.2.2.1.size
                have HFIN := Lib.hid (And.intro (fun b (hb : b < w1.heap.size) => (p1 b (Nat.lt_of_lt_of_le hb hsz3)).trans (how b hb)) (And.intro p2 (And.intro p3 hKf)))
                clear p1 p2 p3 p4 hKf how hLN hlen hmem hll ho8 hg8 hor8 hc8 hcsT hfz z6
                go_wp2_with fail
                go_ret2
                obtain ⟨g1, g2, g3, g4⟩ := HFIN.out
                rw [HLK.out, HP.out]
                simp only [List.append_assoc, List.singleton_append] at g2 ⊢
                refine ⟨rfl, ?_⟩
                first
                  | exact ⟨o9, v', sl', ks9, g1, g2, g3, g4⟩
                  | exact ⟨o9, g1, ⟨ks9, g2⟩, ⟨v', sl', g3⟩, g4⟩
end
end Go.Proofs.Ytncogaikiceidaa
end
section
namespace Go.Proofs.Ytncogaikiceidaa
set_option maxRecDepth 100000
open Go.RowKit
set_option linter.unusedSimpArgs false
set_option linter.unusedVariables false
set_option linter.unnecessarySimpa false
section
theorem rput90a {own : Own} {w : World} {pt pm : Nat} {v vm : Value} {ks : Nat → Value} {sl : Nat → Value × Value} {mem : List AreaM} {t : List MapM} (h : TabIn own w pt pm v ks t) (hm : MemIn own w pm vm sl mem)
    (i : Int) (key val : List Int) (flags : Int) (hmy : mayM t i key = false) (A A2 : Option Addr) (c c2 : Nat) :
    Calls Try.prog 16 #[.pointer (some ⟨pt, 0, none⟩), .int .i64 i, .slice A key.length c, .slice A2 val.length c2, .int .u64 flags] w (TurnOk own w pt pm v (putM mem t i key val flags)) := by
  have hmay := fun w' (hb : Below w.heap.size w w') => rmay9 (h.below hb) i key A c
  rw [hmy] at hmay
  have hrf := Below.refl w.heap.size w
  have hL : putM mem t i key val flags = (mem, t, 0, 1) := by unfold putM; rw [if_pos (.inl hmy)]
  have hH := Lib.hid (And.intro h hm)
  unfold TurnOk
  rw [hL]
  clear h hm hmy hL
  go_enter Try.func16, Try.ntmps16
  go_wp2_with fail
  refine (hmay _ hrf).mono ?_
  rintro e w1 ⟨rfl, rfl⟩
  go_wp2_with fail
  go_ret2
  exact ⟨rfl, own, vm, sl, ks, fun _ _ => rfl, hH.out.1, hH.out.2, Kept.refl⟩
theorem rput90b {own : Own} {w : World} {pt pm : Nat} {v vm : Value} {ks : Nat → Value} {sl : Nat → Value × Value} {mem : List AreaM} {t : List MapM} (h : TabIn own w pt pm v ks t) (hm : MemIn own w pm vm sl mem)
    (k : Nat) (hk : k < t.length) (key val : List Int) (flags : Int) (hmy : mayM t k key = true) (hvl : ¬ (val.length : Int) = t[k].d.val) (A A2 : Option Addr) (c c2 : Nat) :
    Calls Try.prog 16 #[.pointer (some ⟨pt, 0, none⟩), .int .i64 k, .slice A key.length c, .slice A2 val.length c2, .int .u64 flags] w (TurnOk own w pt pm v (putM mem t k key val flags)) := by
  have hmay := fun w' (hb : Below w.heap.size w w') => rmay9 (h.below hb) k key A c
  rw [hmy] at hmay
  have hrf := Below.refl w.heap.size w
  have hL : putM mem t k key val flags = (mem, t, 0, 1) := by unfold putM; rw [if_pos (.inr (by rw [Int.toNat_natCast, mapAt_get hk]; exact hvl))]
  have hH := Lib.hid (And.intro h hm)
  have hfw := h.few
  have hki : (k : Int) < (t.length : Int) := by omega
  obtain ⟨g, cv, rfl, hcs⟩ := mapAt_cells h hk
  have hvb : ((val.length : Int) != t[k].d.val) = true := by simpa using hvl
  unfold TurnOk
  rw [hL]
  clear h hm hmy hL
  go_enter Try.func16, Try.ntmps16
  go_wp2_with fail
  refine (hmay _ hrf).mono ?_
  rintro e w1 ⟨rfl, rfl⟩
  obtain ⟨z0, z1, z2, z3, z4, z5, z6, z7⟩ := hcs _ hrf
  generalize t[k].d.val = dv at *
  go_wp2_with fail
  go_ret2
  exact ⟨rfl, own, vm, sl, ks, fun _ _ => rfl, hH.out.1, hH.out.2, Kept.refl⟩
end
section
/-- Put, whatever comes of it. -/
theorem rput9 {own : Own} {w : World} {pt pm : Nat} {v vm : Value} {ks : Nat → Value} {sl : Nat → Value × Value} {mem : List AreaM} {t : List MapM} (h : TabIn own w pt pm v ks t) (hm : MemIn own w pm vm sl mem) (hn : mem.length ≤ 1000000)
    (i : Int) (key val : List Int) (flags : Int) (hkey : BytesOk key) (hval : BytesOk val) (B : Nat) (hB : B ≤ w.heap.size) (A A2 : Option Addr) (c c2 : Nat) (hat : SAt w B 1 A key.length (bytesV key)) (hat2 : SAt w B 1 A2 val.length (bytesV val))
    (hA : ∀ b o, A = some ⟨b, o, none⟩ → ¬ own.memTab b) (hA2 : ∀ b o, A2 = some ⟨b, o, none⟩ → ¬ own.memTab b) :
    Calls Try.prog 16 #[.pointer (some ⟨pt, 0, none⟩), .int .i64 i, .slice A key.length c, .slice A2 val.length c2, .int .u64 flags] w (TurnOk own w pt pm v (putM mem t i key val flags)) := by
  generalize hO : ((fun b => if b < w.heap.size then own b else none) : Own) = O
  have ho : ∀ b, b < w.heap.size → O b = own b := fun b hb => by rw [← hO]; exact if_pos hb
  have hfar : ∀ b, w.heap.size ≤ b → O b = none := fun b hb => by rw [← hO]; exact if_neg (by omega)
  have hsub : ∀ b, Own.memTab O b → own.memTab b := fun b ⟨r, e, hr⟩ => by
    by_cases hb : b < w.heap.size
    · exact ⟨r, by rw [← ho b hb]; exact e, hr⟩
    · rw [hfar b (by omega)] at e; cases e
  have h' : TabIn O w pt pm v ks t := h.kept (Kept.refl (X := fun _ => False)) ho (fun _ _ _ _ => id)
  have hm' : MemIn O w pm vm sl mem := hm.kept (Kept.refl (X := fun _ => False)) ho (fun _ _ _ _ => id)
  have hA' : ∀ b o, A = some ⟨b, o, none⟩ → ¬ Own.memTab O b := fun b o e h => hA b o e (hsub b h)
  have hA2' : ∀ b o, A2 = some ⟨b, o, none⟩ → ¬ Own.memTab O b := fun b o e h => hA2 b o e (hsub b h)
  suffices hs : Calls Try.prog 16 #[.pointer (some ⟨pt, 0, none⟩), .int .i64 i, .slice A key.length c, .slice A2 val.length c2, .int .u64 flags] w (TurnOk O w pt pm v (putM mem t i key val flags)) by
    refine hs.mono ?_
    rintro e w' ⟨h1, o', vm', sl', ks', p1, p2, p3, p4⟩
    exact ⟨h1, o', vm', sl', ks', fun b hb => (p1 b hb).trans (ho b hb), p2, p3, (Kept.refl (X := own.memTab)).trans p4 (fun b _ h => hsub b h)⟩
  clear h hm hA hA2
  by_cases hmy : mayM t i key = true
  · obtain ⟨k, rfl, hk, -⟩ := mayM_in hmy
    by_cases hvl : (val.length : Int) = t[k].d.val
    · by_cases f1 : 2 < flags
      · exact rput91 h' hm' hn k hk key val flags hmy hvl hkey B hB A A2 c c2 hat f1
      · rcases h'.slot9 hk key with e | ⟨e0, e1⟩
        · have f2 : findK t[k].l key < 0 := by omega
          cases f3 : t[k].d.hash with
          | false => exact rput92 h' hm' hn k hk key val flags hmy hvl hkey B hB A A2 c c2 hat f1 f2 f3
          | true =>
            by_cases f4 : flags = 2
            · exact rput95 h' hm' hn k hk key val flags hmy hvl hkey B hB A A2 c c2 hat f4 f2 f3
            · by_cases f5 : t[k].d.max ≤ t[k].l.length
              · exact rput96 h' hm' hn k hk key val flags hmy hvl hkey B hB A A2 c c2 hat f1 f4 f2 f3 f5
              · by_cases f6 : 1024 ≤ t[k].made
                · exact rput97 h' hm' hn k hk key val flags hmy hvl hkey B hB A A2 c c2 hat f1 f4 f2 f3 f5 f6
                · by_cases f7 : (makeM mem (slotArea k t[k].made) val false false).2 = 0
                  · exact rput99 h' hm' hn k hk key val flags hmy hvl hkey B hB A A2 c c2 hat hfar f1 f4 f2 f3 f5 f6 hval hat2 hA2' hA' f7
                  · exact rput98 h' hm' hn k hk key val flags hmy hvl hkey B hB A A2 c c2 hat hfar f1 f4 f2 f3 f5 f6 hval hat2 hA2' f7
        · by_cases f4 : flags = 1
          · exact rput93 h' hm' hn k hk key val flags hmy hvl hkey B hB A A2 c c2 hat f4 e0
          · exact rput94 h' hm' hn k hk key val flags hmy hvl hkey B hB A A2 c c2 hat f1 f4 e0 hval hat2 hA2'
    · exact rput90b h' hm' k hk key val flags hmy hvl A A2 c c2
  · exact rput90a h' hm' i key val flags (by simpa using hmy) A A2 c c2
end
end Go.Proofs.Ytncogaikiceidaa
end
