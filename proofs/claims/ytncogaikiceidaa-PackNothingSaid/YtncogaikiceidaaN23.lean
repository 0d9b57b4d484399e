/- New of the tables. No statement is proved here. -/
import Derived.Test.YtncogaikiceidaaN19
import Derived.Test.YtncogaikiceidaaHopC
import Derived.Laws.MakeOwn
namespace Go.Proofs.Ytncogaikiceidaa
open Go.RowKit
set_option linter.unusedSimpArgs false
set_option linter.unusedVariables false
set_option linter.unnecessarySimpa false
section
/-! ### New tables -/
theorem makeM_new {mem : List AreaM} {a : Int} {b : List Int} {blank fixed : Bool} (h1 : 1 ≤ a) (h2 : a < 2147483648) (h3 : a ∉ mem.map AreaM.id) (h4 : b.length ≤ 1024) : makeM mem a b blank fixed = (mem ++ [⟨a, b, List.replicate b.length blank, fixed⟩], 0) := by
  unfold makeM
  have h5 : idxM (mem.map AreaM.id) a 0 = -1 := by
    rcases idx_lt (ids := mem.map AreaM.id) (a := a) 0 with h | ⟨k, hk, he⟩
    · exact h
    · exfalso
      apply h3
      have : ∀ (ids : List Int) (j k : Nat), k < ids.length → idxM ids a j = ((j + k : Nat) : Int) → a ∈ ids := by
        intro ids
        induction ids with
        | nil => intro j k hk; simp at hk
        | cons x r ih =>
          intro j k hk he
          rw [idxM] at he
          by_cases hx : x = a
          · rw [hx]; exact List.mem_cons_self ..
          · rw [if_neg hx] at he
            cases k with
            | zero =>
              rcases idx_lt (ids := r) (a := a) (j + 1) with h | ⟨k', hk', he'⟩
              · rw [h] at he; omega
              · exact List.mem_cons_of_mem _ (ih (j + 1) k' hk' he')
            | succ k => exact List.mem_cons_of_mem _ (ih (j + 1) k (by simpa using hk) (by rw [he]; congr 1; omega))
      exact this _ 0 k hk he
  rw [if_neg (by rw [h5]; omega), if_neg (by omega)]
/-- So many slots of a map are there. -/
def addS (mem : List AreaM) (i : Nat) (val : Nat) (k : Nat) : List AreaM := mem ++ (List.range k).map fun (q : Nat) => ⟨slotArea i q, List.replicate val 0, List.replicate val false, false⟩
theorem addS_succ (mem : List AreaM) (i val k : Nat) : addS mem i val (k + 1) = addS mem i val k ++ [⟨slotArea i k, List.replicate val 0, List.replicate val false, false⟩] := by
  simp [addS, List.range_succ]
theorem addS_zero (mem : List AreaM) (i val : Nat) : addS mem i val 0 = mem := by simp [addS]
theorem addS_ids {mem : List AreaM} {i val k : Nat} (h : ∀ a ∈ mem, a.id < 4096 + 1024 * (i : Int)) : ∀ a ∈ addS mem i val k, a.id < 4096 + 1024 * (i : Int) + k := by
  intro a ha
  rcases List.mem_append.1 ha with ha | ha
  · have := h a ha; omega
  · rw [List.mem_map] at ha
    obtain ⟨q, hq, rfl⟩ := ha
    rw [List.mem_range] at hq
    simp only [slotArea]
    omega
theorem addS_make {mem : List AreaM} {i val k : Nat} (h : ∀ a ∈ mem, a.id < 4096 + 1024 * (i : Int)) (hi : i ≤ 8) (hk : k ≤ 16) (hv : val ≤ 64) : makeM (addS mem i val k) (slotArea i k) (List.replicate val 0) false false = (addS mem i val (k + 1), 0) := by
  rw [makeM_new (by unfold slotArea; omega) (by unfold slotArea; omega) ?_ (by simp; omega), addS_succ]
  · simp
  · intro hm
    rw [List.mem_map] at hm
    obtain ⟨a, ha, e⟩ := hm
    have := addS_ids (val := val) (k := k) h a ha
    unfold slotArea at e
    omega
def manyD (d : DefM) : Nat := if d.hash = true then 0 else d.max.toNat
def keyD (k : Nat) : KeyM := ⟨[(k : Int), 0, 0, 0], (k : Int)⟩
def mapD (d : DefM) : MapM := ⟨d, (List.range (manyD d)).map keyD, manyD d⟩
theorem tab0_cons (mem : List AreaM) (i : Nat) (d : DefM) (l : List DefM) : tab0 mem i (d :: l) = ((tab0 (addS mem i d.val.toNat (manyD d)) (i + 1) l).1, mapD d :: (tab0 (addS mem i d.val.toNat (manyD d)) (i + 1) l).2) := by
  rw [tab0]
  rfl
theorem defOk_parts {d : DefM} (h : defOk d = true) : 8 ≤ d.val ∧ d.val ≤ 64 ∧ 1 ≤ d.max ∧ d.max ≤ 16 ∧ manyD d ≤ 16 := by
  have := defOk_val h
  refine ⟨this.1, this.2.1, this.2.2.1, this.2.2.2, ?_⟩
  unfold manyD
  split
  iterate 2
    · omega
theorem mapD_ok {d : DefM} (h : defOk d = true) : (mapD d).Ok := by
  obtain ⟨-, -, -, -, h5⟩ := defOk_parts h
  refine ⟨h, by simpa [mapD] using h5, by simp [mapD], by simp only [mapD]; omega, fun y hy => ?_, fun y hy => ?_⟩
  · simp only [mapD, List.mem_map, List.mem_range] at hy
    obtain ⟨q, hq, rfl⟩ := hy
    simp only [keyD]
    omega
  · simp only [mapD, List.mem_map, List.mem_range] at hy
    obtain ⟨q, hq, rfl⟩ := hy
    intro b hb
    simp only [keyD, List.mem_cons, List.mem_nil_iff, or_false] at hb
    rcases hb with rfl | rfl | rfl | rfl <;> omega
theorem keysV_range (k : Nat) : keysV ((List.range (k + 1)).map keyD) = keysV ((List.range k).map keyD) ++ [.string (strOfNums [(k : Int), 0, 0, 0]), .int .i64 k] := by
  rw [List.range_succ, List.map_append, keysV_append]
  rfl
theorem mapsV_snoc (ks : Nat → Value) : ∀ (l : List MapM) (i : Nat) (x : MapM), mapsV ks (l ++ [x]) i = mapsV ks l i ++ mapCells x (ks (i + l.length))
  | [], i, x => by simp [mapsV]
  | a :: l, i, x => by
    rw [List.cons_append, mapsV, mapsV_snoc ks l, mapsV, List.append_assoc]
    simp only [List.length_cons]
    rw [show i + 1 + l.length = i + (l.length + 1) by omega]
theorem mapsV_at2 {ks ks' : Nat → Value} : ∀ (l : List MapM) (i : Nat), (∀ q, i ≤ q → q < i + l.length → ks' q = ks q) → mapsV ks' l i = mapsV ks l i
  | [], _, _ => rfl
  | a :: l, i, h => by rw [mapsV, mapsV, h i (Nat.le_refl _) (by simp), mapsV_at2 l (i + 1) (fun q h1 h2 => h q (by omega) (by simp only [List.length_cons]; omega))]
/-- A map joins the tables. -/
theorem TabIn.addMap {own : Own} {wx w1 : World} {pt pm : Nat} {vt v : Value} {ks : Nat → Value} {sl : Nat → Value × Value} {mem : List AreaM} {t : List MapM} (hfar : ∀ b, wx.heap.size ≤ b → own b = none) (h : TabIn own wx pt pm vt ks t) (hm : MemIn own wx pm v sl mem) (x : MapM) (hx : x.Ok) (ht7 : t.length < 8) {B : Nat} (K : Value)
    (hK : wx.ownsRow B 106 2 K x.l.length (keysV x.l)) (hKn : ∀ b, K.ownBlock = some b → own b = none) (A8 : Option Addr) (c8 : Nat) (h8 : w1.ownsRow 0 103 6 (.slice A8 (t.length + 1) c8) (t.length + 1) (mapsV ks t 0 ++ mapCells x K)) (hg : wx.grownBy w1 vt.ownBlock)
    (hor : (Value.slice A8 (t.length + 1) c8).ownBlock = vt.ownBlock ∨ ∃ b, (Value.slice A8 (t.length + 1) c8).ownBlock = some b ∧ wx.heap.size ≤ b) :
    ∃ own', (∀ b, b < wx.heap.size → own b ≠ none → own' b = own b) ∧ (∀ b, b < wx.heap.size → own' b ≠ none → own b = none → K.ownBlock = some b) ∧ (∀ b, w1.heap.size ≤ b → own' b = none) ∧
      TabIn own' (w1.setCell ⟨pt, 1, none⟩ (.slice A8 (t.length + 1) c8)) pt pm (.slice A8 (t.length + 1) c8) (fun i => if i = t.length then K else ks i) (t ++ [x]) ∧
      MemIn own' (w1.setCell ⟨pt, 1, none⟩ (.slice A8 (t.length + 1) c8)) pm v sl mem ∧ Kept (fun b => own b = some .maps ∨ b = pt) wx (w1.setCell ⟨pt, 1, none⟩ (.slice A8 (t.length + 1) c8)) := by
  have hvr : ∀ b, vt.ownBlock = some b → own b = some .maps := h.row.role
  have hk1 : Kept (fun b => own b = some .maps) wx w1 := grown_kept hg (fun k e => hvr k e)
  have hks : Kept (fun b => b = pt) w1 (w1.setCell ⟨pt, 1, none⟩ (.slice A8 (t.length + 1) c8)) := Kept.refl.set rfl
  have hk : Kept (fun b => own b = some .maps ∨ b = pt) wx (w1.setCell ⟨pt, 1, none⟩ (.slice A8 (t.length + 1) c8)) := ((Kept.refl (X := fun b => own b = some .maps ∨ b = pt)).trans hk1 (fun _ _ e => .inl e)).trans hks (fun _ _ e => .inr e)
  generalize hn : t.length = n at *
  generalize hO : ((fun b => if b < wx.heap.size then (if K.ownBlock = some b then some (Role.keys n) else own b) else if (Value.slice A8 (n + 1) c8).ownBlock = some b then some Role.maps else none) : Own) = O
  have hKl : ∀ b, K.ownBlock = some b → b < wx.heap.size := fun b hb => (hK.lt b hb).2
  have ho : ∀ b r, own b = some r → b < wx.heap.size → O b = some r := fun b r e hb => by
    rw [← hO]
    show (if b < wx.heap.size then _ else _) = _
    rw [if_pos hb, if_neg (fun hq => by rw [hKn b hq] at e; cases e), e]
  have hkey : ∀ b, K.ownBlock = some b → O b = some (.keys n) := fun b hb => by
    rw [← hO]
    show (if b < wx.heap.size then _ else _) = _
    rw [if_pos (hKl b hb), if_pos hb]
  have hmap : ∀ b, (Value.slice A8 (n + 1) c8).ownBlock = some b → O b = some .maps := fun b hb => by
    rcases hor with e | ⟨b', e, hb'⟩
    · exact ho b _ (hvr b (by rw [← e]; exact hb)) (h.row.row.lt b (by rw [← e]; exact hb)).2
    · rw [hb] at e; cases e
      rw [← hO]
      show (if b < wx.heap.size then _ else _) = _
      rw [if_neg (by omega), if_pos hb]
  have hnone : ∀ b, b < wx.heap.size → own b = none → ¬ K.ownBlock = some b → O b = none := fun b hb e hq => by
    rw [← hO]
    show (if b < wx.heap.size then _ else _) = _
    rw [if_pos hb, if_neg hq, e]
  have hfar' : ∀ b, w1.heap.size ≤ b → O b = none := fun b hb => by
    have hsz := hk1.size
    rw [← hO]
    show (if b < wx.heap.size then _ else _) = _
    rw [if_neg (by omega)]
    split
    · rename_i e
      have := (h8.lt b e).2
      omega
    · rfl
  have hpO : O pt = some .tabs := ho pt _ h.role h.blk.lt
  have hk' : Kept (fun b => b < wx.heap.size ∧ (own b = some .maps ∨ b = pt)) wx (w1.setCell ⟨pt, 1, none⟩ (.slice A8 (n + 1) c8)) := (Kept.refl (X := fun b => b < wx.heap.size ∧ (own b = some .maps ∨ b = pt))).trans hk (fun _ hi e => ⟨hi, e⟩)
  have hxx : ∀ b r, O b = some r → r ≠ .maps → r ≠ .tabs → ¬ (b < wx.heap.size ∧ (own b = some .maps ∨ b = pt)) := fun b r hb h1 h2 ⟨hlt, hq⟩ => by
    rcases hq with e | e
    · have := ho b _ e hlt
      rw [hb] at this; cases this; exact h1 rfl
    · subst e; rw [hpO] at hb; cases hb; exact h2 rfl
  have hpc : ¬ own pt = some .maps := by rw [h.role]; simp
  refine ⟨O, fun b hb hne => ?_, fun b hb h1 h2 => ?_, hfar', ⟨hpO, ?_, ?_, by simp [hn]; omega, ?_, ?_⟩, ?_, hk⟩
  · cases hq : own b with
    | none => exact absurd hq hne
    | some r => exact ho b r hq hb
  · exact Decidable.not_not.1 (fun hq => h1 (hnone b hb h2 hq))
  · have hb1 := (h.blk.kept hk1 hpc).set (k := 1) (by simp) (.slice A8 (n + 1) c8)
    exact hb1
  · refine ⟨?_, fun b hb => hmap b hb⟩
    have e1 : mapsV (fun i => if i = n then K else ks i) (t ++ [x]) 0 = mapsV ks t 0 ++ mapCells x K := by
      rw [mapsV_snoc, mapsV_at2 (ks := ks), Nat.zero_add, hn, if_pos rfl]
      intro q _ h2; rw [Nat.zero_add, hn] at h2; exact if_neg (by omega)
    have e2 : (t ++ [x]).length = n + 1 := by simp [hn]
    show (w1.setCell _ _).ownsRow 0 103 6 (.slice A8 (n + 1) c8) (t ++ [x]).length (mapsV (fun i => if i = n then K else ks i) (t ++ [x]) 0)
    rw [e1, e2]
    exact own_kept h8 hks (fun k hk2 e => by have := hmap k hk2; subst e; rw [hpO] at this; cases this)
  · intro y hy
    rcases List.mem_append.1 hy with hy | hy
    · exact h.ok y hy
    · rw [List.mem_singleton] at hy; subst hy; exact hx
  · intro i hi
    have hi2 : i < n + 1 := by have : i < (t ++ [x]).length := hi; simpa [hn] using this
    show RowIn O (.keys i) _ 106 2 (if i = n then K else ks i) (t ++ [x])[i].l.length (keysV (t ++ [x])[i].l)
    by_cases e : i = n
    · subst e
      rw [if_pos rfl, List.getElem_append_right (by omega)]
      simp only [hn, Nat.sub_self, List.getElem_cons_zero]
      exact ⟨own_mono (Nat.zero_le _) (own_kept hK hk' (fun b hb => hxx b _ (hkey b hb) (by simp) (by simp))), hkey⟩
    · rw [if_neg e, List.getElem_append_left (by omega)]
      exact ((h.keys i (by omega)).reown ho).kept hk' (fun _ _ => rfl) (fun b hb => hxx b _ hb (by simp) (by simp))
  · exact (hm.reown ho).kept hk' (fun _ _ => rfl) (fun b r hb hr => hxx b r hb (by rintro rfl; exact hr) (by rintro rfl; exact hr))
theorem MemIn.restrict {own : Own} {w : World} {pm : Nat} {v : Value} {sl : Nat → Value × Value} {mem : List AreaM} (h : MemIn own w pm v sl mem) : ∃ own', (∀ b, b < w.heap.size → own' b = own b) ∧ (∀ b, w.heap.size ≤ b → own' b = none) ∧ MemIn own' w pm v sl mem := by
  refine ⟨fun b => if b < w.heap.size then own b else none, fun b hb => if_pos hb, fun b hb => if_neg (by omega), ?_⟩
  exact h.kept (Kept.refl (X := fun _ => False)) (fun b hb => if_pos hb) (fun _ _ _ _ => id)
end
section
theorem info5n : (Try.prog.info? 5).map (fun i => (i.zero, i.size, i.bytes)) = some (some (.int .u8 0), 1, 1) := by kernel_rfl
theorem info103 : (Try.prog.info? 103).map (fun i => (i.zero, i.size, i.bytes)) = some (some (.agg #[.bool false, .int .i64 0, .int .i64 0, .int .i64 0, .slice none 0 0, .int .i64 0]), 6, 64) := by kernel_rfl
/-- What New of the tables hands back. -/
def New9Ok (own : Own) (w : World) (pm : Nat) (mem : List AreaM) (l : List DefM) (e : Ending) (w' : World) : Prop :=
  (defsOk l = false → e = .returned (.tuple #[.pointer none, .int .i64 1]) ∧ Below w.heap.size w w') ∧
  (defsOk l = true → ∃ pt own' v' sl' vt ks, e = .returned (.tuple #[.pointer (some ⟨pt, 0, none⟩), .int .i64 0]) ∧ (∀ b, b < w.heap.size → own' b = own b) ∧ (∀ b, w'.heap.size ≤ b → own' b = none) ∧ MemIn own' w' pm v' sl' (tab0 mem 0 l).1 ∧ TabIn own' w' pt pm vt ks (tab0 mem 0 l).2 ∧ Kept (fun b => own b ≠ none) w w')
/-- Where New of the tables stands. -/
structure N9 (own : Own) (w : World) (pt pm : Nat) (mem : List AreaM) (l : List DefM) (j : Nat) (own1 : Own) (wr : World) (memj : List AreaM) (mapsj : List MapM) (v : Value) (sl : Nat → Value × Value) (vt : Value) (ks : Nat → Value) : Prop where
  low : ∀ b, b < w.heap.size → own1 b = own b
  far : ∀ b, wr.heap.size ≤ b → own1 b = none
  memIn : MemIn own1 wr pm v sl memj
  tab : TabIn own1 wr pt pm vt ks mapsj
  len : mapsj.length = j
  ids : ∀ a ∈ memj, a.id < 4096 + 1024 * (j : Int)
  few : memj.length ≤ 1000 + 16 * j
  eq : tab0 mem 0 l = ((tab0 memj j (l.drop j)).1, mapsj ++ (tab0 memj j (l.drop j)).2)
  kept : Kept (fun b => own b ≠ none) w wr
/-- Where it stands in a map. -/
structure N9I (own : Own) (w : World) (pt pm : Nat) (memj : List AreaM) (j : Nat) (d : DefM) (mapsj : List MapM) (vt : Value) (ks : Nat → Value) (X k : Nat) (own2 : Own) (wq : World) (v2 : Value) (sl2 : Nat → Value × Value) (Ak : Option Addr) (ck : Nat) : Prop where
  low : ∀ b, b < w.heap.size → own2 b = own b
  far : ∀ b, wq.heap.size ≤ b → own2 b = none
  memIn : MemIn own2 wq pm v2 sl2 (addS memj j d.val.toNat k)
  tab : TabIn own2 wq pt pm vt ks mapsj
  box : Blk wq X [.bool d.hash, .int .i64 d.key, .int .i64 d.val, .int .i64 d.max, .slice Ak k ck, .int .i64 k]
  row : wq.ownsRow (X + 1) 106 2 (.slice Ak k ck) k (keysV ((List.range k).map keyD))
  xfree : own2 X = none
  kfree : ∀ b, (Value.slice Ak k ck).ownBlock = some b → own2 b = none
  kept : Kept (fun b => own b ≠ none) w wq
  xw : w.heap.size ≤ X
set_option maxRecDepth 100000 in
set_option maxHeartbeats 4000000 in
theorem rnew9 {own : Own} {w : World} {pm : Nat} {v : Value} {sl : Nat → Value × Value} {mem : List AreaM} (hfar : ∀ b, w.heap.size ≤ b → own b = none) (h : MemIn own w pm v sl mem) (hids : ∀ a ∈ mem, a.id < 4096) (hml : mem.length ≤ 1000) (l : List DefM) (AD : Option Addr) (c : Nat) (hat : SAt w w.heap.size 4 AD l.length (defsV l)) (hDfar : 0 < l.length → ∀ b o, AD = some ⟨b, o, none⟩ → own b = none) (hn : l.length ≤ 1000000) :
    Calls Try.prog 15 #[.pointer (some ⟨pm, 0, none⟩), .slice AD l.length c] w (New9Ok own w pm mem l) := by
  have hrt := rright9 l AD c w hat hn
  cases hok : defsOk l with
  | false =>
    rw [hok] at hrt
    have HO := Lib.hid hok
    clear h hat hDfar hok
    go_enter Try.func15, Try.ntmps15
    go_wp2_with fail
    refine hrt.mono ?_
    rintro e w1 ⟨rfl, hb1⟩
    go_wp2_with fail
    go_ret2
    exact ⟨fun _ => ⟨rfl, hb1⟩, fun e => by rw [HO.out] at e; cases e⟩
  | true =>
    rw [hok] at hrt
    have hl8 : l.length ≤ 8 := by
      unfold defsOk at hok
      simp only [Bool.and_eq_true, decide_eq_true_eq] at hok
      omega
    have hdall : ∀ i, (hi : i < l.length) → defOk l[i] = true := fun i hi => by
      unfold defsOk at hok
      simp only [Bool.and_eq_true, List.all_eq_true] at hok
      exact hok.1 _ (List.getElem_mem hi)
    have HO := Lib.hid hok
    obtain ⟨i6, hi6, hv0, hv1, hv2⟩ := info_parts info106
    obtain ⟨i7, hi7, hu0, hu1, hu2⟩ := info_parts info103
    clear hok
    go_enter Try.func15, Try.ntmps15
    go_wp2_with fail
    refine hrt.mono ?_
    rintro e w1 ⟨rfl, hb1⟩
    have hbT : Below w.heap.size w (w1.alloc (.cells #[.pointer (some ⟨pm, 0, none⟩), .slice none 0 0] 98)) := hb1.alloc hb1.size _
    have hT0 := blk_new (xs := [.pointer (some ⟨pm, 0, none⟩), .slice none 0 0]) (heap_alloc_new w1 (.cells #[.pointer (some ⟨pm, 0, none⟩), .slice none 0 0] 98))
    have hpw := hb1.size
    have hWs : (w1.alloc (.cells #[.pointer (some ⟨pm, 0, none⟩), .slice none 0 0] 98)).heap.size = w1.heap.size + 1 := by simp
    have hdc : ∀ i, (hi : i < l.length) → ∃ bD oD, AD = some ⟨bD, oD, none⟩ ∧ ∀ w', Kept (fun b => own b ≠ none) w w' → w'.cell? ⟨bD, oD + i * 4, none⟩ = some (.bool l[i].hash) ∧ w'.cell? ⟨bD, oD + i * 4 + 1, none⟩ = some (.int .i64 l[i].key) ∧ w'.cell? ⟨bD, oD + i * 4 + 2, none⟩ = some (.int .i64 l[i].val) ∧ w'.cell? ⟨bD, oD + i * 4 + 3, none⟩ = some (.int .i64 l[i].max) := fun i hi => by
      obtain ⟨b, o, e, hb, c0, c1, c2, c3⟩ := defs_at (n := 0) hat hi
      refine ⟨b, o, e, fun w' hk => ?_⟩
      have hx : ¬ own b ≠ none := fun f => f (hDfar (by omega) b o e)
      exact ⟨(hk.cell hb hx).trans c0, (hk.cell hb hx).trans c1, (hk.cell hb hx).trans c2, (hk.cell hb hx).trans c3⟩
    have hstart : N9 own w w1.heap.size pm mem l 0 (fun b => if b = w1.heap.size then some .tabs else own b) (w1.alloc (.cells #[.pointer (some ⟨pm, 0, none⟩), .slice none 0 0] 98)) mem [] v sl (.slice none 0 0) (fun _ => .int .i64 0) := by
      refine ⟨fun b hb => if_neg (by omega), fun b hb => ?_, (h.below hbT).reown (fun b r e hb => ?_), ⟨if_pos rfl, hT0, ⟨World.ownsRow_nil _ _ _ _, fun b hb => by simp [Value.ownBlock] at hb⟩, (by simp), (fun x hx => absurd hx (by simp)), (fun i hi => absurd hi (by simp))⟩, rfl, fun a ha => by have := hids a ha; omega, by omega, ?_, Kept.of hbT (Nat.le_refl _)⟩
      · show (if b = w1.heap.size then _ else own b) = none
        rw [if_neg (by omega)]
        exact hfar b (by omega)
      · show (if b = w1.heap.size then _ else own b) = some r
        rw [if_neg (fun e2 => by rw [e2, hfar _ hpw] at e; cases e)]
        exact e
      · simp
    clear h hat hDfar hids hml hT0 hbT hWs hb1
    go_wp2_with fail
    generalize w1.alloc (.cells #[.pointer (some ⟨pm, 0, none⟩), .slice none 0 0] 98) = W at *
    generalize w1.heap.size = pt at *
    go_loopw [7] (fun q wr => ∃ (j : Nat) (own1 : Own) (memj : List AreaM) (mapsj : List MapM) (v1 : Value) (sl1 : Nat → Value × Value) (Am : Option Addr) (cm : Nat) (ks : Nat → Value), j ≤ l.length ∧ q = .int .i64 j ∧ N9 own w pt pm mem l j own1 wr memj mapsj v1 sl1 (.slice Am j cm) ks) (fun q _ => l.length - (intOf q).toNat)
    case atStart => exact ⟨0, _, mem, [], v, sl, none, 0, _, by omega, rfl, hstart⟩
    case round =>
      obtain ⟨j, own1, memj, mapsj, v1, sl1, Am, cm, ks, hj, rfl, hN⟩ := hrel
      clear hstart
      rcases Nat.lt_or_ge j l.length with hlt | hge
      · have hji : (j : Int) < (l.length : Int) := by omega
        obtain ⟨bD, oD, rfl, hdk⟩ := hdc j hlt
        obtain ⟨c0, c1, c2, c3⟩ := hdk _ hN.kept
        have hdj := hdall j hlt
        have htd : l.drop j = l[j] :: l.drop (j + 1) := List.drop_eq_getElem_cons hlt
        have HTD := Lib.hid htd
        generalize l[j] = d at *
        clear hdc htd
        obtain ⟨dp1, dp2, dp3, dp4, dp5⟩ := defOk_parts hdj
        obtain ⟨nv, hnv⟩ := Int.eq_ofNat_of_zero_le (show 0 ≤ d.val by omega)
        have hmkS : ∀ W, (Instr.makeSlice 23 (.int .i64 d.val) (.int .i64 d.val)).run Try.prog W = .ok (.slice (some ⟨W.heap.size, 0, none⟩) d.val.toNat d.val.toNat) (W.alloc (.cells (madeCells #[Value.int .u8 0] d.val.toNat) 5)) := fun W => by
          rw [hnv]
          exact run_make_row' (P := Try.prog) 23 5 (.int .u8 0) 1 Try.underlying23 info5n rfl .i64 .i64 nv (by omega) (by omega) W
        have hnv64 : d.val.toNat ≤ 64 := by omega
        clear hnv
        have hbx := below_boxes1 wr (.cells #[.bool d.hash, .int .i64 d.key, .int .i64 d.val, .int .i64 d.max, .slice none 0 0, .int .i64 0] 103)
        have hX := blk_new (xs := [.bool d.hash, .int .i64 d.key, .int .i64 d.val, .int .i64 d.max, .slice none 0 0, .int .i64 0]) (heap_alloc_new wr (.cells #[.bool d.hash, .int .i64 d.key, .int .i64 d.val, .int .i64 d.max, .slice none 0 0, .int .i64 0] 103))
        have hXs : (wr.alloc (.cells #[.bool d.hash, .int .i64 d.key, .int .i64 d.val, .int .i64 d.max, .slice none 0 0, .int .i64 0] 103)).heap.size = wr.heap.size + 1 := by simp
        have hst : N9I own w pt pm memj j d mapsj (.slice Am j cm) ks wr.heap.size 0 own1 (wr.alloc (.cells #[.bool d.hash, .int .i64 d.key, .int .i64 d.val, .int .i64 d.max, .slice none 0 0, .int .i64 0] 103)) v1 sl1 none 0 := by
          refine ⟨hN.low, fun b hb => hN.far b (by omega), ?_, hN.tab.below hbx, hX, by simpa [keysV] using World.ownsRow_nil _ _ _ _, hN.far _ (Nat.le_refl _), fun b hb => by simp [Value.ownBlock] at hb, hN.kept.trans (Kept.of (X := fun b => own b ≠ none) hbx (Nat.le_refl _)) (fun _ _ e => e), hN.kept.size⟩
          rw [addS_zero]; exact hN.memIn.below hbx
        have HN := Lib.hid hN
        have hfew := hN.few
        have hids := hN.ids
        have hkw := hN.kept
        clear hN hX
        go_upto_block 2 with fail
        clear c0 c1 c2 c3
        generalize wr.alloc (.cells #[.bool d.hash, .int .i64 d.key, .int .i64 d.val, .int .i64 d.max, .slice none 0 0, .int .i64 0] 103) = Wx at *
        generalize wr.heap.size = X at *
        go_cut [7, 8] from 21 to 86 (fun v7 v8 wq => v7 = .int .i64 j ∧ v8 = .pointer (some ⟨X, 0, none⟩) ∧ ∃ own2 v2 sl2 Ak ck, N9I own w pt pm memj j d mapsj (.slice Am j cm) ks X (manyD d) own2 wq v2 sl2 Ak ck)
        case first =>
          go_wp2_with fail
          go_loopw [9] (fun q wq => ∃ (k : Nat) (own2 : Own) (v2 : Value) (sl2 : Nat → Value × Value) (Ak : Option Addr) (ck : Nat), k ≤ manyD d ∧ q = .int .i64 k ∧ N9I own w pt pm memj j d mapsj (.slice Am j cm) ks X k own2 wq v2 sl2 Ak ck) (fun q _ => manyD d - (intOf q).toNat)
          case atStart => exact ⟨0, own1, v1, sl1, none, 0, Nat.zero_le _, rfl, hst⟩
          case round =>
            obtain ⟨k, own2, v2, sl2, Ak, ck, hk, rfl, hI⟩ := hrel
            obtain ⟨wq, hwq⟩ : ∃ wq : World, wq = wr := ⟨wr, rfl⟩
            subst hwq
            clear hst
            obtain ⟨c0, c1, c2, c3⟩ := hdk _ hI.kept
            cases hh : d.hash with
            | true =>
              have hm0 : manyD d = 0 := by unfold manyD; rw [if_pos hh]
              obtain rfl : k = 0 := by omega
              have hkm : (0 : Int) < d.max := by omega
              rw [hh] at c0
              have HI := Lib.hid hI
              have HM := Lib.hid hm0
              clear hI hm0
              go_wp2_with fail
              go_meet
              case rel => exact ⟨rfl, rfl, own2, v2, sl2, Ak, ck, by rw [HM.out]; exact HI.out⟩
            | false =>
              have hm0 : manyD d = d.max.toNat := by unfold manyD; rw [if_neg (by rw [hh]; decide)]
              rw [hh] at c0
              rcases Nat.lt_or_ge k (manyD d) with hlk | hgk
              · have hkm : (k : Int) < d.max := by omega
                have hml : (addS memj j d.val.toNat k).length ≤ 1000000 := by simp [addS]; omega
                have hsl := fun w => rslot9 j k (by omega) (by omega) (by omega) (by omega) w
                have hmake : ∀ W', Below wq.heap.size wq W' → SAt W' W'.heap.size 1 (some ⟨wq.heap.size, 0, none⟩) d.val.toNat (bytesV (List.replicate d.val.toNat 0)) → Calls Try.prog 14 #[.pointer (some ⟨pm, 0, none⟩), .int .i64 (slotArea j k), .slice (some ⟨wq.heap.size, 0, none⟩) d.val.toNat d.val.toNat, .bool false, .bool false] W' fun e w' => e = .returned (.int .i64 0) ∧ ∃ own' v' sl', (∀ b, b < W'.heap.size → own' b = own2 b) ∧ MemIn own' w' pm v' sl' (addS memj j d.val.toNat (k + 1)) ∧ Kept (fun b => own2 b = some .mem ∨ own2 b = some .areas) W' w' := fun W' hb hs => by
                  have := rmake8 (hI.memIn.below hb) hml (slotArea j k) (by unfold slotArea; omega) (by unfold slotArea; omega) (some ⟨wq.heap.size, 0, none⟩) d.val.toNat (List.replicate d.val.toNat 0) (fun b hb => by rw [List.mem_replicate] at hb; omega) (by simp; omega) false false W'.heap.size (Nat.le_refl _) (by simpa using hs)
                  rw [addS_make hids (by omega) (by omega) hnv64, List.length_replicate] at this
                  exact this
                have hzs : SAt (wq.alloc (.cells (madeCells #[Value.int .u8 0] d.val.toNat) 5)).drew (wq.alloc (.cells (madeCells #[Value.int .u8 0] d.val.toNat) 5)).drew.heap.size 1 (some ⟨wq.heap.size, 0, none⟩) d.val.toNat (bytesV (List.replicate d.val.toNat 0)) := by
                  have := sat_new wq 5 (madeCells #[Value.int .u8 0] d.val.toNat) 1 d.val.toNat (by simp [size_madeCells])
                  rw [toList_madeCells_one] at this
                  have h2 : bytesV (List.replicate d.val.toNat 0) = List.replicate d.val.toNat (Value.int .u8 0) := by simp [bytesV]
                  rw [h2]
                  exact (this.below (Below.refl _ _).drew).more (by simp [World.drew])
                have c2n : ∀ w', Below wq.heap.size wq w' → w'.cell? ⟨bD, oD + j * 4 + 2, none⟩ = some (.int .i64 d.val) := fun w' hb => (hb.cell (p := ⟨bD, oD + j * 4 + 2, none⟩) (World.block_lt_of_cell? wq _ c2)).trans c2
                have HI := Lib.hid hI
                have hkI := hI.kept
                clear hI
                go_upto_region 11 with fail
                clear c0 c1 c3
                go_region_law
                  (first
                    | (go_simp; refine (hsl _).mono ?_; rintro e w2 ⟨rfl, rfl⟩)
                    | (go_simp; refine (hmake _ (by (repeat (first | assumption | exact Below.refl _ _ | refine sbelow_drew ?_ | refine sbelow_alloc ?_ (Nat.le_refl _)))) hzs).mono ?_; rintro e w6 ⟨rfl, own6, v6, sl6, ho6, hm6, hk6⟩))
                all_goals
                  have hI := HI.out
                  have hsz6 : wq.heap.size + 1 ≤ w6.heap.size := Nat.le_trans (by simp [World.drew]) hk6.size
                  have hlow6 : ∀ b, b < wq.heap.size → own6 b = own2 b := fun b hb => ho6 b (Nat.lt_of_lt_of_le hb (by simp [World.drew]))
                  have hkq6 : Kept (fun b => own2 b = some .mem ∨ own2 b = some .areas) wq w6 := (Kept.of (X := fun b => own2 b = some .mem ∨ own2 b = some .areas) (B := wq.heap.size) (by (repeat (first | assumption | exact Below.refl _ _ | refine sbelow_drew ?_ | refine sbelow_alloc ?_ (Nat.le_refl _)))) (Nat.le_refl _)).trans hk6 (fun _ _ e => e)
                  obtain ⟨own7, r1, r2, hm7⟩ := hm6.restrict
                  have hlow7 : ∀ b, b < wq.heap.size → own7 b = own2 b := fun b hb => (r1 b (Nat.lt_of_lt_of_le hb hkq6.size)).trans (hlow6 b hb)
                  have hXl := hI.box.lt
                  have hXn : ¬ (own2 X = some .mem ∨ own2 X = some .areas) := by rw [hI.xfree]; simp
                  have hAn : ∀ b, (Value.slice Ak k ck).ownBlock = some b → own7 b = none ∧ X + 1 ≤ b ∧ b < wq.heap.size := fun b e => ⟨(hlow7 b (hI.row.lt b e).2).trans (hI.kfree b e), hI.row.lt b e⟩
                  have hT7 := hI.tab.kept hkq6 hlow7 (fun b r e hr f => by rcases f with f | f <;> (rw [f] at e; cases e; exact hr))
                  have hB7 := hI.box.kept hkq6 hXn
                  have hR7 := own_kept hI.row hkq6 (fun b e f => by have := hI.kfree b e; rw [this] at f; rcases f with f | f <;> cases f)
                  have hkw7 := hI.kept.trans hkq6 (fun i hi e f => by rw [← hI.low i hi] at f; rw [f] at e; rcases e with e | e <;> cases e)
                  have hX7 : own7 X = none := (hlow7 X hXl).trans hI.xfree
                  have hxw := hI.xw
                  have hlw7 : ∀ b, b < w.heap.size → own7 b = own b := fun b hb => (hlow7 b (Nat.lt_of_lt_of_le hb hI.kept.size)).trans (hI.low b hb)
                  obtain ⟨⟨y0, y1, y2, y3, y4, y5⟩, f0, f1, f2, f3, f4, f5⟩ := Blk.six hB7
                  have hw8 : IntKind.u8.wrap ((k : Nat) : Int) = ((k : Nat) : Int) := by rw [IntKind.wrap_u8]; omega
                  have hst8 : (convert 23 9 (.slice (some ⟨w6.heap.size, 0, none⟩) 4 4)).run Try.prog (w6.alloc (.cells #[.int .u8 k, .int .u8 0, .int .u8 0, .int .u8 0] 5)) = .ok (.string (strOfNums [(k : Int), 0, 0, 0])) (w6.alloc (.cells #[.int .u8 k, .int .u8 0, .int .u8 0, .int .u8 0] 5)) := run_string_sat [(k : Int), 0, 0, 0] (sat_new w6 5 #[.int .u8 k, .int .u8 0, .int .u8 0, .int .u8 0] 1 4 rfl) 23 9 5 rfl rfl rfl
                  have hR8 : (w6.alloc (.cells #[.int .u8 k, .int .u8 0, .int .u8 0, .int .u8 0] 5)).ownsRow (X + 1) 106 2 (.slice Ak k ck) k (keysV ((List.range k).map keyD)) := hR7.alloc _
                  have hk16 : k < 16 := by omega
                  have HP := Lib.hid (And.intro hm7 (And.intro hT7 (And.intro hB7 (And.intro hkw7 (And.intro hAn (And.intro r2 (And.intro hX7 hlw7)))))))
                  clear hm7 hT7 hB7 hkw7 hAn r2 hX7 hlw7 hI hlow6 hlow7 hm6 ho6 hk6 r1 hkq6 hR7 c2n c2 hmake hzs hmkS hsl
                  go_wp2_with (at_builtin; refine wpList_append_box rfl (.tmp 63) (.tmp 70) 101 rfl (X + 1) 106 i6 (.agg #[.string ByteArray.empty, .int .i64 0]) 2 24 Try.underlying101 hi6 hv0 hv1 hv2 rfl (by decide) Ak k ck 1 (keysV ((List.range k).map keyD)) rfl rfl (by simp) hR8 rfl ?c1 ?c2 ?c3 ?c4 ?c5)
                  case c1 => exact ⟨rfl, rfl⟩
                  case c2 => simp only [maxLen]; omega
                  case c3 => omega
                  case c4 => simp; omega
                  case c5 =>
                    intro A8 c8 w8 ho8 hg8 hb8 hor8
                    obtain ⟨hm7, hT7, hB7, hkw7, hAn, r2, hX7, hlw7⟩ := HP.out
                    have hk68 : Kept (fun b => (Value.slice Ak k ck).ownBlock = some b) w6 w8 := (Kept.of (X := fun b => (Value.slice Ak k ck).ownBlock = some b) (below_boxes1 w6 (.cells #[.int .u8 k, .int .u8 0, .int .u8 0, .int .u8 0] 5)) (Nat.le_refl _)).trans (grown_kept hg8 (fun _ h => h)) (fun _ _ e => e)
                    have hXA : ¬ (Value.slice Ak k ck).ownBlock = some X := fun e => by have := (hAn X e).2.1; omega
                    have hB8 := hB7.kept hk68 hXA
                    obtain ⟨⟨x0, x1, x2, x3, x4, x5⟩, g0, g1, g2, g3, g4, g5⟩ := Blk.six hB8
                    have hB9 := (hB8.set (k := 4) (by simp) (.slice A8 (k + 1) c8)).set (k := 5) (by simp) (.int .i64 ((k + 1 : Nat) : Int))
                    have hks : Kept (fun b => b = X) w8 ((w8.setCell ⟨X, 4, none⟩ (.slice A8 (k + 1) c8)).setCell ⟨X, 5, none⟩ (.int .i64 ((k + 1 : Nat) : Int))) := Kept.set (X := fun b => b = X) (Kept.set (X := fun b => b = X) Kept.refl rfl) rfl
                    have hkf : Kept (fun b => (Value.slice Ak k ck).ownBlock = some b ∨ b = X) w6 ((w8.setCell ⟨X, 4, none⟩ (.slice A8 (k + 1) c8)).setCell ⟨X, 5, none⟩ (.int .i64 ((k + 1 : Nat) : Int))) := ((Kept.refl (X := fun b => (Value.slice Ak k ck).ownBlock = some b ∨ b = X)).trans hk68 (fun _ _ e => .inl e)).trans hks (fun _ _ e => .inr e)
                    have hnn : ∀ b r, own7 b = some r → ¬ ((Value.slice Ak k ck).ownBlock = some b ∨ b = X) := fun b r e f => by
                      rcases f with f | f
                      · rw [(hAn b f).1] at e; cases e
                      · rw [f, hX7] at e; cases e
                    have hsz9 : w6.heap.size ≤ ((w8.setCell ⟨X, 4, none⟩ (.slice A8 (k + 1) c8)).setCell ⟨X, 5, none⟩ (.int .i64 ((k + 1 : Nat) : Int))).heap.size := hkf.size
                    have hnew : N9I own w pt pm memj j d mapsj (.slice Am j cm) ks X (k + 1) own7 ((w8.setCell ⟨X, 4, none⟩ (.slice A8 (k + 1) c8)).setCell ⟨X, 5, none⟩ (.int .i64 ((k + 1 : Nat) : Int))) v6 sl6 A8 c8 := by
                      refine ⟨hlw7, fun b hb => r2 b (Nat.le_trans hsz9 hb), hm7.kept hkf (fun _ _ => rfl) (fun b r e _ => hnn b r e), hT7.kept hkf (fun _ _ => rfl) (fun b r e _ => hnn b r e), ?_, ?_, hX7, fun b e => ?_, hkw7.trans hkf (fun i hi e f => ?_), hxw⟩
                      · exact hB9
                      · rw [keysV_range]
                        exact own_kept ho8 hks (fun b e f => by have := (ho8.lt b e).1; omega)
                      · rcases hor8 with h | h
                        · exact (hAn b (by rw [← h]; exact e)).1
                        · rw [h] at e
                          have : (w6.alloc (.cells #[.int .u8 k, .int .u8 0, .int .u8 0, .int .u8 0] 5)).heap.size = w6.heap.size + 1 := by simp
                          simp only [Option.some.injEq] at e
                          exact r2 b (by omega)
                      · rcases e with e | e
                        · have := (hAn i e).2.1; omega
                        · omega
                    have HNW := Lib.hid hnew
                    clear hnew hm7 hT7 hB7 hkw7 hAn r2 hX7 hlw7 hk68 hXA hB8 hB9 hks hkf hnn hsz9 ho8 hg8 hb8 hor8 y0 y1 y2 y3 y4 y5 f0 f1 f2 f3 f4 f5 hR8 hst8
                    go_wp2_with fail
                    go_roundw
                    case rel => exact ⟨k + 1, own7, v6, sl6, A8, c8, by omega, by go_num, HNW.out⟩
                    all_goals (simp [intOf]; omega)
              · have hkm : ¬ (k : Int) < d.max := by omega
                have HI := Lib.hid hI
                have HM := Lib.hid (show k = manyD d by omega)
                clear hI hm0
                go_wp2_with fail
                go_meet
                case rel => exact ⟨rfl, rfl, own2, v2, sl2, Ak, ck, by rw [← HM.out]; exact HI.out⟩
        case rest =>
          obtain ⟨rfl, rfl, own2, v2, sl2, Ak, ck, hI⟩ := hcut
          clear hst hbx hmkS
          obtain ⟨⟨y0, y1, y2, y3, y4, y5⟩, -⟩ := Blk.six hI.box
          have t1 : wc.cell? ⟨pt, 1, none⟩ = some (.slice Am j cm) := hI.tab.blk.cell rfl
          have ft := hI.tab.blk.free 1
          have hlen := HN.out.len
          have hrow := hI.tab.row.row
          rw [hlen] at hrow
          have hAm : ∀ b, (Value.slice Am j cm).ownBlock = some b → ¬ b = pt := fun b e f => by
            have h1 := hI.tab.row.role b e
            rw [f, hI.tab.role] at h1; cases h1
          have hplt := hI.tab.blk.lt
          have HI := Lib.hid hI
          have HA := Lib.hid hAm
          have h8l : mapsj.length < 8 := by omega
          clear hI hAm
          go_upto_region 16 with fail
          go_region_law (first | (refine step_append_x rfl (.tmp 81) (.tmp 83) 96 rfl 0 103 i7 _ 6 64 Try.underlying96 hi7 hu0 hu1 hu2 rfl (by decide) Am j cm (mapsV ks mapsj 0) rfl ?_ (wc.heap.size + 1) (some ⟨wc.heap.size, 0, none⟩) 1 1 [.bool d.hash, .int .i64 d.key, .int .i64 d.val, .int .i64 d.max, .slice Ak (manyD d) ck, .int .i64 (manyD d : Nat)] rfl ?_ (by decide) ?_ ?_ ?_ (Nat.zero_le _) ?_; (exact hrow.alloc _); (exact sat_new wc 103 #[.bool d.hash, .int .i64 d.key, .int .i64 d.val, .int .i64 d.max, .slice Ak (manyD d) ck, .int .i64 (manyD d : Nat)] 6 1 rfl); (intro u hu; simp at hu; rcases hu with rfl | rfl | rfl | rfl | rfl | rfl <;> rfl); (simp only [maxLen]; omega); (omega); (intro A8 c8 w8 ho8 hg8 hor8; have kk8 : Kept (fun k => (Value.slice Am j cm).ownBlock = some k) wc w8 := (Kept.of (X := fun k => (Value.slice Am j cm).ownBlock = some k) (below_boxes1 wc _).drew (Nat.le_refl _)).trans (grown_kept (X := fun k => (Value.slice Am j cm).ownBlock = some k) hg8 (fun _ h => h)) (fun _ _ h => h); have p1 : w8.cell? ⟨pt, 1, none⟩ = some (.slice Am j cm) := (kk8.cell hplt (fun e => HA.out pt e rfl)).trans t1; have g1 : w8.frozen? ⟨pt, 1, none⟩ = false := (kk8.frozen hplt (fun e => HA.out pt e rfl)).trans ft)))
          all_goals
            have hI := HI.out
            have hN := HN.out
            have hj8 := hI.tab.addMap hI.far hI.memIn (mapD d) (mapD_ok hdj) h8l (K := .slice Ak (manyD d) ck) (B := X + 1) (by simpa [mapD] using hI.row) hI.kfree A8 c8 (w1 := w8) (by rw [hlen]; exact ho8) ⟨kk8.os, kk8.tape, kk8.output, kk8.size, fun k hk hne => kk8.block k hk (fun e => hne e.symm)⟩ (by rw [hlen]; rcases hor8 with h | h; exact .inl h; exact .inr ⟨_, h, by simp [World.drew]⟩)
            rw [hlen] at hj8
            obtain ⟨own5, q1, q2, q3, q4, q5, q6⟩ := hj8
            have hxw := hI.xw
            have hnext : N9 own w pt pm mem l (j + 1) own5 (w8.setCell ⟨pt, 1, none⟩ (.slice A8 (j + 1) c8)) (addS memj j d.val.toNat (manyD d)) (mapsj ++ [mapD d]) v2 sl2 (.slice A8 (j + 1) c8) (fun i => if i = j then .slice Ak (manyD d) ck else ks i) := by
              refine ⟨fun b hb => ?_, fun b hb => q3 b (by simpa using hb), q5, q4, by simp [hlen], fun a ha => ?_, ?_, ?_, hI.kept.trans q6 (fun i hi e f => ?_)⟩
              · have hbc : b < wc.heap.size := Nat.lt_of_lt_of_le hb hI.kept.size
                cases ho : own2 b with
                | some r => rw [q1 b hbc (by rw [ho]; simp), hI.low b hb]
                | none =>
                  rw [← hI.low b hb, ho]
                  cases h5 : own5 b with
                  | none => rfl
                  | some r =>
                    have h6 := q2 b hbc (by rw [h5]; simp) ho
                    have := (hI.row.lt b h6).1
                    omega
              · have := addS_ids (val := d.val.toNat) (k := manyD d) hids a ha
                omega
              · simp only [addS, List.length_append, List.length_map, List.length_range]; omega
              · rw [hN.eq, HTD.out, tab0_cons]
                simp
              · rcases e with e | e
                · rw [hI.low i hi, f] at e; cases e
                · have h1 := hI.tab.role
                  rw [← e, hI.low i hi, f] at h1; cases h1
            have HNX := Lib.hid hnext
            clear hnext hI hN q1 q2 q3 q4 q5 q6 ho8 hg8 hor8 kk8 p1 g1 y0 y1 y2 y3 y4 y5 t1 ft hrow
            go_wp2_with fail
            go_roundw
            case rel => exact ⟨j + 1, own5, _, _, v2, sl2, A8, c8, _, by omega, by go_num, HNX.out⟩
            all_goals (simp [intOf]; omega)
      · have hji : ¬ (j : Int) < (l.length : Int) := by omega
        have hjl : j = l.length := by omega
        have HN := Lib.hid hN
        clear hN hdc
        go_wp2_with fail
        go_ret2
        refine ⟨fun e => absurd e (by rw [HO.out]; decide), fun _ => ?_⟩
        have hN := HN.out
        have he := hN.eq
        rw [List.drop_of_length_le hge] at he
        have hm1 := hN.memIn
        have ht1 := hN.tab
        have e1 : (tab0 mem 0 l).1 = memj := by rw [he]; rfl
        have e2 : (tab0 mem 0 l).2 = mapsj := by rw [he]; simp [tab0]
        rw [← e1] at hm1
        rw [← e2] at ht1
        exact ⟨pt, own1, v1, sl1, _, ks, rfl, hN.low, hN.far, hm1, ht1, hN.kept⟩
end
end Go.Proofs.Ytncogaikiceidaa
