/- Items. No statement is proved here. -/
import Derived.Test.YtncogaikiceidaaN18
import Derived.Test.YtncogaikiceidaaN13
import Derived.BigQuiet
import Derived.Laws.IdiomStrings
namespace Go.Proofs.Ytncogaikiceidaa
set_option maxRecDepth 100000
open Go.RowKit
set_option linter.unusedSimpArgs false
set_option linter.unusedVariables false
set_option linter.unnecessarySimpa false
section
theorem conv_bytes (k : List Int) (hk : BytesOk k) (W : World) : ∃ (cap : Nat) (cs : Array Value) (fz : Nat × Nat), (convert 9 23 (.string (strOfNums k))).run Try.prog W = .ok (.slice (some ⟨W.heap.size, 0, none⟩) k.length cap) (W.drew.alloc (.cells cs 5 fz)) ∧ ∀ (j : Nat) (u : Value), (bytesV k)[j]? = some u → cs.toList[j]? = some u := by
  have hsz : (strOfNums k).size = k.length := by
    have := congrArg List.length (str_toList k)
    rw [ByteArray.toList_eq] at this
    simpa using this
  have h := run_bytes_of_string (P := Try.prog) W 9 23 5 (strOfNums k) rfl rfl rfl
  rw [hsz] at h
  refine ⟨_, _, _, h, fun j u hu => ?_⟩
  have hj : j < k.length := by
    have := (List.getElem?_eq_some_iff.1 hu).1
    simpa [bytesV] using this
  have hb := hk k[j] (List.getElem_mem hj)
  have hu2 : u = .int .u8 k[j] := by
    rw [bytesV, List.getElem?_map, List.getElem?_eq_getElem hj] at hu
    simpa using hu.symm
  have hl : (strOfNums k).data.toList = k.map fun n => UInt8.ofNat n.toNat := by
    have := str_toList k
    rwa [ByteArray.toList_eq] at this
  unfold bytesRow
  rw [Array.toList_append, Array.toList_map, hl, List.getElem?_append_left (by simpa using hj)]
  simp only [List.getElem?_map, List.getElem?_eq_getElem hj, Option.map_some, UInt8.toNat_ofNat', hu2]
  congr 2
  omega
end
section
/-! ### Items -/
/-- An item's rows, none of them in a block. -/
structure ItemFar (w : World) (S : Nat) (ob : Option Nat) (d : Value × Value) (y : ItemM) : Prop where
  key : ∃ A c, d.1 = .slice A y.key.length c ∧ SAt w w.heap.size 1 A y.key.length (bytesV y.key) ∧ (0 < y.key.length → ∀ b o, A = some ⟨b, o, none⟩ → ob ≠ some b ∧ S ≤ b)
  val : ∃ A c, d.2 = .slice A y.val.length c ∧ SAt w w.heap.size 1 A y.val.length (bytesV y.val) ∧ (0 < y.val.length → ∀ b o, A = some ⟨b, o, none⟩ → ob ≠ some b ∧ S ≤ b)
def itemOf (mem : List AreaM) (i : Nat) (x : KeyM) : ItemM := ⟨x.k, if idxM (mem.map AreaM.id) (slotArea i x.slot) 0 < 0 then [] else (areaAt mem (idxM (mem.map AreaM.id) (slotArea i x.slot) 0).toNat).bytes⟩
theorem itemsM_map (mem : List AreaM) (t : List MapM) (i : Nat) : itemsM mem t i = (mapAt t i).l.map (itemOf mem i) := rfl
theorem sat_of_grown {w w1 : World} {size n : Nat} {r : Option Nat} {A : Option Addr} {xs : List Value} (h : SAt w w.heap.size size A n xs) (hg : w.grownBy w1 r) (hr : 0 < n → ∀ b o, A = some ⟨b, o, none⟩ → r ≠ some b) : SAt w1 w1.heap.size size A n xs := by
  refine ⟨h.1, fun hn => ?_⟩
  obtain ⟨b, o, e, hb, hc⟩ := h.2 hn
  refine ⟨b, o, e, Nat.lt_of_lt_of_le hb hg.size, fun j u hu => ?_⟩
  rw [World.cell?_of_block (a := ⟨b, o + j, none⟩) (hg.block b hb (fun e2 => hr hn b o e e2.symm))]
  exact hc j u hu
theorem sat_of_below {w w1 : World} {size n : Nat} {A : Option Addr} {xs : List Value} (h : SAt w w.heap.size size A n xs) (hb : Below w.heap.size w w1) : SAt w1 w1.heap.size size A n xs := (h.below hb).more hb.size
theorem rareaI {own : Own} {w : World} {pm : Nat} {v : Value} {sl : Nat → Value × Value} {mem : List AreaM} (h : MemIn own w pm v sl mem) (hn : mem.length ≤ 1000000) (i : Nat) (x : KeyM) (w' : World) (hb : Below w.heap.size w w') :
    Calls Try.prog 52 #[.pointer (some ⟨pm, 0, none⟩), .int .i64 (slotArea i x.slot)] w' fun e w2 => (∃ A c ok, e = .returned (.tuple #[.slice A (itemOf mem i x).val.length c, .bool ok]) ∧ SAt w w.heap.size 1 A (itemOf mem i x).val.length (bytesV (itemOf mem i x).val)) ∧ Below w'.heap.size w' w2 := by
  refine (rarea8 (h.below hb) hn (slotArea i x.slot)).mono ?_
  rintro e w2 ⟨⟨u, rfl, h0, h1⟩, hb2⟩
  refine ⟨?_, hb2⟩
  rcases idx_lt (ids := mem.map AreaM.id) (a := slotArea i x.slot) 0 with hk | ⟨k, hk, he⟩
  · have hneg : idxM (mem.map AreaM.id) (slotArea i x.slot) 0 < 0 := by rw [hk]; decide
    have hv : (itemOf mem i x).val = [] := by unfold itemOf; rw [if_pos hneg]
    rw [hv, h0 hneg]
    exact ⟨none, 0, _, rfl, SAt.nil_⟩
  · have hk2 : k < mem.length := by simpa using hk
    have he2 : idxM (mem.map AreaM.id) (slotArea i x.slot) 0 = ((k : Nat) : Int) := by rw [he]; congr 1; omega
    have hv : (itemOf mem i x).val = mem[k].bytes := by
      unfold itemOf
      rw [if_neg (by rw [he2]; omega), he2]
      simp [areaAt, List.getD_eq_getElem?_getD, hk2]
    obtain ⟨A, c, e1, hs⟩ := (h.area k hk2).b.sat
    rw [hv, h1 k he2, e1]
    exact ⟨A, c, _, rfl, hs⟩
theorem conv_all (k : List Int) (hk : BytesOk k) : ∃ (cap : World → Nat) (cs : World → Array Value) (fz : World → Nat × Nat), ∀ W : World, (convert 9 23 (.string (strOfNums k))).run Try.prog W = .ok (.slice (some ⟨W.heap.size, 0, none⟩) k.length (cap W)) (W.drew.alloc (.cells (cs W) 5 (fz W))) ∧ ∀ (j : Nat) (u : Value), (bytesV k)[j]? = some u → (cs W).toList[j]? = some u :=
  ⟨fun W => Classical.choose (conv_bytes k hk W), fun W => Classical.choose (Classical.choose_spec (conv_bytes k hk W)), fun W => Classical.choose (Classical.choose_spec (Classical.choose_spec (conv_bytes k hk W))), fun W => Classical.choose_spec (Classical.choose_spec (Classical.choose_spec (conv_bytes k hk W)))⟩
theorem conv_sat {W : World} {k : List Int} {cs : Array Value} {fz : Nat × Nat} (h : ∀ (j : Nat) (u : Value), (bytesV k)[j]? = some u → cs.toList[j]? = some u) : SAt (W.alloc (.cells cs 5 fz)) (W.alloc (.cells cs 5 fz)).heap.size 1 (some ⟨W.heap.size, 0, none⟩) k.length (bytesV k) := by
  refine ⟨by simp [bytesV], fun _ => ⟨W.heap.size, 0, rfl, by simp, fun j u hu => ?_⟩⟩
  rw [Nat.zero_add, cell_of_row _ _ _ cs 5 fz (heap_alloc_new W _), ← h j u hu]
  exact (Array.getElem?_toList).symm
theorem far_join {S : Nat} {wr Wg w8 : World} {F : Nat → ItemM} {d : Nat → Value × Value} {j : Nat} {Ao A8 : Option Addr} {co c8 : Nat} (hb : Below wr.heap.size wr Wg) (hfar : ∀ i, i < j → ItemFar wr S (Value.slice Ao j co).ownBlock (d i) (F i)) (hS : S ≤ wr.heap.size) (hAo : ∀ b, (Value.slice Ao j co).ownBlock = some b → b < wr.heap.size) (K V : Value)
    (hK : ∃ A c, K = .slice A (F j).key.length c ∧ SAt Wg Wg.heap.size 1 A (F j).key.length (bytesV (F j).key) ∧ (0 < (F j).key.length → ∀ b o, A = some ⟨b, o, none⟩ → wr.heap.size ≤ b))
    (hV : ∃ A c, V = .slice A (F j).val.length c ∧ SAt Wg Wg.heap.size 1 A (F j).val.length (bytesV (F j).val) ∧ (0 < (F j).val.length → ∀ b o, A = some ⟨b, o, none⟩ → wr.heap.size ≤ b))
    (hg : Wg.grownBy w8 (Value.slice Ao j co).ownBlock) (hor : (Value.slice A8 (j + 1) c8).ownBlock = (Value.slice Ao j co).ownBlock ∨ (Value.slice A8 (j + 1) c8).ownBlock = some Wg.heap.size) :
    ∀ i, i < j + 1 → ItemFar w8 S (Value.slice A8 (j + 1) c8).ownBlock (if i = j then (K, V) else d i) (F i) := by
  have hnew : ∀ {n : Nat} {A : Option Addr} {xs : List Value}, SAt Wg Wg.heap.size 1 A n xs → (0 < n → ∀ b o, A = some ⟨b, o, none⟩ → (Value.slice Ao j co).ownBlock ≠ some b ∧ S ≤ b) → SAt w8 w8.heap.size 1 A n xs ∧ (0 < n → ∀ b o, A = some ⟨b, o, none⟩ → (Value.slice A8 (j + 1) c8).ownBlock ≠ some b ∧ S ≤ b) := fun hs hn => by
    refine ⟨sat_of_grown hs hg (fun h0 b o e => (hn h0 b o e).1), fun h0 b o e => ⟨?_, (hn h0 b o e).2⟩⟩
    rcases hor with h | h
    · rw [h]; exact (hn h0 b o e).1
    · rw [h]
      obtain ⟨b', o', e', hb', -⟩ := hs.2 h0
      rw [e] at e'; cases e'
      intro e2; cases e2; omega
  have hback : ∀ b, wr.heap.size ≤ b → (Value.slice Ao j co).ownBlock ≠ some b := fun b h e => by have := hAo b e; omega
  intro i hi
  by_cases e : i = j
  · subst e
    rw [if_pos rfl]
    obtain ⟨A1, c1, e1, s1, f1⟩ := hK
    obtain ⟨A2, c2, e2, s2, f2⟩ := hV
    obtain ⟨p1, p2⟩ := hnew s1 (fun h0 b o e => ⟨hback b (f1 h0 b o e), Nat.le_trans hS (f1 h0 b o e)⟩)
    obtain ⟨q1, q2⟩ := hnew s2 (fun h0 b o e => ⟨hback b (f2 h0 b o e), Nat.le_trans hS (f2 h0 b o e)⟩)
    exact ⟨⟨A1, c1, e1, p1, p2⟩, ⟨A2, c2, e2, q1, q2⟩⟩
  · rw [if_neg e]
    obtain ⟨⟨A1, c1, e1, s1, f1⟩, ⟨A2, c2, e2, s2, f2⟩⟩ := hfar i (by omega)
    obtain ⟨p1, p2⟩ := hnew (sat_of_below s1 hb) f1
    obtain ⟨q1, q2⟩ := hnew (sat_of_below s2 hb) f2
    exact ⟨⟨A1, c1, e1, p1, p2⟩, ⟨A2, c2, e2, q1, q2⟩⟩
/-- Items' rows lie from a block on. -/
structure ItemsBase (S : Nat) (A : Option Addr) (l : List ItemM) (d : Nat → Value × Value) : Prop where
  row : 0 < l.length → ∀ b o, A = some ⟨b, o, none⟩ → S ≤ b
  key : ∀ i, (h : i < l.length) → ∀ A1 c1, (d i).1 = .slice A1 l[i].key.length c1 → 0 < l[i].key.length → ∀ b o, A1 = some ⟨b, o, none⟩ → S ≤ b
  val : ∀ i, (h : i < l.length) → ∀ A1 c1, (d i).2 = .slice A1 l[i].val.length c1 → 0 < l[i].val.length → ∀ b o, A1 = some ⟨b, o, none⟩ → S ≤ b
theorem ItemsBase.mono {S S' : Nat} {A : Option Addr} {l : List ItemM} {d : Nat → Value × Value} (h : ItemsBase S A l d) (hS : S' ≤ S) : ItemsBase S' A l d :=
  ⟨fun a b o e => Nat.le_trans hS (h.row a b o e), fun i hi A1 c1 e a b o f => Nat.le_trans hS (h.key i hi A1 c1 e a b o f), fun i hi A1 c1 e a b o f => Nat.le_trans hS (h.val i hi A1 c1 e a b o f)⟩
theorem sat_of_kept {X : Nat → Prop} {w w1 : World} {size n : Nat} {A : Option Addr} {xs : List Value} (h : SAt w w.heap.size size A n xs) (hk : Kept X w w1) (hx : 0 < n → ∀ b o, A = some ⟨b, o, none⟩ → ¬ X b) : SAt w1 w1.heap.size size A n xs :=
  (h.keep2 (Nat.le_refl _) hk hx).more2 hk.size
theorem itemsV_at {d d' : Nat → Value × Value} : ∀ (l : List ItemM) (i : Nat), (∀ q, i ≤ q → q < i + l.length → d' q = d q) → itemsV d' l i = itemsV d l i
  | [], _, _ => rfl
  | a :: l, i, h => by rw [itemsV, itemsV, h i (Nat.le_refl _) (by simp), itemsV_at l (i + 1) (fun q h1 h2 => h q (by omega) (by simp only [List.length_cons]; omega))]
theorem itemsV_snoc (d : Nat → Value × Value) : ∀ (l : List ItemM) (y : ItemM) (i : Nat), itemsV d (l ++ [y]) i = itemsV d l i ++ [(d (i + l.length)).1, (d (i + l.length)).2]
  | [], y, i => rfl
  | a :: l, y, i => by
    rw [List.cons_append, itemsV, itemsV, itemsV_snoc d l y (i + 1), List.length_cons, show i + 1 + l.length = i + (l.length + 1) by omega]
    rfl
theorem itemsV_join {d : Nat → Value × Value} {Ys : List ItemM} {j : Nat} (hj : j < Ys.length) (K V : Value) : itemsV (fun i => if i = j then (K, V) else d i) (Ys.take (j + 1)) 0 = itemsV d (Ys.take j) 0 ++ [K, V] := by
  have hl : (Ys.take j).length = j := by simp; omega
  rw [List.take_add_one, List.getElem?_eq_getElem hj, Option.toList_some, itemsV_snoc, itemsV_at (d := d), hl]
  · simp
  · intro q _ h2; rw [hl] at h2; exact if_neg (by omega)
end
section
theorem itemOf_few {own : Own} {w : World} {pm : Nat} {v : Value} {sl : Nat → Value × Value} {mem : List AreaM} {i : Nat} (h : MemIn own w pm v sl mem) (x : KeyM) : (itemOf mem i x).val.length ≤ 1024 := by
  unfold itemOf
  simp only
  split
  · simp
  · unfold areaAt
    rw [List.getD_eq_getElem?_getD]
    cases hq : mem[(idxM (mem.map AreaM.id) (slotArea i x.slot) 0).toNat]? with
    | none => exact Nat.zero_le _
    | some a => exact (h.ok a (List.mem_of_getElem? hq)).few
theorem box_after (w6 : World) (K B : Obj) {a b : Value} (hB : B = .cells #[a, b] 32 := by rfl) : SAt ((w6.alloc K).alloc B).drew (w6.heap.size + 2) 2 (some ⟨w6.heap.size + 1, 0, none⟩) 1 [a, b] := by
  subst hB
  have := sat_new (w6.alloc K) 32 #[a, b] 2 1 rfl
  have hz : (w6.alloc K).heap.size = w6.heap.size + 1 := by simp
  rw [hz] at this
  exact this.below (Below.refl _ _).drew
theorem own_nil_at {W : World} {g B : Nat} (h : W.heap[g]? = some (.cells #[] 5)) (hB : B ≤ g) : W.ownsRow B 5 1 (.slice (some ⟨g, 0, none⟩) 0 0) 0 [] :=
  ⟨rfl, .inr ⟨g, 0, #[], rfl, hB, h, Nat.le_refl _, by simp [maxLen], rfl, rfl⟩⟩
theorem info32 : (Try.prog.info? 32).map (fun i => (i.zero, i.size, i.bytes)) = some (some (.agg #[.slice none 0 0, .slice none 0 0]), 2, 48) := by kernel_rfl
theorem info5b : (Try.prog.info? 5).map (fun i => (i.zero, i.size, i.bytes)) = some (some (.int .u8 0), 1, 1) := by kernel_rfl
/-- What Items hands back. -/
def ItemsOk (w : World) (Y : List ItemM) (e : Ending) (w' : World) : Prop := Below w.heap.size w w' ∧ ∃ A c d, e = .returned (.slice A Y.length c) ∧ ItemsAt w' w'.heap.size A Y d ∧ ItemsBase w.heap.size A Y d
theorem far8 {w wr W w8 : World} {o : Option Nat} {u : Value} (hg : W.grownBy w8 o) (ho : ∀ b, o = some b → w.heap.size ≤ b ∧ b < wr.heap.size) (h : Below w.heap.size w W ∧ W.cell? ⟨wr.heap.size, 0, none⟩ = some u) : Below w.heap.size w w8 ∧ w8.cell? ⟨wr.heap.size, 0, none⟩ = some u :=
  ⟨h.1.trans (below_of_grown hg h.1.size (fun k e => (ho k e).1)), by
    rw [World.cell?_of_block (a := ⟨wr.heap.size, 0, none⟩) (hg.block _ (World.block_lt_of_cell? W _ h.2) (fun e => by have h2 := (ho _ e.symm).2; simp only at h2; omega))]
    exact h.2⟩
set_option maxHeartbeats 4000000 in
theorem ritems9 {own : Own} {w : World} {pt pm : Nat} {v vm : Value} {ks : Nat → Value} {sl : Nat → Value × Value} {mem : List AreaM} {t : List MapM} (h : TabIn own w pt pm v ks t) (hm : MemIn own w pm vm sl mem) (hn : mem.length ≤ 1000000) (k : Nat) (hk : k < t.length) :
    Calls Try.prog 29 #[.pointer (some ⟨pt, 0, none⟩), .int .i64 k] w (ItemsOk w (itemsM mem t k)) := by
  have hY : itemsM mem t k = t[k].l.map (itemOf mem k) := by rw [itemsM_map, mapAt_get hk]
  rw [hY]
  have hko := (h.ok _ (List.getElem_mem hk)).key
  have hso := (h.ok _ (List.getElem_mem hk)).slot
  have hfl := (h.ok _ (List.getElem_mem hk)).few
  have hfw := h.few
  have hki : (k : Int) < (t.length : Int) := by omega
  obtain ⟨g, cv, rfl, hcs⟩ := mapAt_cells h hk
  have hrow := h.keys k hk
  obtain ⟨Ak, ck, hks⟩ := hrow.slice
  rw [hks] at hrow hcs
  have hat : ∀ j, (hj : j < t[k].l.length) → ∃ gk, Ak = some ⟨gk, 0, none⟩ ∧ ∀ w', Below w.heap.size w w' → w'.cell? ⟨gk, j * 2, none⟩ = some (.string (strOfNums t[k].l[j].k)) ∧ w'.cell? ⟨gk, j * 2 + 1, none⟩ = some (.int .i64 t[k].l[j].slot) := fun j hj => by
    obtain ⟨gk, ck', hv, hgk, -, hck⟩ := hrow.get (by omega)
    simp only [Value.slice.injEq] at hv
    obtain ⟨rfl, -, rfl⟩ := hv
    exact ⟨gk, rfl, fun w' hb => ⟨(hb.cell (p := ⟨gk, j * 2, none⟩) hgk).trans (hck _ _ (keysV_get _ j hj).1), (hb.cell (p := ⟨gk, j * 2 + 1, none⟩) hgk).trans (hck _ _ (keysV_get _ j hj).2)⟩⟩
  have hvf := fun x => itemOf_few (i := k) hm x
  have har := fun x w' (hb : Below w.heap.size w w') => rareaI hm hn k x w' hb
  have hsl := fun s h0 h1 w => rslot9 k s (by omega) (by omega) h0 h1 w
  have hrf := Below.refl w.heap.size w
  obtain ⟨i32, hi32, hz0, hz1, hz2⟩ := info_parts info32
  obtain ⟨i5, hi5, hy0, hy1, hy2⟩ := info_parts info5b
  clear h hm hrow hks hY
  generalize t[k].l = L at *
  go_enter Try.func29, Try.ntmps29
  go_wp2_with fail
  obtain ⟨z0, z1, z2, z3, z4, z5, z6, z7⟩ := hcs _ hrf
  go_wp2_with fail
  have g1 : decide ((k : Int) < 0) = false := by simp
  have g2 : decide (t.length ≤ k) = false := by simp; omega
  simp only [g1, g2, Bool.or_self, Bool.or_false, Bool.false_or]
  clear g1 g2
  go_loopw [5, 6] (fun v5 v6 wr => ∃ (j : Nat) (Ao : Option Addr) (co : Nat) (d : Nat → Value × Value), j ≤ L.length ∧ v6 = .int .i64 j ∧ v5 = .slice Ao j co ∧ wr.ownsRow w.heap.size 32 2 (.slice Ao j co) j (itemsV d ((L.map (itemOf mem k)).take j) 0) ∧ (∀ i, (hi : i < L.length) → i < j → ItemFar wr w.heap.size (Value.slice Ao j co).ownBlock (d i) (itemOf mem k L[i])) ∧ Below w.heap.size w wr) (fun _ v6 _ => L.length - (intOf v6).toNat)
  case atStart => exact ⟨0, none, 0, fun _ => (.int .i64 0, .int .i64 0), by omega, rfl, rfl, by simpa [itemsV] using World.ownsRow_nil _ _ _ _, fun i _ hi => absurd hi (by omega), hrf⟩
  case round =>
    obtain ⟨j, Ao, co, d, hj, rfl, rfl, hown, hfar, hb⟩ := hrel
    clear z0 z1 z2 z3 z4 z5 z6 z7
    obtain ⟨z0, z1, z2, z3, z4, z5, z6, z7⟩ := hcs _ hb
    rcases Nat.lt_or_ge j L.length with hlt | hge
    · obtain ⟨gk, rfl, hkc⟩ := hat j hlt
      obtain ⟨e0, e1⟩ := hkc _ hb
      have hkb := hko _ (List.getElem_mem hlt)
      have hsb := hso _ (List.getElem_mem hlt)
      have harj := har L[j]
      have hvl := hvf L[j]
      have hslj := hsl L[j].slot hsb.1 (by omega)
      obtain ⟨cap, cs, fz, hcv⟩ := conv_all L[j].k hkb
      have hcv1 := fun W => (hcv W).1
      have HC := Lib.hid (fun W => (hcv W).2)
      have hji : (j : Int) < (L.length : Int) := by omega
      have hval : (itemOf mem k L[j]).key = L[j].k := rfl
      have HI := Lib.hid (And.intro hown hfar)
      generalize hyj : itemOf mem k L[j] = Y at *
      clear har hsl hat hcv hown hfar hvf
      go_upto_region 8 with fail
      have hbx := hb.alloc hb.size (.cells #[.string (strOfNums L[j].k), .int .i64 L[j].slot] 106)
      have hX := heap_alloc_new wr (.cells #[.string (strOfNums L[j].k), .int .i64 L[j].slot] 106)
      have hx : ∀ w', Below (wr.alloc (.cells #[.string (strOfNums L[j].k), .int .i64 L[j].slot] 106)).heap.size (wr.alloc (.cells #[.string (strOfNums L[j].k), .int .i64 L[j].slot] 106)) w' → w'.cell? ⟨wr.heap.size, 0, none⟩ = some (.string (strOfNums L[j].k)) ∧ w'.cell? ⟨wr.heap.size, 1, none⟩ = some (.int .i64 L[j].slot) := fun w' hb => ⟨boxc hX (k := 0) rfl w' hb, boxc hX (k := 1) rfl w' hb⟩
      have hbr : Below wr.heap.size wr (wr.alloc (.cells #[.string (strOfNums L[j].k), .int .i64 L[j].slot] 106)) := below_boxes1 wr _
      clear hX z0 z1 z2 z3 z4 z5 z6 z7 e0 e1
      generalize wr.alloc (.cells #[.string (strOfNums L[j].k), .int .i64 L[j].slot] 106) = Wx at *
      have hrx := Below.refl Wx.heap.size Wx
      have hcs0 := fun w' hb => (hcs w' hb).1
      have hx1 := fun w' hb => (hx w' hb).2
      go_region_held3 (fun w' => Below w.heap.size w w' ∧ Below Wx.heap.size Wx w')
        (first | assumption | exact ⟨hbx, hrx⟩ | exact ⟨hbx.drew, hrx.drew⟩ | exact sdrew2 (by assumption))
        (first | (go_at_call 35; refine (hslj _).mono ?_; rintro e w2 ⟨rfl, rfl⟩) | (go_at_call 52; refine (harj _ (by first | exact (show _ ∧ _ by assumption).1 | exact (sdrew2 (show _ ∧ _ by assumption)).1 | exact hbx.drew)).mono ?_; rintro e w3 ⟨⟨Aa, ca, ok, rfl, hsa⟩, hc3⟩; have hS3 := pstep2 (show Below w.heap.size w _ ∧ Below Wx.heap.size Wx _ by first | assumption | exact sdrew2 (by assumption) | exact ⟨hbx.drew, hrx.drew⟩) (Nat.le_refl _) (Nat.le_refl _) hc3))
      all_goals
        obtain ⟨hb3, hc3x⟩ := hS3
        have x0 := (hx _ hc3x).1
        clear hx1 hcs0 hslj harj
        go_upto_region 9 with fail
        have hbw3 : Below wr.heap.size wr w3 := hbr.trans (hc3x.mono hbr.size)
        have hown3 : w3.ownsRow w.heap.size 32 2 (.slice Ao j co) j (itemsV d ((L.map (itemOf mem k)).take j) 0) := own_kept HI.out.1 (Kept.of (X := fun _ => False) hbw3 (Nat.le_refl _)) (fun _ _ => id)
        have hsa3 : SAt w3 w3.heap.size 1 Aa Y.val.length (bytesV Y.val) := (hsa.below hb3).more hb3.size
        have HO := Lib.hid (And.intro hown3 hsa3)
        have hbyt : ∀ u ∈ bytesV Y.val, u.oneCell' = true := fun u hu => by unfold bytesV at hu; rw [List.mem_map] at hu; obtain ⟨a, -, rfl⟩ := hu; rfl
        have m63 : 0 + Y.val.length ≤ maxLen := by simp only [maxLen]; omega
        have mby : (0 + Y.val.length) * 1 ≤ 140737488355328 := by omega
        have m63b : j + 1 ≤ maxLen := by simp only [maxLen]; omega
        have mbyb : (j + 1) * 48 ≤ 140737488355328 := by omega
        have x0n : ∀ w', Below w3.heap.size w3 w' → w'.cell? ⟨wr.heap.size, 0, none⟩ = some (.string (strOfNums L[j].k)) := fun w' hb => (hb.cell (p := ⟨wr.heap.size, 0, none⟩) (World.block_lt_of_cell? w3 _ x0)).trans x0
        clear hown3 hsa3 hsa hx hkc hcs hko hso
        have hxl : wr.heap.size < w3.heap.size := World.block_lt_of_cell? w3 _ x0
        have hss : ∀ w', Below w3.heap.size w3 w' → Below w.heap.size w w' ∧ w'.cell? ⟨wr.heap.size, 0, none⟩ = some (.string (strOfNums L[j].k)) := fun w' hb => ⟨hb3.trans (hb.mono hb3.size), x0n _ hb⟩
        have hAo : ∀ b, (Value.slice Ao j co).ownBlock = some b → w.heap.size ≤ b ∧ b < wr.heap.size := fun b e => HI.out.1.lt b e
        clear x0n x0
        have x0m := fun w' hb => (hss w' hb).2
        have hr33 := Below.refl w3.heap.size w3
        go_region_law
          (first
            | (refine step_append_y rfl (.tmp 61) (.tmp 62) 23 rfl w3.heap.size 5 i5 (.int .u8 0) 1 1 Try.underlying23 hi5 hy0 hy1 hy2 rfl (by decide) _ 0 0 [] rfl ?_ w3.heap.size Aa Y.val.length ca (bytesV Y.val) rfl ?_ hbyt m63 mby ?_ ?_; (refine own_nil_at ?_ ?_; (first | exact heap1_0 w3 _ | exact heap2_1 w3 _ _ | exact heap2_0 w3 _ _); (first | exact Nat.le_refl _ | exact Nat.le_succ _ | omega)); (refine SAt.below HO.out.2 ?_; (repeat (first | assumption | exact Below.refl _ _ | refine sbelow_drew ?_ | refine sbelow_alloc ?_ (Nat.le_refl _)))); (refine Below.size (B := w3.heap.size) (w := w3) ?_; (repeat (first | assumption | exact Below.refl _ _ | refine sbelow_drew ?_ | refine sbelow_alloc ?_ (Nat.le_refl _)))); (intro A6 c6 w6 ho6 hg6 hor6; have k6 : Below w3.heap.size w3 w6 := (by refine Below.trans ?_ (below_of_grown hg6 ?_ ?_); (repeat (first | assumption | exact Below.refl _ _ | refine sbelow_drew ?_ | refine sbelow_alloc ?_ (Nat.le_refl _))); (refine Below.size (B := w3.heap.size) (w := w3) ?_; (repeat (first | assumption | exact Below.refl _ _ | refine sbelow_drew ?_ | refine sbelow_alloc ?_ (Nat.le_refl _)))); (intro k hk; simp [Value.ownBlock] at hk; omega))))
            | (refine step_append_y rfl (.tmp 57) (.tmp 65) 30 rfl w.heap.size 32 i32 (.agg #[.slice none 0 0, .slice none 0 0]) 2 48 Try.underlying30 hi32 hz0 hz1 hz2 rfl (by decide) Ao j co (itemsV d ((L.map (itemOf mem k)).take j) 0) rfl ?_ (w6.heap.size + 1) (some ⟨w6.heap.size, 0, none⟩) 1 1 [_, .slice A6 Y.val.length c6] rfl (sat_new w6 32 #[_, .slice A6 Y.val.length c6] 2 1 rfl) ?_ m63b mbyb ?_ ?_; (refine own_kept HO.out.1 (Kept.of (X := fun _ => False) (B := w3.heap.size) ?_ (Nat.le_refl _)) (fun _ _ => id); (repeat (first | assumption | exact Below.refl _ _ | refine sbelow_drew ?_ | refine sbelow_alloc ?_ (Nat.le_refl _)))); (intro u hu; simp at hu; rcases hu with rfl | rfl <;> rfl); (refine Nat.le_trans (Nat.le_trans hb.size hbw3.size) (Below.size (B := w3.heap.size) (w := w3) ?_); (repeat (first | assumption | exact Below.refl _ _ | refine sbelow_drew ?_ | refine sbelow_alloc ?_ (Nat.le_refl _)))); (intro A8 c8 w8 ho8 hg8 hor8; have h8 : Below w.heap.size w w8 ∧ w8.cell? ⟨wr.heap.size, 0, none⟩ = some (.string (strOfNums L[j].k)) := (by refine far8 hg8 hAo ?_; refine hss _ ?_; (repeat (first | assumption | exact Below.refl _ _ | refine sbelow_drew ?_ | refine sbelow_alloc ?_ (Nat.le_refl _))))))
            | (refine step_append_y rfl (.tmp 57) (.tmp 65) 30 rfl w.heap.size 32 i32 (.agg #[.slice none 0 0, .slice none 0 0]) 2 48 Try.underlying30 hi32 hz0 hz1 hz2 rfl (by decide) Ao j co (itemsV d ((L.map (itemOf mem k)).take j) 0) rfl ?_ (w6.heap.size + 2) (some ⟨w6.heap.size + 1, 0, none⟩) 1 1 [.slice (some ⟨w6.heap.size, 0, none⟩) L[j].k.length (cap w6), .slice A6 Y.val.length c6] rfl (box_after w6 _ _) ?_ m63b mbyb ?_ ?_; (refine own_kept HO.out.1 (Kept.of (X := fun _ => False) (B := w3.heap.size) ?_ (Nat.le_refl _)) (fun _ _ => id); (repeat (first | assumption | exact Below.refl _ _ | refine sbelow_drew ?_ | refine sbelow_alloc ?_ (Nat.le_refl _)))); (intro u hu; simp at hu; rcases hu with rfl | rfl <;> rfl); (refine Nat.le_trans (Nat.le_trans hb.size hbw3.size) (Below.size (B := w3.heap.size) (w := w3) ?_); (repeat (first | assumption | exact Below.refl _ _ | refine sbelow_drew ?_ | refine sbelow_alloc ?_ (Nat.le_refl _)))); (intro A8 c8 w8 ho8 hg8 hor8; have h8 : Below w.heap.size w w8 ∧ w8.cell? ⟨wr.heap.size, 0, none⟩ = some (.string (strOfNums L[j].k)) := (by refine far8 hg8 hAo ?_; refine hss _ ?_; (repeat (first | assumption | exact Below.refl _ _ | refine sbelow_drew ?_ | refine sbelow_alloc ?_ (Nat.le_refl _)))))))
        all_goals
          have hv6 : w6.ownsRow w3.heap.size 5 1 (.slice A6 Y.val.length c6) Y.val.length (bytesV Y.val) := by simpa using ho6
          have hV6 : SAt w6 w6.heap.size 1 A6 Y.val.length (bytesV Y.val) := own_sat hv6
          have hV6b : 0 < Y.val.length → ∀ b o, A6 = some ⟨b, o, none⟩ → wr.heap.size ≤ b := fun h0 b o e => by
            have := (hv6.lt b (by rw [e]; rfl)).1
            omega
          have hF : ∀ i, i < j → ItemFar wr w.heap.size (Value.slice Ao j co).ownBlock (d i) ((L.map (itemOf mem k)).getD i default) := fun i hi => by
            have := HI.out.2 i (by omega) hi
            simpa [List.getD_eq_getElem?_getD, show i < L.length by omega] using this
          have hFj : (L.map (itemOf mem k)).getD j default = Y := by simp [List.getD_eq_getElem?_getD, hlt, hyj]
          have hgap : ∀ b, (Value.slice Ao j co).ownBlock = some b → b < wr.heap.size := fun b e => (hAo b e).2
          have hYk : Y.key = L[j].k := hval
          have hnsz : wr.heap.size ≤ w3.heap.size := hbw3.size
        · have s1 := conv_sat (W := w3) (fz := fz w3.drew) (HC.out w3.drew)
          have s2 := sat_of_below s1 (w1 := ((w3.alloc (.cells (cs w3.drew) 5 (fz w3.drew))).alloc (.cells #[] 5)).drew.drew) (below_boxes1 _ _).drew.drew
          have s3 := sat_of_grown s2 hg6 (fun _ b o e f => by simp [Value.ownBlock] at f; cases e; omega)
          have hbg : Below wr.heap.size wr (w6.alloc (.cells #[.slice (some ⟨w3.heap.size, 0, none⟩) L[j].k.length (cap w3.drew), .slice A6 Y.val.length c6] 32)) := by
            refine hbw3.trans (Below.mono (B := w3.heap.size) ?_ hnsz)
            exact k6.alloc k6.size _
          have hj := far_join (F := fun i => (L.map (itemOf mem k)).getD i default) (c8 := c8) hbg hF hb.size hgap (.slice (some ⟨w3.heap.size, 0, none⟩) L[j].k.length (cap w3.drew)) (.slice A6 Y.val.length c6)
            (by rw [hFj, hYk]; exact ⟨_, _, rfl, sat_of_below s3 (below_boxes1 w6 _), fun _ b o e => by cases e; exact hnsz⟩) (by rw [hFj]; exact ⟨_, _, rfl, sat_of_below hV6 (below_boxes1 w6 _), hV6b⟩) hg8 hor8
          have hrow9 := itemsV_join (d := d) (Ys := L.map (itemOf mem k)) (j := j) (by simpa using hlt) (.slice (some ⟨w3.heap.size, 0, none⟩) L[j].k.length (cap w3.drew)) (.slice A6 Y.val.length c6)
          rw [← hrow9] at ho8
          have HJ := Lib.hid (And.intro hj ho8)
          clear hj ho8 hrow9 hbg s1 s2 s3 hv6 hV6 hV6b hF hFj hgap hg8 hor8 hg6 hor6 ho6
          go_wp2_with fail
          go_roundw
          case rel =>
            refine ⟨j + 1, A8, c8, _, by omega, by go_num, rfl, HJ.out.2, fun i hi h1 => ?_, h8.1⟩
            have := HJ.out.1 i h1
            simpa [List.getD_eq_getElem?_getD, hi] using this
          all_goals (simp [intOf]; omega)
        · have s1 := conv_sat (W := w3.alloc (.cells #[] 5)) (fz := fz (w3.alloc (.cells #[] 5)).drew) (HC.out (w3.alloc (.cells #[] 5)).drew)
          have hz1 : (w3.alloc (.cells #[] 5)).heap.size = w3.heap.size + 1 := by simp
          rw [hz1] at s1
          have s2 := sat_of_below s1 (w1 := ((w3.alloc (.cells #[] 5)).alloc (.cells (cs (w3.alloc (.cells #[] 5)).drew) 5 (fz (w3.alloc (.cells #[] 5)).drew))).drew.drew) (Below.refl _ _).drew.drew
          have s3 := sat_of_grown s2 hg6 (fun _ b o e f => by simp [Value.ownBlock] at f; cases e; omega)
          have hbg : Below wr.heap.size wr (w6.alloc (.cells #[.slice (some ⟨w3.heap.size + 1, 0, none⟩) L[j].k.length (cap (w3.alloc (.cells #[] 5)).drew), .slice A6 Y.val.length c6] 32)) := by
            refine hbw3.trans (Below.mono (B := w3.heap.size) ?_ hnsz)
            exact k6.alloc k6.size _
          have hj := far_join (F := fun i => (L.map (itemOf mem k)).getD i default) (c8 := c8) hbg hF hb.size hgap (.slice (some ⟨w3.heap.size + 1, 0, none⟩) L[j].k.length (cap (w3.alloc (.cells #[] 5)).drew)) (.slice A6 Y.val.length c6)
            (by rw [hFj, hYk]; exact ⟨_, _, rfl, sat_of_below s3 (below_boxes1 w6 _), fun _ b o e => by cases e; omega⟩) (by rw [hFj]; exact ⟨_, _, rfl, sat_of_below hV6 (below_boxes1 w6 _), hV6b⟩) hg8 hor8
          have hrow9 := itemsV_join (d := d) (Ys := L.map (itemOf mem k)) (j := j) (by simpa using hlt) (.slice (some ⟨w3.heap.size + 1, 0, none⟩) L[j].k.length (cap (w3.alloc (.cells #[] 5)).drew)) (.slice A6 Y.val.length c6)
          rw [← hrow9] at ho8
          have HJ := Lib.hid (And.intro hj ho8)
          clear hj ho8 hrow9 hbg s1 s2 s3 hv6 hV6 hV6b hF hFj hgap hg8 hor8 hg6 hor6 ho6
          go_wp2_with fail
          go_roundw
          case rel =>
            refine ⟨j + 1, A8, c8, _, by omega, by go_num, rfl, HJ.out.2, fun i hi h1 => ?_, h8.1⟩
            have := HJ.out.1 i h1
            simpa [List.getD_eq_getElem?_getD, hi] using this
          all_goals (simp [intOf]; omega)
        · have s1 := conv_sat (W := w6) (fz := fz w6) (HC.out w6)
          have s3 := sat_of_below s1 (w1 := ((w6.alloc (.cells (cs w6) 5 (fz w6))).alloc (.cells #[.slice (some ⟨w6.heap.size, 0, none⟩) L[j].k.length (cap w6), .slice A6 Y.val.length c6] 32)).drew) (below_boxes1 _ _).drew
          have s2 := sat_of_below hV6 (w1 := ((w6.alloc (.cells (cs w6) 5 (fz w6))).alloc (.cells #[.slice (some ⟨w6.heap.size, 0, none⟩) L[j].k.length (cap w6), .slice A6 Y.val.length c6] 32)).drew) (below_boxes2 _ _ _).drew
          have hbg : Below wr.heap.size wr ((w6.alloc (.cells (cs w6) 5 (fz w6))).alloc (.cells #[.slice (some ⟨w6.heap.size, 0, none⟩) L[j].k.length (cap w6), .slice A6 Y.val.length c6] 32)).drew := by
            refine hbw3.trans (Below.mono (B := w3.heap.size) ?_ hnsz)
            exact k6.trans ((below_boxes2 w6 _ _).drew.mono k6.size)
          have hk6s := k6.size
          have hj := far_join (F := fun i => (L.map (itemOf mem k)).getD i default) (c8 := c8) hbg hF hb.size hgap (.slice (some ⟨w6.heap.size, 0, none⟩) L[j].k.length (cap w6)) (.slice A6 Y.val.length c6)
            (by rw [hFj, hYk]; exact ⟨_, _, rfl, s3, fun _ b o e => by cases e; omega⟩) (by rw [hFj]; exact ⟨_, _, rfl, s2, hV6b⟩) hg8 hor8
          have hrow9 := itemsV_join (d := d) (Ys := L.map (itemOf mem k)) (j := j) (by simpa using hlt) (.slice (some ⟨w6.heap.size, 0, none⟩) L[j].k.length (cap w6)) (.slice A6 Y.val.length c6)
          rw [← hrow9] at ho8
          have HJ := Lib.hid (And.intro hj ho8)
          clear hj ho8 hrow9 hbg s1 s2 s3 hv6 hV6 hV6b hF hFj hgap hg8 hor8 hg6 hor6 ho6
          go_wp2_with fail
          go_roundw
          case rel =>
            refine ⟨j + 1, A8, c8, _, by omega, by go_num, rfl, HJ.out.2, fun i hi h1 => ?_, h8.1⟩
            have := HJ.out.1 i h1
            simpa [List.getD_eq_getElem?_getD, hi] using this
          all_goals (simp [intOf]; omega)
        · have s1 := conv_sat (W := w3.alloc (.cells #[] 5)) (fz := fz (w3.alloc (.cells #[] 5)).drew) (HC.out (w3.alloc (.cells #[] 5)).drew)
          have hz1 : (w3.alloc (.cells #[] 5)).heap.size = w3.heap.size + 1 := by simp
          rw [hz1] at s1
          have s2 := sat_of_below s1 (w1 := ((w3.alloc (.cells #[] 5)).alloc (.cells (cs (w3.alloc (.cells #[] 5)).drew) 5 (fz (w3.alloc (.cells #[] 5)).drew))).drew.drew) (Below.refl _ _).drew.drew
          have s3 := sat_of_grown s2 hg6 (fun _ b o e f => by simp [Value.ownBlock] at f; cases e; omega)
          have hbg : Below wr.heap.size wr (w6.alloc (.cells #[.slice (some ⟨w3.heap.size + 1, 0, none⟩) L[j].k.length (cap (w3.alloc (.cells #[] 5)).drew), .slice A6 Y.val.length c6] 32)) := by
            refine hbw3.trans (Below.mono (B := w3.heap.size) ?_ hnsz)
            exact k6.alloc k6.size _
          have hj := far_join (F := fun i => (L.map (itemOf mem k)).getD i default) (c8 := c8) hbg hF hb.size hgap (.slice (some ⟨w3.heap.size + 1, 0, none⟩) L[j].k.length (cap (w3.alloc (.cells #[] 5)).drew)) (.slice A6 Y.val.length c6)
            (by rw [hFj, hYk]; exact ⟨_, _, rfl, sat_of_below s3 (below_boxes1 w6 _), fun _ b o e => by cases e; omega⟩) (by rw [hFj]; exact ⟨_, _, rfl, sat_of_below hV6 (below_boxes1 w6 _), hV6b⟩) hg8 hor8
          have hrow9 := itemsV_join (d := d) (Ys := L.map (itemOf mem k)) (j := j) (by simpa using hlt) (.slice (some ⟨w3.heap.size + 1, 0, none⟩) L[j].k.length (cap (w3.alloc (.cells #[] 5)).drew)) (.slice A6 Y.val.length c6)
          rw [← hrow9] at ho8
          have HJ := Lib.hid (And.intro hj ho8)
          clear hj ho8 hrow9 hbg s1 s2 s3 hv6 hV6 hV6b hF hFj hgap hg8 hor8 hg6 hor6 ho6
          go_wp2_with fail
          go_roundw
          case rel =>
            refine ⟨j + 1, A8, c8, _, by omega, by go_num, rfl, HJ.out.2, fun i hi h1 => ?_, h8.1⟩
            have := HJ.out.1 i h1
            simpa [List.getD_eq_getElem?_getD, hi] using this
          all_goals (simp [intOf]; omega)
        iterate 2
          · have s1 := conv_sat (W := w6) (fz := fz w6) (HC.out w6)
            have s3 := sat_of_below s1 (w1 := ((w6.alloc (.cells (cs w6) 5 (fz w6))).alloc (.cells #[.slice (some ⟨w6.heap.size, 0, none⟩) L[j].k.length (cap w6), .slice A6 Y.val.length c6] 32)).drew) (below_boxes1 _ _).drew
            have s2 := sat_of_below hV6 (w1 := ((w6.alloc (.cells (cs w6) 5 (fz w6))).alloc (.cells #[.slice (some ⟨w6.heap.size, 0, none⟩) L[j].k.length (cap w6), .slice A6 Y.val.length c6] 32)).drew) (below_boxes2 _ _ _).drew
            have hbg : Below wr.heap.size wr ((w6.alloc (.cells (cs w6) 5 (fz w6))).alloc (.cells #[.slice (some ⟨w6.heap.size, 0, none⟩) L[j].k.length (cap w6), .slice A6 Y.val.length c6] 32)).drew := by
              refine hbw3.trans (Below.mono (B := w3.heap.size) ?_ hnsz)
              exact k6.trans ((below_boxes2 w6 _ _).drew.mono k6.size)
            have hk6s := k6.size
            have hj := far_join (F := fun i => (L.map (itemOf mem k)).getD i default) (c8 := c8) hbg hF hb.size hgap (.slice (some ⟨w6.heap.size, 0, none⟩) L[j].k.length (cap w6)) (.slice A6 Y.val.length c6)
              (by rw [hFj, hYk]; exact ⟨_, _, rfl, s3, fun _ b o e => by cases e; omega⟩) (by rw [hFj]; exact ⟨_, _, rfl, s2, hV6b⟩) hg8 hor8
            have hrow9 := itemsV_join (d := d) (Ys := L.map (itemOf mem k)) (j := j) (by simpa using hlt) (.slice (some ⟨w6.heap.size, 0, none⟩) L[j].k.length (cap w6)) (.slice A6 Y.val.length c6)
            rw [← hrow9] at ho8
            have HJ := Lib.hid (And.intro hj ho8)
            clear hj ho8 hrow9 hbg s1 s2 s3 hv6 hV6 hV6b hF hFj hgap hg8 hor8 hg6 hor6 ho6
            go_wp2_with fail
            go_roundw
            case rel =>
              refine ⟨j + 1, A8, c8, _, by omega, by go_num, rfl, HJ.out.2, fun i hi h1 => ?_, h8.1⟩
              have := HJ.out.1 i h1
              simpa [List.getD_eq_getElem?_getD, hi] using this
            all_goals (simp [intOf]; omega)
    · have hjl : j = L.length := by omega
      have hji : ¬ (j : Int) < (L.length : Int) := by omega
      have hlen : (L.map (itemOf mem k)).length = L.length := by simp
      have hS : ItemsAt wr wr.heap.size Ao (L.map (itemOf mem k)) d := by
        have h1 := own_sat hown
        rw [List.take_of_length_le (by omega)] at h1
        rw [hjl] at h1
        refine ⟨by rw [hlen]; exact h1, fun i hi => ?_⟩
        have hi2 : i < L.length := by simpa using hi
        obtain ⟨⟨A1, c1, p1, p2, -⟩, ⟨A2, c2, q1, q2, -⟩⟩ := hfar i hi2 (by omega)
        simp only [List.getElem_map]
        exact ⟨⟨A1, c1, p1, p2⟩, ⟨A2, c2, q1, q2⟩⟩
      have hBase : ItemsBase w.heap.size Ao (L.map (itemOf mem k)) d := by
        refine ⟨fun h0 b o e => (hown.lt b (by rw [e]; rfl)).1, fun i hi A1 c1 e a b o f => ?_, fun i hi A1 c1 e a b o f => ?_⟩
        · have hi2 : i < L.length := by simpa using hi
          obtain ⟨⟨A2, c2, p1, -, p3⟩, -⟩ := hfar i hi2 (by omega)
          rw [e] at p1
          simp only [List.getElem_map, Value.slice.injEq] at p1 a
          obtain ⟨rfl, -, -⟩ := p1
          exact (p3 a b o f).2
        · have hi2 : i < L.length := by simpa using hi
          obtain ⟨-, ⟨A2, c2, p1, -, p3⟩⟩ := hfar i hi2 (by omega)
          rw [e] at p1
          simp only [List.getElem_map, Value.slice.injEq] at p1 a
          obtain ⟨rfl, -, -⟩ := p1
          exact (p3 a b o f).2
      have HS := Lib.hid (And.intro hS (And.intro hlen hBase))
      clear hown hfar hat hS hlen har hvf hBase
      go_wp2_with fail
      go_ret
      refine ⟨hb, Ao, co, d, ?_, HS.out.1, HS.out.2.2⟩
      rw [HS.out.2.1]; rfl
end
end Go.Proofs.Ytncogaikiceidaa
