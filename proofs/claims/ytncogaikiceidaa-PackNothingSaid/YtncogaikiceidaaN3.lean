/- The tables: At, Area, may, find, Look, fill. No statement is proved here. -/
import Derived.Test.YtncogaikiceidaaN2
import Derived.Test.YtncogaikiceidaaInsn1
import Derived.StillTailTactics
namespace Go.Proofs.Ytncogaikiceidaa
set_option maxRecDepth 100000
open Go.RowKit
set_option linter.unusedSimpArgs false
set_option linter.unusedVariables false
set_option linter.unnecessarySimpa false
section
/-! ### The tables -/
def mapCells (x : MapM) (s : Value) : List Value := [.bool x.d.hash, .int .i64 x.d.key, .int .i64 x.d.val, .int .i64 x.d.max, s, .int .i64 x.made]
def mapsV (ks : Nat → Value) : List MapM → Nat → List Value
  | [], _ => []
  | a :: l, i => mapCells a (ks i) ++ mapsV ks l (i + 1)
def keysV : List KeyM → List Value
  | [] => []
  | x :: l => .string (strOfNums x.k) :: .int .i64 x.slot :: keysV l
theorem mapsV_get (ks : Nat → Value) : ∀ (l : List MapM) (i k j : Nat), (hk : k < l.length) → j < 6 → (mapsV ks l i)[k * 6 + j]? = (mapCells l[k] (ks (i + k)))[j]?
  | a :: l, i, 0, j, _, hj => by
    rw [mapsV, List.getElem?_append_left (by simp [mapCells]; omega)]; simp
  | a :: l, i, k + 1, j, hk, hj => by
    rw [mapsV, List.getElem?_append_right (by simp [mapCells]; omega), show (k + 1) * 6 + j - (mapCells a (ks i)).length = k * 6 + j by simp [mapCells]; omega, mapsV_get ks l (i + 1) k j (by simpa using hk) hj]
    simp only [List.getElem_cons_succ]
    rw [show i + 1 + k = i + (k + 1) by omega]
theorem keysV_length : ∀ (l : List KeyM), (keysV l).length = l.length * 2
  | [] => rfl
  | a :: l => by rw [keysV, List.length_cons, List.length_cons, keysV_length l, List.length_cons]; omega
theorem keysV_get : ∀ (l : List KeyM) (k : Nat) (hk : k < l.length), (keysV l)[k * 2]? = some (.string (strOfNums l[k].k)) ∧ (keysV l)[k * 2 + 1]? = some (.int .i64 l[k].slot)
  | a :: l, 0, _ => ⟨rfl, rfl⟩
  | a :: l, k + 1, hk => by
    have := keysV_get l k (by simpa using hk)
    rw [keysV, show (k + 1) * 2 = k * 2 + 1 + 1 by omega, show k * 2 + 1 + 1 + 1 = (k * 2 + 1) + 1 + 1 by omega]
    simpa using this
def BytesOk (l : List Int) : Prop := ∀ b ∈ l, 0 ≤ b ∧ b ≤ 255
structure MapM.Ok (x : MapM) : Prop where
  d : defOk x.d = true
  few : x.l.length ≤ 16
  made0 : 0 ≤ x.made
  made : x.made ≤ 1024
  slot : ∀ y ∈ x.l, 0 ≤ y.slot ∧ y.slot < 1024
  key : ∀ y ∈ x.l, BytesOk y.k
structure TabIn (own : Own) (w : World) (pt pm : Nat) (v : Value) (ks : Nat → Value) (t : List MapM) : Prop where
  role : own pt = some .tabs
  blk : Blk w pt [.pointer (some ⟨pm, 0, none⟩), v]
  row : RowIn own .maps w 103 6 v t.length (mapsV ks t 0)
  few : t.length ≤ 8
  ok : ∀ x ∈ t, x.Ok
  keys : ∀ i, (h : i < t.length) → RowIn own (.keys i) w 106 2 (ks i) t[i].l.length (keysV t[i].l)
def Role.isTab : Role → Prop
  | .tabs | .maps | .keys _ => True
  | _ => False
section
variable {own own' : Own} {w w' : World} {pt pm : Nat} {v : Value} {ks : Nat → Value} {t : List MapM} {X : Nat → Prop}
theorem TabIn.kept (h : TabIn own w pt pm v ks t) (hk : Kept X w w') (ho : ∀ b, b < w.heap.size → own' b = own b) (hx : ∀ b r, own b = some r → r.isTab → ¬ X b) : TabIn own' w' pt pm v ks t where
  role := by rw [ho pt h.blk.lt]; exact h.role
  blk := h.blk.kept hk (hx pt _ h.role trivial)
  row := h.row.kept hk ho (fun b hb => hx b _ hb trivial)
  few := h.few
  ok := h.ok
  keys := fun i hi => (h.keys i hi).kept hk ho (fun b hb => hx b _ hb trivial)
theorem TabIn.below (h : TabIn own w pt pm v ks t) (hb : Below w.heap.size w w') : TabIn own w' pt pm v ks t :=
  h.kept (X := fun _ => False) (Kept.of hb (Nat.le_refl _)) (fun _ _ => rfl) (fun _ _ _ _ => id)
theorem TabIn.at_ (h : TabIn own w pt pm v ks t) {k : Nat} (hk : k < t.length) : ∃ g c, v = .slice (some ⟨g, 0, none⟩) t.length c ∧ g < w.heap.size ∧ own g = some .maps ∧ ∀ j u, (mapCells t[k] (ks k))[j]? = some u → w.cell? ⟨g, k * 6 + j, none⟩ = some u := by
  obtain ⟨g, c, rfl, hg, hr, hc⟩ := h.row.get (by omega)
  refine ⟨g, c, rfl, hg, hr, fun j u hu => ?_⟩
  have hj : j < 6 := (List.getElem?_eq_some_iff.1 hu).1
  have e := mapsV_get ks t 0 k j hk hj
  rw [Nat.zero_add] at e
  exact hc _ _ (e.trans hu)
end
theorem rat8 (a o : Int) (ha : 0 ≤ a) (ha2 : a ≤ 2147483648) (ho : 0 ≤ o) (ho2 : o ≤ 1024) (w : World) : Calls Try.prog 18 #[.int .i64 a, .int .i64 o] w fun e w' => e = .returned (.int .u64 (a * 4294967296 + o)) ∧ w' = w := by
  go_enter Try.func18, Try.ntmps18
  go_wp2_with fail
  go_ret
  simp
  try omega
theorem rslot9 (i k : Int) (hi : 0 ≤ i) (hi2 : i ≤ 8) (hk : 0 ≤ k) (hk2 : k ≤ 1024) (w : World) : Calls Try.prog 35 #[.int .i64 i, .int .i64 k] w fun e w' => e = .returned (.int .i64 (slotArea i k)) ∧ w' = w := by
  go_enter Try.func35, Try.ntmps35
  go_wp2_with fail
  go_ret
  exact ⟨rfl, rfl⟩
theorem rminus9 (n : Int) (hn : 1 ≤ n) (hn2 : n ≤ 1000) (w : World) : Calls Try.prog 38 #[.int .u64 n] w fun e w' => e = .returned (.int .u64 (minusM n)) ∧ w' = w := by
  go_enter Try.func38, Try.ntmps38
  go_wp2_with fail
  go_ret
  simp only [minusM, Int.zero_sub]
  rw [IntKind.wrap_u64]
  refine ⟨?_, trivial⟩
  have e : (-n) % 18446744073709551616 = 18446744073709551616 - n := by omega
  rw [e]
  rfl
theorem rmay9 {own : Own} {w : World} {pt pm : Nat} {v : Value} {ks : Nat → Value} {t : List MapM} (h : TabIn own w pt pm v ks t) (i : Int) (key : List Int) (A : Option Addr) (c : Nat) :
    Calls Try.prog 36 #[.pointer (some ⟨pt, 0, none⟩), .int .i64 i, .slice A key.length c] w fun e w' => e = .returned (.bool (mayM t i key)) ∧ w' = w := by
  by_cases h0 : ¬ 0 ≤ i
  · have hm := Lib.hid (show mayM t i key = false from by simp [mayM, h0])
    clear h
    go_enter Try.func36, Try.ntmps36
    go_wp2_with fail
    go_ret
    rw [hm.out]
    exact ⟨rfl, rfl⟩
  obtain ⟨k, rfl⟩ := Int.eq_ofNat_of_zero_le (Decidable.not_not.1 h0)
  obtain ⟨Av, cv, rfl⟩ := h.row.slice
  have c0 : w.cell? ⟨pt, 1, none⟩ = some (.slice Av t.length cv) := h.blk.cell rfl
  by_cases hk : ¬ k < t.length
  · have hm := Lib.hid (show mayM t k key = false from by simp [mayM]; omega)
    have hki : ¬ (k : Int) < (t.length : Int) := by omega
    clear h
    go_enter Try.func36, Try.ntmps36
    go_wp2_with fail
    go_ret
    rw [hm.out]
    exact ⟨rfl, rfl⟩
  have hk := Decidable.not_not.1 hk
  have hki : (k : Int) < (t.length : Int) := by omega
  obtain ⟨g, c', hv, hg, -, hc⟩ := h.at_ hk
  have c1 : w.cell? ⟨g, k * 6 + 1, none⟩ = some (.int .i64 t[k].d.key) := hc 1 _ rfl
  have hat : mapAt t k = t[k] := by simp [mapAt, List.getD_eq_getElem?_getD, hk]
  have hm := Lib.hid (show mayM t k key = decide ((key.length : Int) = t[k].d.key) from by
    simp only [mayM, Int.toNat_natCast, hat]
    rw [show decide (0 ≤ (k : Int)) = true by simp, show decide ((k : Int) < (t.length : Int)) = true by simpa using hk]
    rfl)
  have hfw := h.few
  simp only [Value.slice.injEq] at hv
  obtain ⟨rfl, -, rfl⟩ := hv
  clear h hc hat
  generalize t[k].d.key = q at *
  go_enter Try.func36, Try.ntmps36
  go_wp2_with fail
  go_ret
  rw [hm.out]
  exact ⟨rfl, rfl⟩
theorem rfind9 {own : Own} {w : World} {pt pm : Nat} {v : Value} {ks : Nat → Value} {t : List MapM} (h : TabIn own w pt pm v ks t) (k : Nat) (hk : k < t.length) (key : List Int) (hkey : BytesOk key) (B : Nat) (hB : B ≤ w.heap.size) (A : Option Addr) (c : Nat) (hat : SAt w B 1 A key.length (bytesV key)) :
    Calls Try.prog 37 #[.pointer (some ⟨pt, 0, none⟩), .int .i64 k, .slice A key.length c] w fun e w' => e = .returned (.int .i64 (findK t[k].l key)) ∧ Below w.heap.size w w' := by
  obtain ⟨g, cv, rfl, hg, -, hc⟩ := h.at_ hk
  obtain ⟨Ak, ck, hks⟩ := (h.keys k hk).slice
  have hl := (h.ok _ (List.getElem_mem hk)).few
  have hko := (h.ok _ (List.getElem_mem hk)).key
  have hrow := h.keys k hk
  rw [hks] at hrow
  have c0 : ∀ w', Below w.heap.size w w' → w'.cell? ⟨pt, 1, none⟩ = some (.slice (some ⟨g, 0, none⟩) t.length cv) := fun w' hb => (h.below hb).blk.cell rfl
  have c4 : ∀ w', Below w.heap.size w w' → w'.cell? ⟨g, k * 6 + 4, none⟩ = some (.slice Ak t[k].l.length ck) := fun w' hb => (hb.cell (p := ⟨g, k * 6 + 4, none⟩) hg).trans (hc 4 _ (by rw [← hks]; rfl))
  have hst : ∀ w', Below w.heap.size w w' → (convert 23 9 (.slice A key.length c)).run Try.prog w' = .ok (.string (strOfNums key)) w' := fun w' hb => run_string_sat key (hat.below (hb.mono hB)) 23 9 5 rfl rfl rfl
  have hki : (k : Int) < (t.length : Int) := by omega
  have hfw := h.few
  have hrf := Below.refl w.heap.size w
  clear h hc hks hat
  generalize t[k].l = l at *
  go_enter Try.func37, Try.ntmps37
  go_wp2_with fail
  go_loopw [7] (fun q wr => ∃ j : Nat, j ≤ l.length ∧ q = .int .i64 j ∧ findK l key = findK (l.drop j) key ∧ Below w.heap.size w wr) (fun q _ => l.length - (intOf q).toNat)
  case atStart => exact ⟨0, by omega, rfl, rfl, hrf⟩
  case round =>
    obtain ⟨j, hj, rfl, he, hb⟩ := hrel
    have d0 := c0 _ hb
    have d4 := c4 _ hb
    have hs := hst _ hb
    rcases Nat.lt_or_ge j l.length with hlt | hge
    · obtain ⟨gk, ck', hv, hgk, -, hck⟩ := hrow.get (by omega)
      simp only [Value.slice.injEq] at hv
      obtain ⟨rfl, -, rfl⟩ := hv
      have e0 : ∀ w', Below w.heap.size w w' → w'.cell? ⟨gk, j * 2, none⟩ = some (.string (strOfNums l[j].k)) := fun w' hb => (hb.cell (p := ⟨gk, j * 2, none⟩) hgk).trans (hck _ _ (keysV_get l j hlt).1)
      have e1 : ∀ w', Below w.heap.size w w' → w'.cell? ⟨gk, j * 2 + 1, none⟩ = some (.int .i64 l[j].slot) := fun w' hb => (hb.cell (p := ⟨gk, j * 2 + 1, none⟩) hgk).trans (hck _ _ (keysV_get l j hlt).2)
      have hsb := str_beq l[j].k key (fun x hx => by have := hko _ (List.getElem_mem hlt) x hx; exact this) (fun x hx => hkey x hx)
      rw [List.drop_eq_getElem_cons hlt, findK] at he
      have HE := Lib.hid he
      clear he hrow hck
      by_cases hx : l[j].k = key
      · have hsb2 := hsb.trans (decide_eq_true hx)
        clear hsb
        go_upto_region 4 with fail
        go_region_held3 (fun w' => Below w.heap.size w w')
          (repeat (first | assumption | refine sbelow_drew ?_ | refine sbelow_alloc ?_ (by omega)))
          (fail)
        have hbd := hb.drew
        replace c0 := c0 _ hbd
        replace c4 := c4 _ hbd
        replace e0 := e0 _ hbd
        replace e1 := e1 _ hbd
        all_goals
          go_wp2_with fail
          go_ret
          rw [HE.out, if_pos hx]
          exact ⟨rfl, hbd⟩
      · have hsb2 := hsb.trans (decide_eq_false hx)
        clear hsb
        go_upto_region 4 with fail
        go_region_held3 (fun w' => Below w.heap.size w w')
          (repeat (first | assumption | refine sbelow_drew ?_ | refine sbelow_alloc ?_ (by omega)))
          (fail)
        have hbd := hb.drew
        all_goals
          go_wp2_with fail
          go_roundw
          case rel => exact ⟨j + 1, by omega, by go_num, by rw [HE.out, if_neg hx], hbd⟩
          case measure => simp [intOf]; omega
    · have he2 : findK l key = -1 := by rw [he, List.drop_eq_nil_of_le (by omega)]; rfl
      clear he
      have HE := Lib.hid he2
      clear he2
      go_wp2_with fail
      go_ret
      rw [HE.out]
      exact ⟨rfl, hb⟩
end
section
theorem findK_in {l : List KeyM} {key : List Int} : findK l key = -1 ∨ ∃ y ∈ l, findK l key = y.slot := by
  induction l with
  | nil => exact .inl rfl
  | cons x l ih =>
    rw [findK]
    split
    · exact .inr ⟨x, List.mem_cons_self .., rfl⟩
    · rcases ih with h | ⟨y, h1, h2⟩
      · exact .inl h
      · exact .inr ⟨y, List.mem_cons_of_mem _ h1, h2⟩
theorem mayM_in {t : List MapM} {i : Int} {key : List Int} (h : mayM t i key = true) : ∃ k : Nat, i = k ∧ k < t.length ∧ (key.length : Int) = (mapAt t k).d.key := by
  simp only [mayM, Bool.and_eq_true, decide_eq_true_eq, beq_iff_eq] at h
  obtain ⟨⟨h1, h2⟩, h3⟩ := h
  refine ⟨i.toNat, by omega, by omega, h3⟩
theorem mapAt_get {t : List MapM} {k : Nat} (h : k < t.length) : mapAt t k = t[k] := by simp [mapAt, List.getD_eq_getElem?_getD, h]
theorem rlook9 {own : Own} {w : World} {pt pm : Nat} {v : Value} {ks : Nat → Value} {t : List MapM} (h : TabIn own w pt pm v ks t) (i : Int) (key : List Int) (hkey : BytesOk key) (B : Nat) (hB : B ≤ w.heap.size) (A : Option Addr) (c : Nat) (hat : SAt w B 1 A key.length (bytesV key)) :
    Calls Try.prog 85 #[.pointer (some ⟨pt, 0, none⟩), .int .i64 i, .slice A key.length c] w fun e w' => e = .returned (.tuple #[.int .u64 (lookM t i key).1, .int .i64 (lookM t i key).2]) ∧ Below w.heap.size w w' := by
  have hmy := fun w' (hb : Below w.heap.size w w') => rmay9 (h.below hb) i key A c
  have hrf := Below.refl w.heap.size w
  cases hm : mayM t i key with
  | false =>
    rw [hm] at hmy
    have hL := Lib.hid (show lookM t i key = (0, 1) from by unfold lookM; rw [if_pos hm])
    clear hm h hat
    go_enter Try.func85, Try.ntmps85
    go_wp2_with fail
    refine (hmy _ hrf).mono ?_
    rintro e w1 ⟨rfl, rfl⟩
    go_wp2_with fail
    go_ret2
    rw [hL.out]
    exact ⟨rfl, hrf⟩
  | true =>
    obtain ⟨k, rfl, hk, hlen⟩ := mayM_in hm
    have hL0 : lookM t k key = if findK t[k].l key < 0 then (0, 0) else (slotArea k (findK t[k].l key) * 4294967296, 0) := by
      unfold lookM; rw [if_neg (by rw [hm]; simp), Int.toNat_natCast, mapAt_get hk]
    rw [hm] at hmy
    have hfi := fun w' (hb : Below w.heap.size w w') => rfind9 (h.below hb) k hk key hkey B (Nat.le_trans hB hb.size) A c (hat.below (hb.mono hB))
    have hfw := h.few
    have hsl : findK t[k].l key = -1 ∨ (0 ≤ findK t[k].l key ∧ findK t[k].l key < 1024) := by
      rcases findK_in (l := t[k].l) (key := key) with e | ⟨y, hy, e⟩
      · exact .inl e
      · rw [e]; exact .inr ((h.ok _ (List.getElem_mem hk)).slot y hy)
    clear hm hlen h hat
    generalize findK t[k].l key = s at *
    rcases hsl with rfl | ⟨s0, s1⟩
    · have hL := Lib.hid (show lookM t k key = (0, 0) from by rw [hL0, if_pos (by decide)])
      clear hL0
      go_enter Try.func85, Try.ntmps85
      go_wp2_with fail
      refine (hmy _ hrf).mono ?_
      rintro e w1 ⟨rfl, rfl⟩
      go_wp2_with fail
      refine (hfi _ hrf).mono ?_
      rintro e w2 ⟨rfl, hb⟩
      go_wp2_with fail
      go_ret2
      rw [hL.out]
      exact ⟨rfl, hb⟩
    · have hL := Lib.hid (show lookM t k key = (slotArea k s * 4294967296, 0) from by rw [hL0, if_neg (by omega)])
      have ha := fun w' => rslot9 k s (by omega) (by omega) s0 (by omega) w'
      have ht := fun w' => rat8 (slotArea k s) 0 (by simp only [slotArea]; omega) (by simp only [slotArea]; omega) (by decide) (by decide) w'
      clear hL0
      generalize slotArea k s = q at *
      go_enter Try.func85, Try.ntmps85
      go_wp2_with fail
      refine (hmy _ hrf).mono ?_
      rintro e w1 ⟨rfl, rfl⟩
      go_wp2_with fail
      refine (hfi _ hrf).mono ?_
      rintro e w2 ⟨rfl, hb⟩
      go_wp2_with fail
      refine (ha _).mono ?_
      rintro e w3 ⟨rfl, rfl⟩
      go_wp2_with fail
      refine (ht _).mono ?_
      rintro e w4 ⟨rfl, rfl⟩
      go_wp2_with fail
      go_ret2
      rw [hL.out]
      exact ⟨by simp, hb⟩
end
section
theorem SAt.keep {w w' : World} {B size n : Nat} {A : Option Addr} {xs : List Value} {X : Nat → Prop} (h : SAt w B size A n xs) (hB : B ≤ w.heap.size) (hk : Kept X w w') (hx : ∀ b o, A = some ⟨b, o, none⟩ → ¬ X b) : SAt w' B size A n xs := by
  refine ⟨h.1, fun hn => ?_⟩
  obtain ⟨b, o, rfl, hb, hc⟩ := h.2 hn
  exact ⟨b, o, rfl, hb, fun j u hu => (hk.cell (by omega) (hx b o rfl)).trans (hc j u hu)⟩
theorem storeM_len (mem : List AreaM) (a size n : Int) : (storeM mem a size n).1.length = mem.length := by
  unfold storeM
  split
  · rfl
  · split
    · rfl
    · split
      · rfl
      · simp
/-- The areas' blocks. -/
def Own.areas (own : Own) : Nat → Prop := fun b => ∃ k, own.ofArea k b
theorem Own.areas_not {own : Own} {b : Nat} {r : Role} (h : own b = some r) (hr : r.isTab) : ¬ own.areas b := by
  rintro ⟨k, e | e⟩ <;> rw [h] at e <;> cases e <;> exact hr
theorem MemIn.drew {own : Own} {w : World} {pm : Nat} {v : Value} {sl : Nat → Value × Value} {mem : List AreaM} (h : MemIn own w pm v sl mem) : MemIn own w.drew pm v sl mem := h.below (Below.refl _ _).drew
theorem held_drew {own : Own} {w w' : World} {pm : Nat} {v : Value} {sl : Nat → Value × Value} {mem : List AreaM} {X : Nat → Prop} (h : MemIn own w' pm v sl mem ∧ Kept X w w') : MemIn own w'.drew pm v sl mem ∧ Kept X w w'.drew := ⟨h.1.drew, h.2.drew⟩
theorem rfill9 {own : Own} {w : World} {pt pm : Nat} {v vm : Value} {ks : Nat → Value} {sl : Nat → Value × Value} {mem : List AreaM} {t : List MapM} (h : TabIn own w pt pm v ks t) (hm : MemIn own w pm vm sl mem) (hn : mem.length ≤ 1000000)
    (i s : Int) (hi : 0 ≤ i) (hi2 : i ≤ 8) (hs : 0 ≤ s) (hs2 : s ≤ 1024) (val : List Int) (hval : BytesOk val) (hvl : val.length ≤ 64) (B : Nat) (hB : B ≤ w.heap.size) (A : Option Addr) (c : Nat) (hat : SAt w B 1 A val.length (bytesV val)) (hA : ∀ b o, A = some ⟨b, o, none⟩ → ¬ own.areas b) :
    Calls Try.prog 39 #[.pointer (some ⟨pt, 0, none⟩), .int .i64 i, .int .i64 s, .slice A val.length c] w fun e w' => e = .returned (.tuple #[]) ∧ MemIn own w' pm vm sl (fillM mem i s 0 val) ∧ Kept own.areas w w' := by
  have ha := fun w' => rslot9 i s hi hi2 hs hs2 w'
  have hq : 0 ≤ slotArea i s ∧ slotArea i s ≤ 1000000 := by simp only [slotArea]; omega
  have ht := fun (k : Nat) (hk : k ≤ 64) w' => rat8 (slotArea i s) k hq.1 (by omega) (by omega) (by omega) w'
  have hfill := Lib.hid (show ∀ m (j : Nat), (hj : j < val.length) → fillM m i s j (val.drop j) = fillM (storeM m (slotArea i s * 4294967296 + j) 1 val[j]).1 i s (j + 1) (val.drop (j + 1)) from fun m j hj => by
    rw [List.drop_eq_getElem_cons hj, fillM])
  have hst := fun (m : List AreaM) (w' : World) (h : MemIn own w' pm vm sl m) (hn : m.length ≤ 1000000) (j : Nat) (hj : j ≤ 64) (x : Int) (hx : 0 ≤ x ∧ x ≤ 255) => rstore8 h hn (slotArea i s * 4294967296 + j) 1 x ⟨by omega, by omega⟩ (.inl rfl) ⟨hx.1, by omega⟩
  have c0 : ∀ w', Kept own.areas w w' → w'.cell? ⟨pt, 0, none⟩ = some (.pointer (some ⟨pm, 0, none⟩)) := fun w' hk => (h.blk.kept hk (Own.areas_not h.role trivial)).cell rfl
  have hv := fun w' (hk : Kept own.areas w w') => SAt.keep hat hB hk hA
  have hrf : Kept own.areas w w := Kept.refl
  have hF := Lib.hid (show fillM mem i s 0 val = fillM mem i s 0 (val.drop 0) from rfl)
  have hat0 := hat
  clear h hat hA
  generalize slotArea i s = q at *
  go_enter Try.func39, Try.ntmps39
  go_wp2_with fail
  go_loopw [8] (fun x wr => ∃ (j : Nat) (m : List AreaM), j ≤ val.length ∧ x = .int .i64 j ∧ m.length = mem.length ∧ fillM mem i s 0 val = fillM m i s j (val.drop j) ∧ MemIn own wr pm vm sl m ∧ Kept own.areas w wr) (fun x _ => val.length - (intOf x).toNat)
  case atStart => exact ⟨0, mem, by omega, rfl, rfl, rfl, hm, hrf⟩
  case round =>
    obtain ⟨j, m, hj, rfl, hml, he, hmr, hkr⟩ := hrel
    rcases Nat.lt_or_ge j val.length with hlt | hge
    · obtain ⟨b, o, rfl, -, -⟩ := hat0.2 (by omega)
      have hvj : ∀ w', Kept own.areas w w' → w'.cell? ⟨b, o + j, none⟩ = some (.int .u8 val[j]) := fun w' hk => by
        obtain ⟨b', o', hbo, -, hc⟩ := (hv w' hk).2 (by omega)
        simp only [Option.some.injEq, Addr.mk.injEq, and_true] at hbo
        obtain ⟨rfl, rfl⟩ := hbo
        exact hc j _ (by simp [bytesV, hlt])
      have HE := Lib.hid (he.trans (hfill.out m j hlt))
      have hx := hval val[j] (List.getElem_mem hlt)
      have hstj := fun w' h => hst m w' h (by omega) j (by omega) val[j] hx
      have htj := ht j (by omega)
      have hS : MemIn own wr pm vm sl m ∧ Kept own.areas w wr := ⟨hmr, hkr⟩
      have hlen := storeM_len m (q * 4294967296 + j) 1 val[j]
      clear he hst ht hv hm hmr
      generalize val[j] = x at *
      go_upto_region 3 with fail
      have hkd : Kept own.areas w wr.drew := hkr.drew
      have d0 := c0 _ hkd
      have d1 := hvj _ hkd
      have hji : (j : Int) < (val.length : Int) := by omega
      refine wp_region_still_tail 14 (by kernel_rfl) (by kernel_rfl) ?_
      simp only [List.take_succ_cons, List.take_zero, List.drop_succ_cons, List.drop_zero]
      change wpStill _ _ wr.drew _ _ _
      repeat (first | still_step | still_call (ha _) | still_call (htj _))
      refine wpStill_nil ?_
      change wpList _ _ _ _ _ wr.drew
      have hwx : IntKind.u64.wrap x = x := by rw [IntKind.wrap_u64]; omega
      rw [hwx]
      clear c0 d0 d1 hvj
      have hSd := held_drew hS
      generalize wr.drew = w2 at *
      go_wp2_with fail
      refine (hstj _ hSd.1).mono ?_
      rintro e w3 ⟨rfl, hm3, hk3⟩
      have hk4 : Kept own.areas w w3 := hSd.2.trans hk3 (fun _ _ h => h)
      go_wp2_with fail
      go_roundw
      case rel => exact ⟨j + 1, _, by omega, by go_num, hlen.trans hml, HE.out, hm3, hk4⟩
      all_goals (simp [intOf]; omega)
    · have he2 : fillM mem i s 0 val = m := by rw [he, List.drop_eq_nil_of_le (by omega)]; rfl
      have HE := Lib.hid he2
      clear he he2
      go_wp2_with fail
      exact ⟨rfl, .tuple #[], by simp [results, Try.results39], rfl, by rw [HE.out]; exact hmr, hkr⟩
end
end Go.Proofs.Ytncogaikiceidaa
