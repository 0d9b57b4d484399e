/- told; a call joins the machine. No statement is proved here. -/
import Derived.Test.YtncogaikiceidaaN16
import Derived.Test.YtncogaikiceidaaN12
import Derived.StillTailTactics
namespace Go.Proofs.Ytncogaikiceidaa
open Go.RowKit
set_option linter.unusedSimpArgs false
set_option linter.unusedVariables false
set_option linter.unnecessarySimpa false
section
/-! ### What a helper is told -/
structure CalledM.Ok (c : CalledM) : Prop where
  key : BytesOk c.key
  val : BytesOk c.val
  n : ∀ x ∈ c.n, U64 x
/-- The rows of what a helper is told. -/
structure ToldRows (w : World) (B : Nat) (d : Value × Value × Value) (c : CalledM) : Prop where
  key : w.ownsRow B 5 1 d.1 c.key.length (bytesV c.key)
  val : w.ownsRow B 5 1 d.2.1 c.val.length (bytesV c.val)
  n : w.ownsRow B 53 1 d.2.2 c.n.length (c.n.map (Value.int .u64))
def ToldGood (defs : List DefM) (tol : List Int) (j : Nat) (c : CalledM) : Prop :=
  (∀ x ∈ tol.drop j, x = 4) ∨ (∃ q : Nat, c.map = q ∧ q < defs.length) ∨ (j = 0 ∧ tol.head? = some 1)
theorem told_next (m : MchM) (defs : List DefM) (k : Int) (l : List Int) (i : Nat) (c : CalledM) (hs : setM m (i + 1) = true) : toldM m defs (k :: l) i c =
    if k = 1 then (if tableM (regM m (i + 1)) defs.length < 0 then (c, 113) else toldM m defs l (i + 1) { c with map := tableM (regM m (i + 1)) defs.length })
    else if k = 2 then
      (if (readM m.mem (regM m (i + 1)) (defs.getD c.map.toNat default).key).2 ≠ 0 then (c, (readM m.mem (regM m (i + 1)) (defs.getD c.map.toNat default).key).2) else toldM m defs l (i + 1) { c with key := (readM m.mem (regM m (i + 1)) (defs.getD c.map.toNat default).key).1 })
    else if k = 3 then
      (if (readM m.mem (regM m (i + 1)) (defs.getD c.map.toNat default).val).2 ≠ 0 then (c, (readM m.mem (regM m (i + 1)) (defs.getD c.map.toNat default).val).2) else toldM m defs l (i + 1) { c with val := (readM m.mem (regM m (i + 1)) (defs.getD c.map.toNat default).val).1 })
    else toldM m defs l (i + 1) { c with n := c.n ++ [regM m (i + 1)] } := by
  rw [toldM]
  simp only
  rw [if_neg (by rw [hs]; decide)]
theorem told_unset (m : MchM) (defs : List DefM) (k : Int) (l : List Int) (i : Nat) (c : CalledM) (hs : setM m (i + 1) = false) : toldM m defs (k :: l) i c = (c, 110) := by
  rw [toldM]
  simp only
  rw [if_pos hs]
def toldCells (id : Int) (c : CalledM) (d : Value × Value × Value) : List Value := [.int .i64 id, .int .i64 c.map, d.1, d.2.1, d.2.2, .int .u64 0]
def zeroCalled : List Value := [.int .i64 0, .int .i64 0, .slice none 0 0, .slice none 0 0, .slice none 0 0, .int .u64 0]
/-- What told hands back. -/
def ToldOk (w : World) (id : Int) (r : CalledM × Int) (e : Ending) (w' : World) : Prop :=
  Below w.heap.size w w' ∧ ∃ v, e = .returned (.tuple #[v, .int .i64 r.2]) ∧ (r.2 ≠ 0 → v = .agg zeroCalled.toArray) ∧ (r.2 = 0 → ∃ d, v = .agg (toldCells id r.1 d).toArray ∧ ToldRows w' w.heap.size d r.1 ∧ r.1.Ok ∧ r.1.id = id ∧ r.1.ret = 0)
theorem ToldRows.set {w : World} {B : Nat} {d : Value × Value × Value} {c : CalledM} (h : ToldRows w B d c) {p : Addr} (hp : p.block < B) (u : Value) : ToldRows (w.setCell p u) B d c :=
  ⟨RowKit.ownsRow_setCell_below h.key hp u, RowKit.ownsRow_setCell_below h.val hp u, RowKit.ownsRow_setCell_below h.n hp u⟩
theorem ToldRows.below {w w' : World} {B : Nat} {d : Value × Value × Value} {c : CalledM} (h : ToldRows w B d c) (hb : Below w.heap.size w w') : ToldRows w' B d c :=
  ⟨own_kept h.key (Kept.of (X := fun _ => False) hb (Nat.le_refl _)) (fun _ _ => id), own_kept h.val (Kept.of (X := fun _ => False) hb (Nat.le_refl _)) (fun _ _ => id), own_kept h.n (Kept.of (X := fun _ => False) hb (Nat.le_refl _)) (fun _ _ => id)⟩
/-- The cells of a block of six. -/
theorem Blk.six {w : World} {b : Nat} {a0 a1 a2 a3 a4 a5 : Value} (h : Blk w b [a0, a1, a2, a3, a4, a5]) : (w.cell? ⟨b, 0, none⟩ = some a0 ∧ w.cell? ⟨b, 1, none⟩ = some a1 ∧ w.cell? ⟨b, 2, none⟩ = some a2 ∧ w.cell? ⟨b, 3, none⟩ = some a3 ∧ w.cell? ⟨b, 4, none⟩ = some a4 ∧ w.cell? ⟨b, 5, none⟩ = some a5) ∧
    (w.frozen? ⟨b, 0, none⟩ = false ∧ w.frozen? ⟨b, 1, none⟩ = false ∧ w.frozen? ⟨b, 2, none⟩ = false ∧ w.frozen? ⟨b, 3, none⟩ = false ∧ w.frozen? ⟨b, 4, none⟩ = false ∧ w.frozen? ⟨b, 5, none⟩ = false) :=
  ⟨⟨h.cell rfl, h.cell rfl, h.cell rfl, h.cell rfl, h.cell rfl, h.cell rfl⟩, h.free 0, h.free 1, h.free 2, h.free 3, h.free 4, h.free 5⟩
theorem Blk.off {w : World} {b : Nat} {K : List Value} (h : Blk w b K) {p : Addr} (hp : p.block ≠ b) (u : Value) : Blk (w.setCell p u) b K :=
  h.kept (X := fun k => k = p.block) (Kept.refl.set rfl) (fun e => hp e.symm)
theorem Blk.put6 {w : World} {b : Nat} {a0 a1 a2 a3 a4 a5 : Value} (h : Blk w b [a0, a1, a2, a3, a4, a5]) (b0 b1 b2 b3 b4 b5 : Value) :
    Blk ((((((w.setCell ⟨b, 0, none⟩ b0).setCell ⟨b, 1, none⟩ b1).setCell ⟨b, 2, none⟩ b2).setCell ⟨b, 3, none⟩ b3).setCell ⟨b, 4, none⟩ b4).setCell ⟨b, 5, none⟩ b5) b [b0, b1, b2, b3, b4, b5] := by
  have h0 := h.set (k := 0) (by simp) b0
  have h1 := h0.set (k := 1) (by simp) b1
  have h2 := h1.set (k := 2) (by simp) b2
  have h3 := h2.set (k := 3) (by simp) b3
  have h4 := h3.set (k := 4) (by simp) b4
  exact h4.set (k := 5) (by simp) b5
theorem blk_new {w : World} {b : Nat} {xs : List Value} {t : TypeId} (h : w.heap[b]? = some (.cells xs.toArray t)) : Blk w b xs := by
  refine ⟨fun k u hu => ?_, fun k => ?_, (Array.getElem?_eq_some_iff.1 h).1⟩
  · rw [cell_of_row w b _ _ t (0, 0) h]; simpa using hu
  · exact boxt h k w (Below.refl _ _)
set_option maxRecDepth 100000 in
set_option maxHeartbeats 2000000 in
theorem rtold11 {own : Own} {w : World} {pM : Nat} {g : Gh} {l : List Insn} {defs : List DefM} {m : MchM} (h : MchIn own w pM g l defs m) (hn : m.mem.length ≤ 1000000) (hdl : defs.length ≤ 1000) (hdf : ∀ d ∈ defs, defOk d = true)
    (id : Int) (tol : List Int) (htl : tol.length ≤ 5) (hto : ∀ x ∈ tol, x = 1 ∨ x = 2 ∨ x = 3 ∨ x = 4) (hgd : ToldGood defs tol 0 (called0 id)) (A : Option Addr) (c : Nat) (tl mo : Int) (dr : Bool) (hat : SAt w w.heap.size 1 A tol.length (bytesV tol)) :
    Calls Try.prog 84 #[.pointer (some ⟨pM, 0, none⟩), .int .i64 id, .agg #[.slice A tol.length c, .int .u8 tl, .bool dr, .int .u64 mo]] w (ToldOk w id (toldM m defs tol 0 (called0 id))) := by
  have hB := fun w' (hb : Below w.heap.size w w') => h.below hb
  have hrd := fun (n size : Int) (hu : U64 n) (h0 : 0 ≤ size) (h1 : size ≤ 1024) w' (hb : Below w.heap.size w w') => rread8 (h.below hb).mem hn n size hu h0 h1
  have htb := fun (n : Int) w' (hb : Below w.heap.size w w') => rtable11 (h.below hb) hdl n
  have hR : ∀ j, j < 5 → ∀ w', Below w.heap.size w w' → w'.cell? ⟨pM, 1 + (j + 1), none⟩ = some (.int .u64 (regM m (j + 1))) := fun j hj w' hb => by
    have := (h.blk.below hb).cell (mch_r h.lr (j + 1) (by omega)); simpa using this
  have hS : ∀ j, j < 5 → ∀ w', Below w.heap.size w w' → w'.cell? ⟨pM, 12 + (j + 1), none⟩ = some (.bool (setM m (j + 1))) := fun j hj w' hb => by
    have := (h.blk.below hb).cell (mch_s h.lr h.ls (j + 1) (by omega)); simpa using this
  have hpm : ∀ w', Below w.heap.size w w' → w'.cell? ⟨pM, 23, none⟩ = some (.pointer (some ⟨g.pm, 0, none⟩)) := fun w' hb => (h.blk.below hb).cell (mch_hi h.lr h.ls 0)
  obtain ⟨cd, hD, hdat⟩ := h.maps
  have hdc : ∀ w', Below w.heap.size w w' → w'.cell? ⟨pM, 25, none⟩ = some (.slice g.AD defs.length cd) := fun w' hb => by
    have := (h.blk.below hb).cell (mch_hi h.lr h.ls 2)
    rw [this]; simp [hD]
  have hdk := fun w' (hb : Below w.heap.size w w') (k : Nat) (hk : k < defs.length) => defs_at (n := 0) (hdat.below hb) hk
  have hru : ∀ j : Nat, U64 (regM m ((j : Int) + 1)) := fun j => by have := h.reg_u64 (j + 1); simpa using this
  have hok := h.mem.ok
  obtain ⟨i0, hi0, hz0, hz1, hz2⟩ := info_parts info53
  unfold ToldOk
  generalize hSz : w.heap.size = S at *
  have hrf := Below.refl S w
  clear h hD
  go_enter Try.func84, Try.ntmps84
  go_wp2_with fail
  have hW0 : Blk ((w.alloc (.cells #[.slice A tol.length c, .int .u8 tl, .bool dr, .int .u64 mo] 146)).alloc (.cells zeroCalled.toArray 119)) (S + 1) zeroCalled := blk_new (t := 119) (by
    have := heap_alloc_new (w.alloc (.cells #[.slice A tol.length c, .int .u8 tl, .bool dr, .int .u64 mo] 146)) (.cells zeroCalled.toArray 119)
    simpa [hSz] using this)
  have hW1 : Blk (((w.alloc (.cells #[.slice A tol.length c, .int .u8 tl, .bool dr, .int .u64 mo] 146)).alloc (.cells zeroCalled.toArray 119)).alloc (.cells (toldCells id (called0 id) (.slice none 0 0, .slice none 0 0, .slice none 0 0)).toArray 119)) (S + 2) (toldCells id (called0 id) (.slice none 0 0, .slice none 0 0, .slice none 0 0)) := blk_new (t := 119) (by
    have := heap_alloc_new ((w.alloc (.cells #[.slice A tol.length c, .int .u8 tl, .bool dr, .int .u64 mo] 146)).alloc (.cells zeroCalled.toArray 119)) (.cells (toldCells id (called0 id) (.slice none 0 0, .slice none 0 0, .slice none 0 0)).toArray 119)
    simpa [hSz] using this)
  have hWz : (((w.alloc (.cells #[.slice A tol.length c, .int .u8 tl, .bool dr, .int .u64 mo] 146)).alloc (.cells zeroCalled.toArray 119)).alloc (.cells (toldCells id (called0 id) (.slice none 0 0, .slice none 0 0, .slice none 0 0)).toArray 119)).heap.size = S + 3 := by simp [hSz]
  have hW2 : Blk (((w.alloc (.cells #[.slice A tol.length c, .int .u8 tl, .bool dr, .int .u64 mo] 146)).alloc (.cells zeroCalled.toArray 119)).alloc (.cells (toldCells id (called0 id) (.slice none 0 0, .slice none 0 0, .slice none 0 0)).toArray 119)) (S + 1) zeroCalled := hW0.below ((Below.refl _ _).alloc (Nat.le_refl _) _)
  have hWb : Below S w (((w.alloc (.cells #[.slice A tol.length c, .int .u8 tl, .bool dr, .int .u64 mo] 146)).alloc (.cells zeroCalled.toArray 119)).alloc (.cells (toldCells id (called0 id) (.slice none 0 0, .slice none 0 0, .slice none 0 0)).toArray 119)) := ((hrf.alloc (Nat.le_of_eq hSz.symm) _).alloc (by simp [hSz]) _).alloc (by simp [hSz]; omega) _
  have hsig : (((w.alloc (.cells #[.slice A tol.length c, .int .u8 tl, .bool dr, .int .u64 mo] 146)).alloc (.cells zeroCalled.toArray 119)).alloc (.cells (toldCells id (called0 id) (.slice none 0 0, .slice none 0 0, .slice none 0 0)).toArray 119)).cell? ⟨S, 0, none⟩ = some (.slice A tol.length c) := by
    have h0 := boxc (heap_alloc_new w (.cells #[.slice A tol.length c, .int .u8 tl, .bool dr, .int .u64 mo] 146)) (k := 0) (u := .slice A tol.length c) rfl (((w.alloc (.cells #[.slice A tol.length c, .int .u8 tl, .bool dr, .int .u64 mo] 146)).alloc (.cells zeroCalled.toArray 119)).alloc (.cells (toldCells id (called0 id) (.slice none 0 0, .slice none 0 0, .slice none 0 0)).toArray 119)) ((((Below.refl _ _).alloc (Nat.le_refl _) _).alloc (by simp) _))
    rw [hSz] at h0; exact h0
  have hW3 : (((w.alloc (.cells #[.slice A tol.length c, .int .u8 tl, .bool dr, .int .u64 mo] 146)).alloc (.cells zeroCalled.toArray 119)).alloc (.cells (toldCells id (called0 id) (.slice none 0 0, .slice none 0 0, .slice none 0 0)).toArray 119)) = ((((w.alloc (.cells #[.slice A tol.length c, .int .u8 tl, .bool dr, .int .u64 mo] 146)).alloc (.cells #[.int .i64 0, .int .i64 0, .slice none 0 0, .slice none 0 0, .slice none 0 0, .int .u64 0] 119)).alloc (.cells #[.int .i64 id, .int .i64 0, .slice none 0 0, .slice none 0 0, .slice none 0 0, .int .u64 0] 119))) := rfl
  rw [← hW3]
  clear hW0 hW3
  generalize (((w.alloc (.cells #[.slice A tol.length c, .int .u8 tl, .bool dr, .int .u64 mo] 146)).alloc (.cells zeroCalled.toArray 119)).alloc (.cells (toldCells id (called0 id) (.slice none 0 0, .slice none 0 0, .slice none 0 0)).toArray 119)) = W at *
  have hrW := Below.refl (S + 1) W
  have hsg : ∀ w', Below (S + 1) W w' → w'.cell? ⟨S, 0, none⟩ = some (.slice A tol.length c) := fun w' hb => (hb.cell (p := ⟨S, 0, none⟩) (Nat.lt_succ_self S)).trans hsig
  have hLow : ∀ w', Below (S + 1) W w' → Below S w w' := fun w' hb => hWb.trans (hb.mono (Nat.le_succ S))
  go_loopw [9] (fun q wr => ∃ (j : Nat) (C : CalledM) (Ak Av An : Option Addr) (ck cv cn : Nat), j ≤ tol.length ∧ q = .int .i64 j ∧ toldM m defs tol 0 (called0 id) = toldM m defs (tol.drop j) j C ∧ Below (S + 1) W wr ∧ Blk wr (S + 1) zeroCalled ∧ Blk wr (S + 1 + 1) (toldCells id C (.slice Ak C.key.length ck, .slice Av C.val.length cv, .slice An C.n.length cn)) ∧ ToldRows wr (S + 3) (.slice Ak C.key.length ck, .slice Av C.val.length cv, .slice An C.n.length cn) C ∧ C.Ok ∧ C.id = id ∧ C.ret = 0 ∧ C.n.length ≤ j ∧ ToldGood defs tol j C ∧ S + 3 ≤ wr.heap.size) (fun q _ => tol.length - (intOf q).toNat)
  case atStart => exact ⟨0, called0 id, none, none, none, 0, 0, 0, by omega, rfl, rfl, hrW, hW2, hW1, ⟨World.ownsRow_nil _ _ _ _, World.ownsRow_nil _ _ _ _, World.ownsRow_nil _ _ _ _⟩, ⟨(fun b h => by cases h), (fun b h => by cases h), (fun b h => by cases h)⟩, rfl, rfl, Nat.le_refl _, hgd, Nat.le_of_eq hWz.symm⟩
  case round =>
    obtain ⟨j, C, Ak, Av, An, ck, cv, cn, hj, rfl, he, hbr, hZ, hK, hrows, hCok, hCid, hCr, hCn, hG, hsz⟩ := hrel
    have hbl := hLow _ hbr
    obtain ⟨⟨za0, za1, za2, za3, za4, za5⟩, zf0, zf1, zf2, zf3, zf4, zf5⟩ := hZ.six
    obtain ⟨⟨ka0, ka1, ka2, ka3, ka4, ka5⟩, kf0, kf1, kf2, kf3, kf4, kf5⟩ := Blk.six hK
    have hsg0 := hsg _ hbr
    rcases Nat.lt_or_ge j tol.length with hlt | hge
    · have hji : (j : Int) < (tol.length : Int) := by omega
      have hj5 : (j : Int) + 1 < 11 := by omega
      have hR0 := hR j (by omega) _ hbl
      have hS0 := hS j (by omega) _ hbl
      have hd := List.drop_eq_getElem_cons hlt
      rw [hd] at he
      obtain ⟨tb, tq, rfl, htb2, hct⟩ := hat.2 (by omega)
      have htc : ∀ w', Below S w w' → w'.cell? ⟨tb, tq + j, none⟩ = some (.int .u8 tol[j]) := fun w' hb => (hb.cell (p := ⟨tb, tq + j, none⟩) htb2).trans (hct j _ (by simp [bytesV, hlt]))
      have htk := hto _ (List.getElem_mem hlt)
      cases hset : setM m (j + 1) with
      | false =>
        rw [told_unset m defs _ _ j C hset] at he
        rw [hset] at hS0
        have HE := Lib.hid he
        clear he hd hset
        go_wp2_with fail
        obtain ⟨⟨f0, f1, f2, f3, f4, f5⟩, -⟩ := (hZ.put6 (.int .i64 0) (.int .i64 0) (.slice none 0 0) (.slice none 0 0) (.slice none 0 0) (.int .u64 0)).six
        refine bodyPost_ret (v := .tuple #[.agg #[.int .i64 0, .int .i64 0, .slice none 0 0, .slice none 0 0, .slice none 0 0, .int .u64 0], .int .i64 110]) (by simp [results, Try.results84, go_sem, f0, f1, f2, f3, f4, f5]) rfl ?_
        have hE : (toldM m defs tol 0 (called0 id)).2 = 110 := by rw [HE.out]
        refine ⟨((((((hbl.setCell (by simp) _).setCell (by simp) _).setCell (by simp) _).setCell (by simp) _).setCell (by simp) _).setCell (by simp) _), _, by rw [hE]; rfl, fun _ => rfl, fun h => ?_⟩
        rw [hE] at h
        exact absurd h (by decide)
      | true =>
        rw [told_next m defs _ _ j C hset] at he
        rw [hset] at hS0
        have htc0 := htc _ hbl
        have hGn : ∀ x, tol[j] = x → x = 4 ∨ (∃ q : Nat, C.map = q ∧ q < defs.length) ∨ x = 1 := fun x hx => by
          rcases hG with h | h | ⟨h1, h2⟩
          · rw [hd] at h; exact .inl (by rw [← hx]; exact h _ (List.mem_cons_self ..))
          · exact .inr (.inl h)
          · subst h1
            refine .inr (.inr ?_)
            rw [← hx]
            cases tol with
            | nil => simp at hlt
            | cons a r => simpa using h2
        have hGm : ∀ C' : CalledM, C'.map = C.map → (tol[j] = 4 ∨ ∃ q : Nat, C.map = q ∧ q < defs.length) → ToldGood defs tol (j + 1) C' := fun C' hC' hh => by
          rcases hG with h | h | ⟨h1, h2⟩
          · refine .inl (fun x hx => h x ?_)
            rw [hd]; exact List.mem_cons_of_mem _ hx
          · obtain ⟨q, h1, h2⟩ := h; exact .inr (.inl ⟨q, by rw [hC', h1], h2⟩)
          · rcases hh with hh | ⟨q, h3, h4⟩
            · subst h1
              cases tol with
              | nil => simp at hlt
              | cons a r => simp at h2 hh; omega
            · exact .inr (.inl ⟨q, by rw [hC', h3], h4⟩)
        generalize tol[j] = kk at *
        clear hd hset hG
        have hru0 := hru j
        rcases htk with rfl | rfl | rfl | rfl
        · have htb1 := htb (regM m (j + 1)) _ hbl
          rw [if_pos rfl] at he
          have hTr : tableM (regM m (j + 1)) defs.length < 0 ∨ ∃ q : Nat, tableM (regM m (j + 1)) defs.length = q ∧ q < defs.length := by
            unfold tableM
            rcases idx_lt (ids := (List.range defs.length).map wordM) (a := regM m (j + 1)) 0 with h | ⟨q, h1, h2⟩
            · left; omega
            · right; exact ⟨q, by rw [h2]; simp, by simpa using h1⟩
          generalize tableM (regM m (j + 1)) defs.length = T at *
          have HE0 := Lib.hid he
          clear he
          go_wp2_with fail
          refine htb1.mono ?_
          rintro e w1 ⟨rfl, hb1⟩
          have hbl1 : Below S w w1 := hbl.trans (hb1.mono (by omega))
          have hbr1 : Below (S + 1) W w1 := hbr.trans (hb1.mono (by omega))
          have hZ1 := hZ.below hb1
          have hK1 := hK.below hb1
          have hrows1 := hrows.below hb1
          have hsz1 : S + 3 ≤ w1.heap.size := Nat.le_trans hsz hb1.size
          clear za0 za1 za2 za3 za4 za5 zf0 zf1 zf2 zf3 zf4 zf5 ka0 ka1 ka2 ka3 ka4 ka5 kf0 kf1 kf2 kf3 kf4 kf5
          obtain ⟨⟨za0, za1, za2, za3, za4, za5⟩, zf0, zf1, zf2, zf3, zf4, zf5⟩ := hZ1.six
          obtain ⟨⟨ka0, ka1, ka2, ka3, ka4, ka5⟩, kf0, kf1, kf2, kf3, kf4, kf5⟩ := Blk.six hK1
          by_cases hT : T < 0
          · have HE := Lib.hid (HE0.out.trans (if_pos hT))
            clear HE0 hTr
            go_wp2_with fail
            obtain ⟨⟨f0, f1, f2, f3, f4, f5⟩, -⟩ := ((hZ1.off (p := ⟨S + 1 + 1, 1, none⟩) (by show S + 1 + 1 ≠ S + 1; omega) (.int .i64 T)).put6 (.int .i64 0) (.int .i64 0) (.slice none 0 0) (.slice none 0 0) (.slice none 0 0) (.int .u64 0)).six
            refine bodyPost_ret (v := .tuple #[.agg #[.int .i64 0, .int .i64 0, .slice none 0 0, .slice none 0 0, .slice none 0 0, .int .u64 0], .int .i64 113]) (by simp [results, Try.results84, go_sem, f0, f1, f2, f3, f4, f5]) rfl ?_
            have hE : (toldM m defs tol 0 (called0 id)).2 = 113 := by rw [HE.out]
            refine ⟨(((((((hbl1.setCell (show S ≤ (⟨S + 1 + 1, 1, none⟩ : Addr).block by show S ≤ S + 1 + 1; omega) (.int .i64 T)).setCell (by simp) _).setCell (by simp) _).setCell (by simp) _).setCell (by simp) _).setCell (by simp) _).setCell (by simp) _), _, by rw [hE]; rfl, fun _ => rfl, fun h => ?_⟩
            rw [hE] at h
            exact absurd h (by decide)
          · have HE := Lib.hid (HE0.out.trans (if_neg hT))
            clear HE0
            go_wp2_with fail
            go_roundw
            case rel =>
              obtain ⟨q, hq1, hq2⟩ := hTr.resolve_left (by omega)
              have hr6 := hrows1.set (p := ⟨S + 1 + 1, 1, none⟩) (by show S + 1 + 1 < S + 3; omega) (.int .i64 T)
              have hr7 : ToldRows (w1.setCell ⟨S + 1 + 1, 1, none⟩ (.int .i64 T)) (S + 3) (.slice Ak C.key.length ck, .slice Av C.val.length cv, .slice An C.n.length cn) { C with map := T } := ⟨hr6.key, hr6.val, hr6.n⟩
              refine ⟨j + 1, { C with map := T }, Ak, Av, An, ck, cv, cn, by omega, by go_num, HE.out, hbr1.setCell (by simp) _, hZ1.off (by show S + 1 + 1 ≠ S + 1; omega) _, ?_, hr7, ⟨hCok.key, hCok.val, hCok.n⟩, hCid, hCr, Nat.le_succ_of_le hCn, .inr (.inl ⟨q, hq1, hq2⟩), by simpa using hsz1⟩
              exact hK1.set (k := 1) (by simp [toldCells]) (.int .i64 T)
            all_goals (simp [intOf]; omega)
        · obtain ⟨q, hq1, hq2⟩ : ∃ q : Nat, C.map = q ∧ q < defs.length := by rcases hGn 2 rfl with h | h | h; exact absurd h (by decide); exact h; exact absurd h (by decide)
          have hdq : defs.getD C.map.toNat default = defs[q] := by rw [hq1, Int.toNat_natCast, List.getD_eq_getElem?_getD, List.getElem?_eq_getElem hq2]; rfl
          have hdo := hdf _ (List.getElem_mem hq2)
          have hdz : 0 ≤ defs[q].key ∧ defs[q].key ≤ 1024 := by have h1 := defOk_key hdo; have h2 := defOk_val hdo; omega
          rw [if_neg (by decide), if_pos rfl, hdq] at he
          have hV := hbl.drew
          have hrd1 := fun w' hb => hrd (regM m (j + 1)) defs[q].key hru0 hdz.1 hdz.2 w' hb
          have hrby := read_bytes hok hru0.1 hdz.1 hdz.2
          generalize readM m.mem (regM m (j + 1)) defs[q].key = R at *
          have HE0 := Lib.hid he
          have HBY := Lib.hid hrby.1
          clear he hrby
          obtain ⟨db, dq, hAD, hdb, d0, d1, d2, d3⟩ := hdk _ hV q hq2
          rw [hAD] at hdc
          have hK2 : Blk wr (S + 1 + 1) [.int .i64 id, .int .i64 q, .slice Ak C.key.length ck, .slice Av C.val.length cv, .slice An C.n.length cn, .int .u64 0] := by have := hK; simp only [toldCells, hq1] at this; exact this
          clear ka0 ka1 ka2 ka3 ka4 ka5 kf0 kf1 kf2 kf3 kf4 kf5 za0 za1 za2 za3 za4 za5 zf0 zf1 zf2 zf3 zf4 zf5
          have hq3 : (q : Int) < (defs.length : Int) := by omega
          have hkd : ∀ w', Below S w w' → w'.cell? ⟨db, dq + q * 4 + 1, none⟩ = some (.int .i64 defs[q].key) := fun w' hb => (hb.cell (p := ⟨db, dq + q * 4 + 1, none⟩) hdb).trans ((hV.cell (p := ⟨db, dq + q * 4 + 1, none⟩) hdb).symm.trans d1)
          obtain ⟨⟨-, ka1, -⟩, -⟩ := Blk.six hK2
          obtain ⟨⟨-, kb1, -⟩, -⟩ := Blk.six hK2.drew
          have hSP0 : Below S w wr ∧ wr.cell? ⟨S + 1 + 1, 1, none⟩ = some (.int .i64 q) := ⟨hbl, ka1⟩
          clear d0 d1 d2 d3
          go_upto_region 15 with fail
          have hZV := hZ.drew
          have hKV := hK2.drew
          have hrV : ToldRows wr.drew (S + 3) (.slice Ak C.key.length ck, .slice Av C.val.length cv, .slice An C.n.length cn) C := hrows.below (Below.refl _ _).drew
          have hbrV := hbr.drew
          have hszV : S + 3 ≤ wr.drew.heap.size := hsz
          go_region_held3 (fun w' => Below S w w' ∧ w'.cell? ⟨S + 1 + 1, 1, none⟩ = some (.int .i64 q))
            (first | assumption | exact ⟨hV, kb1⟩ | (refine ⟨Below.setCell hbl1 (by show S ≤ S + 1 + 1; omega) _, ?_⟩; exact (World.cell?_setCell_other _ _ _ _ (by simp)).trans ka1))
            (first | (go_at_call 91; refine (hrd1 _ hV).mono ?_; rintro e w1 ⟨r, rfl, ⟨Ar, cr, rfl, hor⟩, hb1⟩; have hbl1 : Below S w w1 := hV.trans (hb1.mono (by omega)); have hbr1 : Below (S + 1) W w1 := hbrV.trans (hb1.mono (by omega)); have hZ1 := hZV.below hb1; have hK1 := hKV.below hb1; have hrows1 := hrV.below hb1; have hsz1 : S + 3 ≤ w1.heap.size := Nat.le_trans hszV hb1.size; have hor1 := own_mono hszV hor; obtain ⟨⟨za0, za1, za2, za3, za4, za5⟩, zf0, zf1, zf2, zf3, zf4, zf5⟩ := hZ1.six; obtain ⟨⟨ka0, ka1, ka2, ka3, ka4, ka5⟩, kf0, kf1, kf2, kf3, kf4, kf5⟩ := Blk.six hK1; have hSP1 : Below S w w1 ∧ w1.cell? ⟨S + 1 + 1, 1, none⟩ = some (.int .i64 q) := ⟨hbl1, ka1⟩))
          all_goals
            by_cases hT : R.2 = 0
            · have HE := Lib.hid (HE0.out.trans (if_neg (fun h => h hT)))
              clear HE0
              have hrl : R.1.length = R.1.length := rfl
              go_wp2_with fail
              go_roundw
              case rel =>
                refine ⟨j + 1, { C with key := R.1 }, Ar, Av, An, cr, cv, cn, by omega, by go_num, HE.out, hbr1.setCell (by simp) _, hZ1.off (by show S + 1 + 1 ≠ S + 1; omega) _, ?_, ?_, ⟨HBY.out, hCok.val, hCok.n⟩, hCid, hCr, Nat.le_succ_of_le hCn, hGm _ rfl (.inr ⟨q, hq1, hq2⟩), by simpa using hsz1⟩
                · have := hK1.set (k := 2) (by simp [toldCells]) (.slice Ar R.1.length cr)
                  simpa [toldCells, hq1] using this
                · have hr1 := hrows1.set (p := ⟨S + 1 + 1, 2, none⟩) (by simp) (.slice Ar R.1.length cr)
                  exact ⟨RowKit.ownsRow_setCell_below hor1 (by simp) _, hr1.val, hr1.n⟩
              all_goals (simp [intOf]; omega)
            · have HE := Lib.hid (HE0.out.trans (if_pos hT))
              have hTb : (R.2 != 0) = true := by simpa using hT
              clear HE0
              go_wp2_with fail
              obtain ⟨⟨f0, f1, f2, f3, f4, f5⟩, -⟩ := ((hZ1.off (p := ⟨S + 1 + 1, 2, none⟩) (by show S + 1 + 1 ≠ S + 1; omega) (.slice Ar R.1.length cr)).put6 (.int .i64 0) (.int .i64 0) (.slice none 0 0) (.slice none 0 0) (.slice none 0 0) (.int .u64 0)).six
              refine bodyPost_ret (v := .tuple #[.agg #[.int .i64 0, .int .i64 0, .slice none 0 0, .slice none 0 0, .slice none 0 0, .int .u64 0], .int .i64 R.2]) (by simp [results, Try.results84, go_sem, f0, f1, f2, f3, f4, f5]) rfl ?_
              have hE : (toldM m defs tol 0 (called0 id)).2 = R.2 := by rw [HE.out]
              refine ⟨(((((((hbl1.setCell (show S ≤ (⟨S + 1 + 1, 2, none⟩ : Addr).block by show S ≤ S + 1 + 1; omega) (.slice Ar R.1.length cr)).setCell (by simp) _).setCell (by simp) _).setCell (by simp) _).setCell (by simp) _).setCell (by simp) _).setCell (by simp) _), _, by rw [hE]; rfl, fun _ => rfl, fun h => ?_⟩
              rw [hE] at h
              exact absurd h hT
        · obtain ⟨q, hq1, hq2⟩ : ∃ q : Nat, C.map = q ∧ q < defs.length := by rcases hGn 3 rfl with h | h | h; exact absurd h (by decide); exact h; exact absurd h (by decide)
          have hdq : defs.getD C.map.toNat default = defs[q] := by rw [hq1, Int.toNat_natCast, List.getD_eq_getElem?_getD, List.getElem?_eq_getElem hq2]; rfl
          have hdo := hdf _ (List.getElem_mem hq2)
          have hdz : 0 ≤ defs[q].val ∧ defs[q].val ≤ 1024 := by have h1 := defOk_key hdo; have h2 := defOk_val hdo; omega
          rw [if_neg (by decide), if_neg (by decide), if_pos rfl, hdq] at he
          have hV := hbl.drew
          have hrd1 := fun w' hb => hrd (regM m (j + 1)) defs[q].val hru0 hdz.1 hdz.2 w' hb
          have hrby := read_bytes hok hru0.1 hdz.1 hdz.2
          generalize readM m.mem (regM m (j + 1)) defs[q].val = R at *
          have HE0 := Lib.hid he
          have HBY := Lib.hid hrby.1
          clear he hrby
          obtain ⟨db, dq, hAD, hdb, d0, d1, d2, d3⟩ := hdk _ hV q hq2
          rw [hAD] at hdc
          have hK2 : Blk wr (S + 1 + 1) [.int .i64 id, .int .i64 q, .slice Ak C.key.length ck, .slice Av C.val.length cv, .slice An C.n.length cn, .int .u64 0] := by have := hK; simp only [toldCells, hq1] at this; exact this
          clear ka0 ka1 ka2 ka3 ka4 ka5 kf0 kf1 kf2 kf3 kf4 kf5 za0 za1 za2 za3 za4 za5 zf0 zf1 zf2 zf3 zf4 zf5
          have hq3 : (q : Int) < (defs.length : Int) := by omega
          have hkd : ∀ w', Below S w w' → w'.cell? ⟨db, dq + q * 4 + 2, none⟩ = some (.int .i64 defs[q].val) := fun w' hb => (hb.cell (p := ⟨db, dq + q * 4 + 2, none⟩) hdb).trans ((hV.cell (p := ⟨db, dq + q * 4 + 2, none⟩) hdb).symm.trans d2)
          obtain ⟨⟨-, ka1, -⟩, -⟩ := Blk.six hK2
          obtain ⟨⟨-, kb1, -⟩, -⟩ := Blk.six hK2.drew
          have hSP0 : Below S w wr ∧ wr.cell? ⟨S + 1 + 1, 1, none⟩ = some (.int .i64 q) := ⟨hbl, ka1⟩
          clear d0 d1 d2 d3
          go_upto_region 17 with fail
          have hZV := hZ.drew
          have hKV := hK2.drew
          have hrV : ToldRows wr.drew (S + 3) (.slice Ak C.key.length ck, .slice Av C.val.length cv, .slice An C.n.length cn) C := hrows.below (Below.refl _ _).drew
          have hbrV := hbr.drew
          have hszV : S + 3 ≤ wr.drew.heap.size := hsz
          go_region_held3 (fun w' => Below S w w' ∧ w'.cell? ⟨S + 1 + 1, 1, none⟩ = some (.int .i64 q))
            (first | assumption | exact ⟨hV, kb1⟩ | (refine ⟨Below.setCell hbl1 (by show S ≤ S + 1 + 1; omega) _, ?_⟩; exact (World.cell?_setCell_other _ _ _ _ (by simp)).trans ka1))
            (first | (go_at_call 91; refine (hrd1 _ hV).mono ?_; rintro e w1 ⟨r, rfl, ⟨Ar, cr, rfl, hor⟩, hb1⟩; have hbl1 : Below S w w1 := hV.trans (hb1.mono (by omega)); have hbr1 : Below (S + 1) W w1 := hbrV.trans (hb1.mono (by omega)); have hZ1 := hZV.below hb1; have hK1 := hKV.below hb1; have hrows1 := hrV.below hb1; have hsz1 : S + 3 ≤ w1.heap.size := Nat.le_trans hszV hb1.size; have hor1 := own_mono hszV hor; obtain ⟨⟨za0, za1, za2, za3, za4, za5⟩, zf0, zf1, zf2, zf3, zf4, zf5⟩ := hZ1.six; obtain ⟨⟨ka0, ka1, ka2, ka3, ka4, ka5⟩, kf0, kf1, kf2, kf3, kf4, kf5⟩ := Blk.six hK1; have hSP1 : Below S w w1 ∧ w1.cell? ⟨S + 1 + 1, 1, none⟩ = some (.int .i64 q) := ⟨hbl1, ka1⟩))
          all_goals
            by_cases hT : R.2 = 0
            · have HE := Lib.hid (HE0.out.trans (if_neg (fun h => h hT)))
              clear HE0
              have hrl : R.1.length = R.1.length := rfl
              go_wp2_with fail
              go_roundw
              case rel =>
                refine ⟨j + 1, { C with val := R.1 }, Ak, Ar, An, ck, cr, cn, by omega, by go_num, HE.out, hbr1.setCell (by simp) _, hZ1.off (by show S + 1 + 1 ≠ S + 1; omega) _, ?_, ?_, ⟨hCok.key, HBY.out, hCok.n⟩, hCid, hCr, Nat.le_succ_of_le hCn, hGm _ rfl (.inr ⟨q, hq1, hq2⟩), by simpa using hsz1⟩
                · have := hK1.set (k := 3) (by simp [toldCells]) (.slice Ar R.1.length cr)
                  simpa [toldCells, hq1] using this
                · have hr1 := hrows1.set (p := ⟨S + 1 + 1, 3, none⟩) (by simp) (.slice Ar R.1.length cr)
                  exact ⟨hr1.key, RowKit.ownsRow_setCell_below hor1 (by simp) _, hr1.n⟩
              all_goals (simp [intOf]; omega)
            · have HE := Lib.hid (HE0.out.trans (if_pos hT))
              have hTb : (R.2 != 0) = true := by simpa using hT
              clear HE0
              go_wp2_with fail
              obtain ⟨⟨f0, f1, f2, f3, f4, f5⟩, -⟩ := ((hZ1.off (p := ⟨S + 1 + 1, 3, none⟩) (by show S + 1 + 1 ≠ S + 1; omega) (.slice Ar R.1.length cr)).put6 (.int .i64 0) (.int .i64 0) (.slice none 0 0) (.slice none 0 0) (.slice none 0 0) (.int .u64 0)).six
              refine bodyPost_ret (v := .tuple #[.agg #[.int .i64 0, .int .i64 0, .slice none 0 0, .slice none 0 0, .slice none 0 0, .int .u64 0], .int .i64 R.2]) (by simp [results, Try.results84, go_sem, f0, f1, f2, f3, f4, f5]) rfl ?_
              have hE : (toldM m defs tol 0 (called0 id)).2 = R.2 := by rw [HE.out]
              refine ⟨(((((((hbl1.setCell (show S ≤ (⟨S + 1 + 1, 3, none⟩ : Addr).block by show S ≤ S + 1 + 1; omega) (.slice Ar R.1.length cr)).setCell (by simp) _).setCell (by simp) _).setCell (by simp) _).setCell (by simp) _).setCell (by simp) _).setCell (by simp) _), _, by rw [hE]; rfl, fun _ => rfl, fun h => ?_⟩
              rw [hE] at h
              exact absurd h hT
        · rw [if_neg (by decide), if_neg (by decide), if_neg (by decide)] at he
          have HE := Lib.hid he
          clear he
          have hcn5 : C.n.length ≤ 5 := by omega
          have hu4 : U64 (regM m (j + 1)) := hru0
          go_wp2_with (at_builtin; refine wpList_append_box rfl (.tmp 96) (.tmp 98) 26 rfl (S + 3) 53 i0 (.int .u64 0) 1 8 Try.underlying26 hi0 hz0 hz1 hz2 rfl (by decide) An C.n.length cn 1 _ rfl rfl (by simp) hrows.n rfl ?c1 ?c2 ?c3 ?c4 ?c5)
          case c1 => rfl
          case c2 => simp only [maxLen]; omega
          case c3 => omega
          case c5 =>
            intro A6 c6 w6 ho6 hg6 hb6 hor6
            have hbl6 : Below S w w6 := hbl.trans (hb6.mono (by omega))
            have hbr6 : Below (S + 1) W w6 := hbr.trans (hb6.mono (by omega))
            have hZ6 : Blk w6 (S + 1) zeroCalled := hZ.kept (X := fun k => S + 3 ≤ k) ⟨hb6.os, hb6.tape, hb6.output, hb6.size, fun k hk hx => hb6.block k (by omega)⟩ (by omega)
            have hK6 := Blk.kept hK (X := fun k => S + 3 ≤ k) ⟨hb6.os, hb6.tape, hb6.output, hb6.size, fun k hk hx => hb6.block k (by omega)⟩ (by omega)
            have hsz6 : S + 3 ≤ w6.heap.size := Nat.le_trans hsz hb6.size
            have hkg : Kept (fun k => (Value.slice An C.n.length cn).ownBlock = some k) wr w6 := grown_kept hg6 (fun _ h => h)
            have hk6 := own_kept hrows.key hkg (fun k hk e => row_apart hrows.n hrows.key (by decide) e hk)
            have hv6 := own_kept hrows.val hkg (fun k hk e => row_apart hrows.n hrows.val (by decide) e hk)
            clear ka0 ka1 ka2 ka3 ka4 ka5 kf0 kf1 kf2 kf3 kf4 kf5 za0 za1 za2 za3 za4 za5 zf0 zf1 zf2 zf3 zf4 zf5
            obtain ⟨⟨ka0, ka1, ka2, ka3, ka4, ka5⟩, kf0, kf1, kf2, kf3, kf4, kf5⟩ := Blk.six hK6
            have HR := Lib.hid (And.intro ho6 (And.intro hk6 hv6))
            clear ho6 hk6 hv6 hor6 hg6
            go_wp2_with fail
            go_roundw
            case rel =>
              obtain ⟨g1, g2, g3⟩ := HR.out
              refine ⟨j + 1, { C with n := C.n ++ [regM m (j + 1)] }, Ak, Av, A6, ck, cv, c6, by omega, by go_num, HE.out, hbr6.setCell (by simp) _, hZ6.off (by show S + 1 + 1 ≠ S + 1; omega) _, ?_, ?_, ⟨hCok.key, hCok.val, fun x hx => ?_⟩, hCid, hCr, by simp; omega, hGm _ rfl (.inl (by first | rfl | trivial)), by simpa using hsz6⟩
              · have := hK6.set (k := 4) (by simp [toldCells]) (.slice A6 (C.n.length + 1) c6)
                simpa [toldCells] using this
              · refine ⟨RowKit.ownsRow_setCell_below g2 (by simp) _, RowKit.ownsRow_setCell_below g3 (by simp) _, ?_⟩
                have := RowKit.ownsRow_setCell_below g1 (a := ⟨S + 1 + 1, 4, none⟩) (by simp) (.slice A6 (C.n.length + 1) c6)
                simpa using this
              · rcases List.mem_append.1 hx with hx | hx
                · exact hCok.n x hx
                · rw [List.mem_singleton] at hx; subst hx; exact hu4
            all_goals (simp [intOf]; omega)
    · have he2 : toldM m defs tol 0 (called0 id) = (C, 0) := by rw [he, List.drop_eq_nil_of_le hge]; rfl
      have HE := Lib.hid he2
      have hji : ¬ (j : Int) < (tol.length : Int) := by omega
      clear he he2
      go_wp2_with fail
      have hfin := hZ.put6 (.int .i64 id) (.int .i64 C.map) (.slice Ak C.key.length ck) (.slice Av C.val.length cv) (.slice An C.n.length cn) (.int .u64 0)
      obtain ⟨⟨f0, f1, f2, f3, f4, f5⟩, -⟩ := hfin.six
      refine bodyPost_ret (v := .tuple #[.agg #[.int .i64 id, .int .i64 C.map, .slice Ak C.key.length ck, .slice Av C.val.length cv, .slice An C.n.length cn, .int .u64 0], .int .i64 0]) (by simp [results, Try.results84, go_sem, f0, f1, f2, f3, f4, f5]) rfl ?_
      rw [HE.out]
      refine ⟨((((((hbl.setCell (by simp) _).setCell (by simp) _).setCell (by simp) _).setCell (by simp) _).setCell (by simp) _).setCell (by simp) _), _, rfl, fun h => absurd rfl h, fun _ => ?_⟩
      have h6 := (((((hrows.set (p := ⟨S + 1, 0, none⟩) (by simp) (.int .i64 id)).set (p := ⟨S + 1, 1, none⟩) (by simp) (.int .i64 C.map)).set (p := ⟨S + 1, 2, none⟩) (by simp) (.slice Ak C.key.length ck)).set (p := ⟨S + 1, 3, none⟩) (by simp) (.slice Av C.val.length cv)).set (p := ⟨S + 1, 4, none⟩) (by simp) (.slice An C.n.length cn)).set (p := ⟨S + 1, 5, none⟩) (by simp) (.int .u64 0)
      have h7 : ToldRows _ S (.slice Ak C.key.length ck, .slice Av C.val.length cv, .slice An C.n.length cn) C := ⟨own_mono (by omega) h6.key, own_mono (by omega) h6.val, own_mono (by omega) h6.n⟩
      first
        | exact ⟨(.slice Ak C.key.length ck, .slice Av C.val.length cv, .slice An C.n.length cn), rfl, h7, hCok, hCid, hCr⟩
        | exact ⟨_, _, _, rfl, h7, hCok, hCid, hCr⟩
end
section
theorem callsV_snoc (cd : Nat → Value × Value × Value) : ∀ (l : List CalledM) (i : Nat) (c : CalledM), callsV cd (l ++ [c]) i = callsV cd l i ++ calledV c (cd (i + l.length))
  | [], i, c => by simp [callsV]
  | x :: l, i, c => by
    rw [List.cons_append, callsV, callsV_snoc cd l, callsV, List.append_assoc]
    simp only [List.length_cons]
    rw [show i + 1 + l.length = i + (l.length + 1) by omega]
theorem callsV_at {cd cd' : Nat → Value × Value × Value} : ∀ (l : List CalledM) (i : Nat), (∀ k, i ≤ k → k < i + l.length → cd' k = cd k) → callsV cd' l i = callsV cd l i
  | [], _, _ => rfl
  | a :: l, i, h => by
    rw [callsV, callsV, h i (Nat.le_refl _) (by simp), callsV_at l (i + 1) (fun k h1 h2 => h k (by omega) (by simp only [List.length_cons]; omega))]
theorem mch_set_hi {g g' : Gh} {m m' : MchM} (lr : m.r.length = 11) (ls : m.s.length = 11) (k : Nat) (u : Value) (h0 : g'.L = g.L) (h1 : m'.r = m.r) (h2 : m'.s = m.s)
    (h3 : [Value.pointer (some ⟨g.pm, 0, none⟩), .pointer (some ⟨g.pt, 0, none⟩), g.D, g.dr, .int .i64 m.place, .bool m.over, .int .i64 m.code, .int .i64 m.steps, g.cl].set k u = [Value.pointer (some ⟨g'.pm, 0, none⟩), .pointer (some ⟨g'.pt, 0, none⟩), g'.D, g'.dr, .int .i64 m'.place, .bool m'.over, .int .i64 m'.code, .int .i64 m'.steps, g'.cl]) :
    (mchCells g m).set (23 + k) u = mchCells g' m' := by
  simp only [mchCells]
  rw [show 23 + k = (22 + k) + 1 by omega, List.set_cons_succ, List.set_append_right _ _ (by simp [lr]; omega), List.set_append_right _ _ (by simp [lr, ls]; omega)]
  simp only [List.length_map, lr, ls]
  rw [show 22 + k - 11 - 11 = k by omega, h3, h0, h1, h2]
section
variable {own own' : Own} {w : World}
theorem RowIn.reown {r : Role} {t size n : Nat} {v : Value} {xs : List Value} (h : RowIn own r w t size v n xs) (ho : ∀ b r, own b = some r → b < w.heap.size → own' b = some r) : RowIn own' r w t size v n xs :=
  ⟨h.row, fun b hb => ho b _ (h.role b hb) (h.row.lt b hb).2⟩
theorem MemIn.reown {pm : Nat} {v : Value} {sl : Nat → Value × Value} {mem : List AreaM} (h : MemIn own w pm v sl mem) (ho : ∀ b r, own b = some r → b < w.heap.size → own' b = some r) : MemIn own' w pm v sl mem :=
  ⟨ho pm _ h.role h.blk.lt, h.blk, h.row.reown ho, h.ok, fun i hi => ⟨(h.area i hi).b.reown ho, (h.area i hi).k.reown ho⟩⟩
theorem TabIn.reown {pt pm : Nat} {v : Value} {ks : Nat → Value} {t : List MapM} (h : TabIn own w pt pm v ks t) (ho : ∀ b r, own b = some r → b < w.heap.size → own' b = some r) : TabIn own' w pt pm v ks t :=
  ⟨ho pt _ h.role h.blk.lt, h.blk, h.row.reown ho, h.few, h.ok, fun i hi => (h.keys i hi).reown ho⟩
end
/-- What was told joins the machine's calls. -/
theorem MchIn.addCall {own : Own} {w w1 : World} {pM : Nat} {g : Gh} {l : List Insn} {defs : List DefM} {m : MchM} (h : MchIn own w pM g l defs m) (c : CalledM) (d : Value × Value × Value) {B : Nat} (hr : ToldRows w B d c)
    (hfree : ∀ b, (d.1.ownBlock = some b ∨ d.2.1.ownBlock = some b ∨ d.2.2.ownBlock = some b) → own b = none)
    (hfarA : 0 < l.length → ∀ b o, g.A = some ⟨b, o, none⟩ → ¬ (d.1.ownBlock = some b ∨ d.2.1.ownBlock = some b ∨ d.2.2.ownBlock = some b))
    (hfarD : 0 < defs.length → ∀ b o, g.AD = some ⟨b, o, none⟩ → ¬ (d.1.ownBlock = some b ∨ d.2.1.ownBlock = some b ∨ d.2.2.ownBlock = some b))
    (A8 : Option Addr) (c8 : Nat) (h8 : w1.ownsRow 0 119 6 (.slice A8 (m.calls.length + 1) c8) (m.calls.length + 1) (callsV g.cd m.calls 0 ++ calledV c d)) (hg : w.grownBy w1 g.cl.ownBlock)
    (hor : (Value.slice A8 (m.calls.length + 1) c8).ownBlock = g.cl.ownBlock ∨ ∃ b, (Value.slice A8 (m.calls.length + 1) c8).ownBlock = some b ∧ w.heap.size ≤ b) :
    ∃ own', (∀ b, b < w.heap.size → own b ≠ none → own' b = own b) ∧ (∀ b, b < w.heap.size → own' b ≠ none → own b = none → d.1.ownBlock = some b ∨ d.2.1.ownBlock = some b ∨ d.2.2.ownBlock = some b) ∧
      MchIn own' (w1.setCell ⟨pM, 31, none⟩ (.slice A8 (m.calls.length + 1) c8)) pM { g with cl := .slice A8 (m.calls.length + 1) c8, cd := fun i => if i = m.calls.length then d else g.cd i } l defs { m with calls := m.calls ++ [c] } ∧
      Kept (fun b => own b = some .calls ∨ b = pM) w (w1.setCell ⟨pM, 31, none⟩ (.slice A8 (m.calls.length + 1) c8)) := by
  have hclr : ∀ b, g.cl.ownBlock = some b → own b = some .calls := h.calls.role
  have hk1 : Kept (fun b => own b = some .calls) w w1 := grown_kept hg (fun k e => hclr k e)
  have hks : Kept (fun b => b = pM) w1 (w1.setCell ⟨pM, 31, none⟩ (.slice A8 (m.calls.length + 1) c8)) := Kept.refl.set rfl
  have hk : Kept (fun b => own b = some .calls ∨ b = pM) w (w1.setCell ⟨pM, 31, none⟩ (.slice A8 (m.calls.length + 1) c8)) := ((Kept.refl (X := fun b => own b = some .calls ∨ b = pM)).trans hk1 (fun _ _ e => .inl e)).trans hks (fun _ _ e => .inr e)
  generalize hn : m.calls.length = n at *
  generalize hO : (fun b => if b < w.heap.size then (if d.1.ownBlock = some b ∨ d.2.1.ownBlock = some b ∨ d.2.2.ownBlock = some b then some (Role.data n 0) else own b) else if (Value.slice A8 (n + 1) c8).ownBlock = some b then some Role.calls else none) = O
  have hrl : ∀ b, (d.1.ownBlock = some b ∨ d.2.1.ownBlock = some b ∨ d.2.2.ownBlock = some b) → b < w.heap.size := fun b hb => by
    rcases hb with e | e | e
    · exact (hr.key.lt b e).2
    · exact (hr.val.lt b e).2
    · exact (hr.n.lt b e).2
  have ho : ∀ b r, own b = some r → b < w.heap.size → O b = some r := fun b r e hb => by
    rw [← hO]
    show (if b < w.heap.size then _ else _) = _
    rw [if_pos hb, if_neg (fun hq => by rw [hfree b hq] at e; cases e), e]
  have hdat : ∀ b, (d.1.ownBlock = some b ∨ d.2.1.ownBlock = some b ∨ d.2.2.ownBlock = some b) → O b = some (.data n 0) := fun b hb => by
    rw [← hO]
    show (if b < w.heap.size then _ else _) = _
    rw [if_pos (hrl b hb), if_pos hb]
  have hcal : ∀ b, (Value.slice A8 (n + 1) c8).ownBlock = some b → O b = some .calls := fun b hb => by
    rcases hor with e | ⟨b', e, hb'⟩
    · exact ho b _ (hclr b (by rw [← e]; exact hb)) (h.calls.row.lt b (by rw [← e]; exact hb)).2
    · rw [hb] at e; cases e
      rw [← hO]
      show (if b < w.heap.size then _ else _) = _
      rw [if_neg (by omega), if_pos hb]
  have hnone : ∀ b, b < w.heap.size → own b = none → ¬ (d.1.ownBlock = some b ∨ d.2.1.ownBlock = some b ∨ d.2.2.ownBlock = some b) → O b = none := fun b hb e hq => by
    rw [← hO]
    show (if b < w.heap.size then _ else _) = _
    rw [if_pos hb, if_neg hq, e]
  have hpO : O pM = some .mach := ho pM _ h.role h.blk.lt
  have hk' : Kept (fun b => b < w.heap.size ∧ (own b = some .calls ∨ b = pM)) w (w1.setCell ⟨pM, 31, none⟩ (.slice A8 (n + 1) c8)) := (Kept.refl (X := fun b => b < w.heap.size ∧ (own b = some .calls ∨ b = pM))).trans hk (fun _ hi e => ⟨hi, e⟩)
  have hx : ∀ b r, O b = some r → r ≠ .calls → r ≠ .mach → ¬ (b < w.heap.size ∧ (own b = some .calls ∨ b = pM)) := fun b r hb h1 h2 ⟨hlt, hq⟩ => by
    rcases hq with e | e
    · have := ho b _ e hlt
      rw [hb] at this; cases this; exact h1 rfl
    · subst e; rw [hpO] at hb; cases hb; exact h2 rfl
  have hpc : ¬ own pM = some .calls := by rw [h.role]; simp
  have hlen := mch_len (g := g) h.lr h.ls
  have far : ∀ {A : Option Addr} {N k : Nat} {xs : List Value}, SAt w w.heap.size k A N xs → (0 < N → ∀ b o, A = some ⟨b, o, none⟩ → own b = none) → SAt (w1.setCell ⟨pM, 31, none⟩ (.slice A8 (n + 1) c8)) (w1.setCell ⟨pM, 31, none⟩ (.slice A8 (n + 1) c8)).heap.size k A N xs := fun hs hf =>
    (hs.keep2 (Nat.le_refl _) hk (fun hn b o e e2 => by
      have := hf hn b o e
      rcases e2 with e2 | e2
      · rw [this] at e2; cases e2
      · subst e2; rw [h.role] at this; cases this)).more2 hk.size
  have ltA : ∀ {A : Option Addr} {N k : Nat} {xs : List Value}, SAt w w.heap.size k A N xs → 0 < N → ∀ b o, A = some ⟨b, o, none⟩ → b < w.heap.size := fun hs hn b o e => by
    obtain ⟨b', o', e', hb, -⟩ := hs.2 hn
    rw [e] at e'; cases e'; exact hb
  refine ⟨O, fun b hb hne => ?_, fun b hb h1 h2 => ?_, ⟨hpO, h.lr, h.ls, h.u64, ?_, ?_, ?_, ?_, ?_, ?_, ?_, ?_, h.drawsU, ?_, ?_⟩, hk⟩
  · cases hq : own b with
    | none => exact absurd hq hne
    | some r => exact ho b r hq hb
  · exact Decidable.not_not.1 (fun hq => h1 (hnone b hb h2 hq))
  · have hb1 := (h.blk.kept hk1 hpc).set (k := 31) (by rw [hlen]; decide) (.slice A8 (n + 1) c8)
    have e3 : (mchCells g m).set 31 (.slice A8 (n + 1) c8) = mchCells { g with cl := .slice A8 (n + 1) c8, cd := fun i => if i = n then d else g.cd i } { m with calls := m.calls ++ [c] } := mch_set_hi (g := g) (m := m) h.lr h.ls 8 (.slice A8 (n + 1) c8) rfl rfl rfl rfl
    rw [e3] at hb1
    exact hb1
  · obtain ⟨cc, e, hs⟩ := h.code; exact ⟨cc, e, far hs h.codeFar⟩
  · obtain ⟨cc, e, hs⟩ := h.code
    exact fun hn b o e => hnone b (ltA hs hn b o e) (h.codeFar hn b o e) (hfarA hn b o e)
  · obtain ⟨cc, e, hs⟩ := h.maps; exact ⟨cc, e, far hs h.mapsFar⟩
  · obtain ⟨cc, e, hs⟩ := h.maps
    exact fun hn b o e => hnone b (ltA hs hn b o e) (h.mapsFar hn b o e) (hfarD hn b o e)
  · exact (h.mem.reown ho).kept hk' (fun _ _ => rfl) (fun b r hb hr => hx b r hb (by rintro rfl; exact hr) (by rintro rfl; exact hr))
  · exact (h.tab.reown ho).kept hk' (fun _ _ => rfl) (fun b r hb hr => hx b r hb (by rintro rfl; exact hr) (by rintro rfl; exact hr))
  · exact (h.draws.reown ho).kept hk' (fun _ _ => rfl) (fun b hb => hx b _ hb (by simp) (by simp))
  · refine ⟨?_, fun b hb => hcal b hb⟩
    have e1 : callsV (fun i => if i = n then d else g.cd i) (m.calls ++ [c]) 0 = callsV g.cd m.calls 0 ++ calledV c d := by
      rw [callsV_snoc, callsV_at (cd' := fun i => if i = n then d else g.cd i) m.calls 0 (fun k _ hk2 => if_neg (by omega)), Nat.zero_add, hn, if_pos rfl]
    have e2 : (m.calls ++ [c]).length = n + 1 := by simp [hn]
    show (w1.setCell _ _).ownsRow 0 119 6 (.slice A8 (n + 1) c8) (m.calls ++ [c]).length (callsV (fun i => if i = n then d else g.cd i) (m.calls ++ [c]) 0)
    rw [e1, e2]
    exact own_kept h8 hks (fun k hk2 e => by have := hcal k hk2; subst e; rw [hpO] at this; cases this)
  · intro i hi
    have hi2 : i < n + 1 := by have : i < (m.calls ++ [c]).length := hi; simpa [hn] using this
    show CalledIn O _ i (if i = n then d else g.cd i) (m.calls ++ [c])[i]
    by_cases e : i = n
    · subst e
      rw [if_pos rfl, List.getElem_append_right (by omega)]
      simp only [hn, Nat.sub_self, List.getElem_cons_zero]
      exact ⟨⟨own_mono (Nat.zero_le _) (own_kept hr.key hk' (fun b hb => hx b _ (hdat b (.inl hb)) (by simp) (by simp))), fun b hb => hdat b (.inl hb)⟩, ⟨own_mono (Nat.zero_le _) (own_kept hr.val hk' (fun b hb => hx b _ (hdat b (.inr (.inl hb))) (by simp) (by simp))), fun b hb => hdat b (.inr (.inl hb))⟩, ⟨own_mono (Nat.zero_le _) (own_kept hr.n hk' (fun b hb => hx b _ (hdat b (.inr (.inr hb))) (by simp) (by simp))), fun b hb => hdat b (.inr (.inr hb))⟩⟩
    · rw [if_neg e, List.getElem_append_left (by omega)]
      have hd := h.data i (by omega)
      exact ⟨(hd.key.reown ho).kept hk' (fun _ _ => rfl) (fun b hb => hx b _ hb (by simp) (by simp)), (hd.val.reown ho).kept hk' (fun _ _ => rfl) (fun b hb => hx b _ hb (by simp) (by simp)), (hd.n.reown ho).kept hk' (fun _ _ => rfl) (fun b hb => hx b _ hb (by simp) (by simp))⟩
end
end Go.Proofs.Ytncogaikiceidaa
