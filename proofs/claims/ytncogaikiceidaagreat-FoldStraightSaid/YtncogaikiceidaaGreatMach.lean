/- The reference machine of an empty Env: its memory, and how it begins. No statement is proved here. -/
import Derived.Test.YtncogaikiceidaaGreatLineB
import Derived.Deep.Cut
import Derived.Deep.RegionLaw
import Derived.Deep.OwnRows
namespace Go.Proofs.YtncogaikiceidaaGreat
open Go.RowKit
set_option linter.unusedSimpArgs false
set_option linter.unusedVariables false
set_option linter.unnecessarySimpa false
section
/-- The reference's memory: the areas' row. -/
structure MemX (w : World) (pm : Nat) (v : Value) (n : Nat) (xs : List Value) : Prop where
  cell : w.cell? ⟨pm, 0, none⟩ = some v
  free : w.frozen? ⟨pm, 0, none⟩ = false
  own : w.ownsRow 0 127 4 v n xs
  apart : v.ownBlock ≠ some pm
/-- Where a number stands first. -/
def idxM : List Int → Int → Nat → Int
  | [], _, _ => -1
  | x :: l, a, j => if x = a then (j : Int) else idxM l a (j + 1)
theorem rfind8 (pm : Nat) (v : Value) (n : Nat) (xs : List Value) (ids : List Int) (hl : ids.length = n) (hn : n ≤ 1000000) (hids : ∀ i, (h : i < ids.length) → xs[i * 4]? = some (.int .i64 ids[i])) (a : Int) (w : World) (hm : MemX w pm v n xs) :
    Calls Tryz.prog 45 #[.pointer (some ⟨pm, 0, none⟩), .int .i64 a] w fun e w' => e = .returned (.int .i64 (idxM ids a 0)) ∧ Below w.heap.size w w' := by
  obtain ⟨A, c, rfl⟩ := own_slice hm.own
  have hlt := World.block_lt_of_cell? w _ hm.cell
  have hcl : ∀ w', Below w.heap.size w w' → w'.cell? ⟨pm, 0, none⟩ = some (.slice A n c) := fun w' h => (h.cell (p := ⟨pm, 0, none⟩) hlt).trans hm.cell
  have hrow : ∀ i, (h : i < ids.length) → ∃ b o, A = some ⟨b, o, none⟩ ∧ ∀ w', Below w.heap.size w w' → w'.cell? ⟨b, o + i * 4, none⟩ = some (.int .i64 ids[i]) := by
    intro i hi
    obtain ⟨-, h⟩ := hm.own
    rcases h with ⟨h1, h2⟩ | ⟨g, cap, cur, hv, -, hg, hnc, -, hcs, htk⟩
    · omega
    · simp only [Value.slice.injEq] at hv
      obtain ⟨rfl, -, rfl⟩ := hv
      refine ⟨g, 0, rfl, fun w' hb => ?_⟩
      have h := hm.own.cells (g := g) rfl (i * 4) _ (hids i hi)
      rw [addr_add, Nat.zero_add] at h
      rw [Nat.zero_add, hb.cell (p := ⟨g, i * 4, none⟩) (World.block_lt_of_cell? w _ h)]
      exact h
  have hrf := Below.refl w.heap.size w
  go_enter Tryz.func45, Tryz.ntmps45
  go_wp2_with fail
  go_loopw [5] (fun k wr => ∃ j : Nat, j ≤ n ∧ k = .int .i64 j ∧ idxM ids a 0 = idxM (ids.drop j) a j ∧ Below w.heap.size w wr) (fun k _ => n - (intOf k).toNat)
  case atStart => exact ⟨0, by omega, rfl, rfl, hrf⟩
  case round =>
    obtain ⟨j, hj, rfl, he, hb⟩ := hrel
    have hc0 := hcl _ hb
    rcases Nat.lt_or_ge j n with hlt | hge
    · obtain ⟨b, o, rfl, hc⟩ := hrow j (by omega)
      have hc1 := hc _ hb
      rw [List.drop_eq_getElem_cons (by omega), idxM] at he
      have HE := Lib.hid he
      clear he hids hrow
      by_cases hx : ids[j] = a
      · go_wp2_with fail
        go_ret
        exact ⟨by rw [HE.out, if_pos hx]; rfl, hb⟩
      · go_wp2_with fail
        go_roundw
        case rel => exact ⟨j + 1, by omega, by go_num, by rw [HE.out, if_neg hx], hb⟩
        case measure => simp [intOf]; omega
    · have he2 : idxM ids a 0 = -1 := by rw [he, List.drop_eq_nil_of_le (by omega)]; rfl
      clear he
      have HE := Lib.hid he2
      clear he2
      go_wp2_with fail
      go_ret
      exact ⟨by rw [HE.out]; rfl, hb⟩

theorem idx_none {ids : List Int} {a : Int} (h : a ∉ ids) : ∀ j, idxM ids a j = -1 := by
  induction ids with
  | nil => intro j; rfl
  | cons x l ih =>
    intro j
    simp only [List.mem_cons, not_or] at h
    rw [idxM, if_neg (fun e => h.1 e.symm), ih h.2]


/-- All blocks but those of X are as they were. -/
structure Kept (X : Nat → Prop) (w w' : World) : Prop where
  os : w'.os = w.os
  tape : w'.tape = w.tape
  output : w'.output = w.output
  size : w.heap.size ≤ w'.heap.size
  block : ∀ k, k < w.heap.size → ¬ X k → w'.heap[k]? = w.heap[k]?
section
variable {X X' : Nat → Prop} {w w1 w2 : World}
theorem Kept.refl : Kept X w w := ⟨rfl, rfl, rfl, Nat.le_refl _, fun _ _ _ => rfl⟩
theorem Kept.trans (h : Kept X w w1) (k : Kept X' w1 w2) (hx : ∀ i, i < w.heap.size → X' i → X i) : Kept X w w2 :=
  ⟨k.os.trans h.os, k.tape.trans h.tape, k.output.trans h.output, Nat.le_trans h.size k.size, fun i hi hn => (k.block i (Nat.lt_of_lt_of_le hi h.size) (fun e => hn (hx i hi e))).trans (h.block i hi hn)⟩
theorem Kept.of {B : Nat} (h : Below B w w1) (hB : w.heap.size ≤ B) : Kept X w w1 := ⟨h.os, h.tape, h.output, h.size, fun k hk _ => h.block k (Nat.lt_of_lt_of_le hk hB)⟩
theorem Kept.below {B : Nat} (h : Kept X w w1) (hx : ∀ k, X k → B ≤ k) (hB : B ≤ w.heap.size) : Below B w w1 := ⟨h.os, h.tape, h.output, h.size, fun k hk => h.block k (by omega) (fun e => by have := hx k e; omega)⟩
theorem Kept.set {a : Addr} {u : Value} (h : Kept X w w1) (hx : X a.block) : Kept X w (w1.setCell a u) :=
  ⟨h.os, h.tape, h.output, by simpa using h.size, fun k hk hn => (Below.heap_setCell _ _ _ _ (fun e => hn (by rw [e]; exact hx))).trans (h.block k hk hn)⟩
theorem Kept.drew (h : Kept X w w1) : Kept X w w1.drew := ⟨h.os, h.tape, h.output, h.size, h.block⟩
theorem Kept.cell (h : Kept X w w1) {b o : Nat} (hb : b < w.heap.size) (hx : ¬ X b) : w1.cell? ⟨b, o, none⟩ = w.cell? ⟨b, o, none⟩ := World.cell?_of_block (w := w) (a := ⟨b, o, none⟩) (h.block b hb hx)
theorem Kept.frozen (h : Kept X w w1) {b o : Nat} (hb : b < w.heap.size) (hx : ¬ X b) : w1.frozen? ⟨b, o, none⟩ = w.frozen? ⟨b, o, none⟩ := World.frozen?_of_block (w := w) (a := ⟨b, o, none⟩) (h.block b hb hx)
theorem own_kept {base e size n : Nat} {v : Value} {xs : List Value} (h : w.ownsRow base e size v n xs) (hk : Kept X w w1) (hx : ∀ k, v.ownBlock = some k → ¬ X k) : w1.ownsRow base e size v n xs := by
  obtain ⟨h1, h2⟩ := h
  refine ⟨h1, ?_⟩
  rcases h2 with h2 | ⟨g, cap, cur, rfl, hg, hh, r⟩
  · exact .inl h2
  · have hlt : g < w.heap.size := (Array.getElem?_eq_some_iff.1 hh).1
    exact .inr ⟨g, cap, cur, rfl, hg, (hk.block g hlt (hx g rfl)).trans hh, r⟩
end
/-- 'v = append(v, xs...)' as a step of a region that draws its order: which blocks turn. -/
theorem step_append_x {P : Program} {ops : Array Oper} {o : Oper} {a : Act} {K : Act → World → Prop} {Q : Exit → Act → World → Prop} {E : Prop} (hgd : o.guard = none) (s x : Operand) (t : TypeId)
    (ho : o.op = .call { callee := .builtin .append, args := #[s, x], argTypes := #[t, t] })
    (base : Nat) (e : TypeId) (i : TypeInfo) (z : Value) (size bytes : Nat) (ht : P.underlying t = some (.slice e)) (hi : P.info? e = some i) (hz : i.zero = some z)
    (hsize : i.size = size) (hby : i.bytes = bytes) (hzs : z.cells.size = size) (hsz : 0 < size)
    {w : World} (A : Option Addr) (n c : Nat) (xs : List Value) (hs : a.eval s = .slice A n c) (hown : w.ownsRow base e size (.slice A n c) n xs)
    (B : Nat) (Ax : Option Addr) (m cx : Nat) (news : List Value) (hx : a.eval x = .slice Ax m cx) (hat : SAt w B size Ax m news) (hm : 0 < m) (h1 : ∀ u ∈ news, u.oneCell' = true)
    (h63 : n + m ≤ maxLen) (hbytes : (n + m) * bytes ≤ 140737488355328) (hbase : base ≤ w.heap.size)
    (h : ∀ A' c' w1, w1.ownsRow base e size (.slice A' (n + m) c') (n + m) (xs ++ news) → w.grownBy w1 (Value.slice A n c).ownBlock →
      ((Value.slice A' (n + m) c').ownBlock = (Value.slice A n c).ownBlock ∨ (Value.slice A' (n + m) c').ownBlock = some w.heap.size) → K (a.put o.dst (.slice A' (n + m) c')) w1) :
    if Region.wanted o (yielded ops a.tmps) = true then Oper.wp P o a w K Q else E := by
  have hw : Region.wanted o (yielded ops a.tmps) = true := by simp [Region.wanted, hgd]
  rw [if_pos hw]
  obtain ⟨b, off, rfl, hb, hc⟩ := hat.2 hm
  obtain ⟨v', w1, hrun, h2, h3, _, h5⟩ := run_append_own_at (P := P) w base t o.type e i z size bytes ht hi hz hsize hby hzs hsz _ n xs hown ⟨b, off, none⟩ m cx news hat.1
    (fun j u hu => by rw [addr_add]; exact hc j u hu) h1 h63 hbytes hbase
  obtain ⟨A', c', rfl⟩ := own_slice h2
  unfold Oper.wp execOp
  simp only [ho, resolve, invoke, builtin, Sem.run_bind, Sem.run_pure, Result.andThen_ok, List.map_toArray, List.map_cons, List.map_nil, hs, hx, hrun]
  exact h A' c' w1 h2 h3 h5
theorem info4b : (Tryz.prog.info? 4).map (fun i => (i.zero, i.size, i.bytes)) = some (some (.bool false), 1, 1) := by kernel_rfl
theorem info127 : (Tryz.prog.info? 127).map (fun i => (i.zero, i.size, i.bytes)) = some (some (.agg #[.int .i64 0, .slice none 0 0, .slice none 0 0, .bool false]), 4, 64) := by kernel_rfl
theorem grown_kept {w w1 : World} {o : Option Nat} {X : Nat → Prop} (h : w.grownBy w1 o) (hx : ∀ k, o = some k → X k) : Kept X w w1 := ⟨h.os, h.tape, h.output, h.size, fun k hk hn => h.block k hk (fun e => hn (hx k e.symm))⟩
theorem MemX.below {w w' : World} {pm : Nat} {v : Value} {n : Nat} {xs : List Value} (h : MemX w pm v n xs) (hb : Below w.heap.size w w') : MemX w' pm v n xs :=
  ⟨(hb.cell (p := ⟨pm, 0, none⟩) (World.block_lt_of_cell? w _ h.cell)).trans h.cell, (hb.frozen (p := ⟨pm, 0, none⟩) (World.block_lt_of_cell? w _ h.cell)).trans h.free, own_kept h.own (Kept.of (X := fun _ => False) hb (Nat.le_refl _)) (fun _ _ => id), h.apart⟩
set_option maxRecDepth 100000 in
set_option maxHeartbeats 2000000 in
theorem rmake8 (pm : Nat) (v : Value) (n : Nat) (xs : List Value) (ids : List Int) (hl : ids.length = n) (hn : n ≤ 1000000) (hids : ∀ i, (h : i < ids.length) → xs[i * 4]? = some (.int .i64 ids[i]))
    (a : Int) (ha : a ∉ ids) (ha1 : 1 ≤ a) (ha2 : a < 2147483648) (A : Option Addr) (m c : Nat) (hmm : m ≤ 1024) (bs : List Value) (hbo : ∀ u ∈ bs, u.oneCell' = true) (blank fixed : Bool) (w : World) (hm : MemX w pm v n xs) (B : Nat) (hB : B ≤ w.heap.size) (hat : SAt w B 1 A m bs) :
    Calls Tryz.prog 22 #[.pointer (some ⟨pm, 0, none⟩), .int .i64 a, .slice A m c, .bool blank, .bool fixed] w fun e w' => e = .returned (.int .i64 0) ∧ ∃ v' Ab cb Ak ck, MemX w' pm v' (n + 1) (xs ++ [.int .i64 a, .slice Ab m cb, .slice Ak m ck, .bool fixed]) ∧
      w'.ownsRow w.heap.size 5 1 (.slice Ab m cb) m bs ∧ w'.ownsRow w.heap.size 4 1 (.slice Ak m ck) m (List.replicate m (.bool blank)) ∧ (v'.ownBlock = v.ownBlock ∨ ∃ g, v'.ownBlock = some g ∧ w.heap.size ≤ g) ∧ Kept (fun k => k = pm ∨ v.ownBlock = some k) w w' := by
  have hfi := fun w' (hb : Below w.heap.size w w') => rfind8 pm v n xs ids hl hn hids a w' (hm.below hb)
  rw [idx_none ha] at hfi
  obtain ⟨i0, hi0, hz0, hz1, hz2⟩ := info_parts info5
  obtain ⟨i1, hi1, hy0, hy1, hy2⟩ := info_parts info4b
  obtain ⟨i2, hi2, hx0, hx1, hx2⟩ := info_parts info127
  have hrf := Below.refl w.heap.size w
  go_enter Tryz.func22, Tryz.ntmps22
  go_wp2_with fail
  refine (hfi _ hrf).mono ?_
  rintro e w1 ⟨rfl, hc1⟩
  have hb1 : Below w.heap.size w w1 := hc1
  clear hc1 hfi
  have hmi : (m : Int) ≤ 1024 := by omega
  go_upto_region 5 with fail
  have hown0 : (w1.alloc (.cells #[] 5)).ownsRow w.heap.size 5 1 (.slice (some ⟨w1.heap.size, 0, none⟩) 0 0) 0 [] := own_new w1 w1.heap.size #[] 5 1 0 0 w.heap.size rfl hb1.size (Nat.le_refl _) (by decide) rfl
  have hat1 : SAt (w1.alloc (.cells #[] 5)) B 1 A m bs := hat.below ((hb1.alloc hb1.size _).mono hB)
  go_wp2_with (at_builtin; refine wpList_append_sat rfl (.tmp 29) (.tmp 30) 28 rfl w.heap.size 5 i0 (.int .u8 0) 1 1 Tryz.underlying28 hi0 hz0 hz1 hz2 rfl (by decide) _ 0 0 _ rfl hown0 B A m c bs rfl hat1 hbo ?c2 ?c3 ?c4 ?c5)
  case c2 => simp only [maxLen]; omega
  case c3 => omega
  case c4 => simp; exact Nat.le_succ_of_le hb1.size
  case c5 =>
    intro Ab cb w2 hownb _ hb2 _
    replace hb2 : Below w.heap.size w w2 := (hb1.alloc hb1.size _).trans hb2
    clear hown0 hat1 hb1
    go_upto_region 6 with fail
    have hX : World.rangeAt (w2.alloc (.cells #[.int .i64 a, .slice Ab m cb, .slice none 0 0, .bool fixed] 127)) w2.heap.size 0 [.int .i64 a, .slice Ab m cb, .slice none 0 0, .bool fixed] := range_of_block (heap1_0 w2 _)
    have hXt := boxt (heap1_0 w2 (.cells #[.int .i64 a, .slice Ab m cb, .slice none 0 0, .bool fixed] 127))
    have hXs : w2.heap.size < (w2.alloc (.cells #[.int .i64 a, .slice Ab m cb, .slice none 0 0, .bool fixed] 127)).heap.size := by simp
    have hXb : Below w2.heap.size w2 (w2.alloc (.cells #[.int .i64 a, .slice Ab m cb, .slice none 0 0, .bool fixed] 127)) := below_boxes1 _ _
    generalize w2.alloc (.cells #[.int .i64 a, .slice Ab m cb, .slice none 0 0, .bool fixed] 127) = W at *
    go_wp2_with fail
    have HO := Lib.hid hownb
    have HX := Lib.hid (And.intro hX (And.intro hXt hXs))
    have HM := Lib.hid hm
    clear hownb hX hXt hm hat hrf
    have hXz := hb2.size
    generalize hXe : w2.heap.size = X at *
    have HE := Lib.hid hXe
    clear hXe
    go_loopw [12] (fun k wr => ∃ (j : Nat) (Ak : Option Addr) (ck : Nat), j ≤ m ∧ k = .int .i64 j ∧ wr.ownsRow (X + 1) 4 1 (.slice Ak j ck) j (List.replicate j (.bool blank)) ∧ wr.rangeAt X 0 [.int .i64 a, .slice Ab m cb, .slice Ak j ck, .bool fixed] ∧ (∀ k, wr.frozen? ⟨X, k, none⟩ = false) ∧ Below X w2 wr ∧ X < wr.heap.size) (fun k _ => m - (intOf k).toNat)
    case atStart => exact ⟨0, none, 0, by omega, rfl, World.ownsRow_nil _ _ _ _, HX.out.1, fun k => HX.out.2.1 k _ (Below.refl _ _), hXb, HX.out.2.2⟩
    case round =>
      clear hXs hXb
      obtain ⟨j, Ak, ck, hj, rfl, hown, hrg, hfr, hbr, hXr⟩ := hrel
      rcases Nat.lt_or_ge j m with hlt | hge
      · have c2 := hrg 2 _ rfl
        simp only [Nat.zero_add] at c2
        have hjm : (j : Int) < (m : Int) := by omega
        go_wp2_with (at_builtin; refine wpList_append_box rfl (.tmp 41) (.tmp 43) 81 rfl (X + 1) 4 i1 (.bool false) 1 1 Tryz.underlying81 hi1 hy0 hy1 hy2 rfl (by decide) Ak j ck 1 _ rfl rfl (by simp) hown rfl ?c1 ?c2 ?c3 ?c4 ?c5)
        case c1 => cases blank <;> rfl
        case c2 => simp only [maxLen]; omega
        case c3 => omega
        case c4 => omega
        case c5 =>
          intro A1 c1 w6 h2 h3 h4 h5
          have hlt6 : X < w6.heap.size := Nat.lt_of_lt_of_le hXr h4.size
          have f2 : w6.frozen? ⟨X, 2, none⟩ = false := (h4.frozen (p := ⟨X, 2, none⟩) (by show X < X + 1; omega)).trans (hfr 2)
          have g2 : w6.cell? ⟨X, 2, none⟩ = some (.slice Ak j ck) := (h4.cell (p := ⟨X, 2, none⟩) (by show X < X + 1; omega)).trans c2
          have hrg6 := range_put (W := w6) (b := X) (A := [.int .i64 a, .slice Ab m cb]) (B := [.slice Ak j ck]) (C := [.bool fixed]) (vs := [.slice A1 (j + 1) c1]) (range_below hrg h4 (by omega)) rfl
          have hfr6 : ∀ k, (w6.setCell ⟨X, 2, none⟩ (.slice A1 (j + 1) c1)).frozen? ⟨X, k, none⟩ = false := fun k => (World.frozen?_setCells X [.slice A1 (j + 1) c1] 2 _ _).trans ((h4.frozen (p := ⟨X, k, none⟩) (by show X < X + 1; omega)).trans (hfr k))
          have hb6 : Below X w2 (w6.setCell ⟨X, 2, none⟩ (.slice A1 (j + 1) c1)) := (hbr.trans (h4.mono (by omega))).setCell (Nat.le_refl _) _
          have ho6 : (w6.setCell ⟨X, 2, none⟩ (.slice A1 (j + 1) c1)).ownsRow (X + 1) 4 1 (.slice A1 (j + 1) c1) (j + 1) (List.replicate (j + 1) (.bool blank)) := by
            rw [List.replicate_succ']
            exact RowKit.ownsRow_setCell_below h2 (by show X < X + 1; omega) _
          have hs6 : X < (w6.setCell ⟨X, 2, none⟩ (.slice A1 (j + 1) c1)).heap.size := by simpa using hlt6
          have HS := Lib.hid (And.intro hrg6 (And.intro hfr6 (And.intro hb6 (And.intro ho6 hs6))))
          clear hrg6 hfr6 hb6 ho6 hs6 h2 h3 h4 h5 hown hrg hfr hbr
          go_wp2_with fail
          go_roundw
          case rel =>
            obtain ⟨a1, a2, a3, a4, a5⟩ := HS.out
            exact ⟨j + 1, A1, c1, by omega, by go_num, a4, a1, a2, a3, a5⟩
          case measure => simp [intOf]; omega
      · obtain rfl : j = m := by omega
        go_upto_region 10 with fail
        have hbw : Below w.heap.size w wr := hb2.trans (hbr.mono hXz)
        have hmw := HM.out.below hbw
        obtain ⟨A0, c0, hv0⟩ := own_slice hmw.own
        have hmc := hmw.cell
        have hmf := hmw.free
        have hmo := hmw.own
        have hma := hmw.apart
        rw [hv0] at hmc hmo hma
        have hpmlt : pm < wr.heap.size := World.block_lt_of_cell? wr _ hmc
        have hX0 := hrg 0 _ rfl
        have hX1 := hrg 1 _ rfl
        have hX2 := hrg 2 _ rfl
        have hX3 := hrg 3 _ rfl
        simp only [Nat.zero_add] at hX0 hX1 hX2 hX3
        have HK := Lib.hid (And.intro hown (And.intro hbr (And.intro hXr hbw)))
        have HV := Lib.hid hv0
        clear hown hbr hrg hfr hbw hmw hge hj hv0
        go_region_law (first | (refine step_append_x rfl (.tmp 50) (.tmp 52) 97 rfl 0 127 i2 _ 4 64 Tryz.underlying97 hi2 hx0 hx1 hx2 rfl (by decide) A0 n c0 xs rfl ?_ (wr.heap.size + 1) (some ⟨wr.heap.size, 0, none⟩) 1 1 [.int .i64 a, .slice Ab j cb, .slice Ak j ck, .bool fixed] rfl ?_ (by decide) ?_ ?_ ?_ (Nat.zero_le _) ?_; (exact hmo.alloc _); (exact sat_new wr 127 #[.int .i64 a, .slice Ab j cb, .slice Ak j ck, .bool fixed] 4 1 rfl); (intro u hu; simp at hu; rcases hu with rfl | rfl | rfl | rfl <;> first | rfl | (cases fixed <;> rfl)); (simp only [maxLen]; omega); (omega); (intro A5 c5 w5 ho5 hg5 hb5; have k5 := grown_kept (X := fun k => (Value.slice A0 n c0).ownBlock = some k) hg5 (fun _ h => h); have kk5 : Kept (fun k => (Value.slice A0 n c0).ownBlock = some k) wr w5 := (Kept.of (X := fun k => (Value.slice A0 n c0).ownBlock = some k) (below_boxes1 wr _).drew (Nat.le_refl _)).trans k5 (fun _ _ h => h); have p5 : w5.cell? ⟨pm, 0, none⟩ = some (.slice A0 n c0) := (kk5.cell hpmlt hma).trans hmc; have f5 : w5.frozen? ⟨pm, 0, none⟩ = false := (kk5.frozen hpmlt hma).trans hmf)))
        all_goals
          have hF : ∃ v' Ab_ cb_ Ak_ ck_, MemX (w5.setCell ⟨pm, 0, none⟩ (.slice A5 (n + 1) c5)) pm v' (n + 1) (xs ++ [.int .i64 a, .slice Ab_ j cb_, .slice Ak_ j ck_, .bool fixed]) ∧
              (w5.setCell ⟨pm, 0, none⟩ (.slice A5 (n + 1) c5)).ownsRow w.heap.size 5 1 (.slice Ab_ j cb_) j bs ∧ (w5.setCell ⟨pm, 0, none⟩ (.slice A5 (n + 1) c5)).ownsRow w.heap.size 4 1 (.slice Ak_ j ck_) j (List.replicate j (.bool blank)) ∧ (v'.ownBlock = v.ownBlock ∨ ∃ g, v'.ownBlock = some g ∧ w.heap.size ≤ g) ∧ Kept (fun k => k = pm ∨ v.ownBlock = some k) w (w5.setCell ⟨pm, 0, none⟩ (.slice A5 (n + 1) c5)) := by
            obtain ⟨hK1, hK2, hK3, hK4⟩ := HK.out
            have hvo := HV.out
            have hgo : ∀ k, (Value.slice A0 n c0).ownBlock = some k → k < w.heap.size := fun k hk => by
              have h := HM.out.own; rw [hvo] at h
              exact (h.lt k hk).2
            have hpmw : pm < w.heap.size := World.block_lt_of_cell? w _ HM.out.cell
            have hap : (Value.slice A5 (n + 1) c5).ownBlock ≠ some pm := by
              rcases hb5 with h | h
              · rw [h]; exact hma
              · rw [h]; intro e
                have : wr.heap.size + 1 = pm := by simpa using e
                omega
            have kw5 : Kept (fun k => k = pm ∨ v.ownBlock = some k) w w5 := (Kept.of hK4 (Nat.le_refl _)).trans kk5 (fun i _ h => .inr (by rw [hvo]; exact h))
            have kset : Kept (fun k => k = pm) w5 (w5.setCell ⟨pm, 0, none⟩ (.slice A5 (n + 1) c5)) := Kept.refl.set rfl
            have kw6 := kw5.trans kset (fun i _ h => .inl h)
            refine ⟨.slice A5 (n + 1) c5, Ab, cb, Ak, ck, ⟨?_, ?_, own_kept ho5 kset (fun k h e => hap (e ▸ h)), hap⟩, ?_, ?_, ?_, kw6⟩
            · exact World.cell?_setCell_same _ _ _ (by rw [p5])
            · rw [World.frozen?_setCell]; exact f5
            · have hlt2 := HO.out.lt
              have kr : Kept (fun _ => False) w2 wr := Kept.of hK2 (Nat.le_of_eq HE.out)
              refine own_kept (own_kept (own_kept HO.out kr (fun _ _ => id)) kk5 (fun k hk h => ?_)) kset (fun k hk e => ?_)
              · have := hgo k h; have := (hlt2 k hk).1; omega
              · have := (hlt2 k hk).1; omega
            · refine own_mono (base := X + 1) (by omega) (own_kept (own_kept hK1 kk5 (fun k hk h => ?_)) kset (fun k hk e => ?_))
              · have := hgo k h; have := (hK1.lt k hk).1; omega
              · have := (hK1.lt k hk).1; omega
            · rcases hb5 with h | h
              · exact .inl (by rw [h, hvo])
              · exact .inr ⟨_, h, Nat.le_trans hK4.size (by simp)⟩
          have HF := Lib.hid hF
          clear hF ho5 hg5 hb5 k5 kk5 hma hmo p5 f5
          go_wp2_with fail
          go_ret
          exact ⟨rfl, HF.out⟩

end

section
/-- A struct behind a pointer: its cells, none frozen. -/
structure Blk (w : World) (b : Nat) (K : List Value) : Prop where
  cells : w.rangeAt b 0 K
  free : ∀ k, w.frozen? ⟨b, k, none⟩ = false
  lt : b < w.heap.size
theorem Blk.cell {w : World} {b : Nat} {K : List Value} (h : Blk w b K) {k : Nat} {u : Value} (hu : K[k]? = some u) : w.cell? ⟨b, k, none⟩ = some u := by
  have := h.cells k u hu
  rwa [Nat.zero_add] at this
theorem Blk.kept {w w' : World} {b : Nat} {K : List Value} {X : Nat → Prop} (h : Blk w b K) (hk : Kept X w w') (hx : ¬ X b) : Blk w' b K :=
  ⟨fun k u hu => (hk.cell h.lt hx).trans (h.cells k u hu), fun k => (hk.frozen h.lt hx).trans (h.free k), Nat.lt_of_lt_of_le h.lt hk.size⟩
theorem Blk.below {w w' : World} {b : Nat} {K : List Value} (h : Blk w b K) (hb : Below w.heap.size w w') : Blk w' b K :=
  h.kept (X := fun _ => False) (Kept.of hb (Nat.le_refl _)) id
theorem Blk.drew {w : World} {b : Nat} {K : List Value} (h : Blk w b K) : Blk w.drew b K := ⟨h.cells, h.free, h.lt⟩
theorem Blk.set {w : World} {b : Nat} {K : List Value} (h : Blk w b K) {k : Nat} (hk : k < K.length) (u : Value) : Blk (w.setCell ⟨b, k, none⟩ u) b (K.set k u) := by
  refine ⟨fun j v hj => ?_, fun j => by rw [World.frozen?_setCell]; exact h.free j, by simpa using h.lt⟩
  rw [Nat.zero_add]
  rw [List.getElem?_set] at hj
  split at hj
  · rename_i e; subst e
    rw [World.cell?_setCell_same _ _ _ (by rw [h.cell (List.getElem?_eq_getElem hk)])]
    exact hj
  · rename_i e
    have := World.cell?_setCells_out b [u] k w ⟨b, j, none⟩ (fun _ _ => by show j < k ∨ k + 1 ≤ j; omega)
    exact this.trans (h.cell hj)
set_option maxRecDepth 100000 in
theorem rset11 (pm : Nat) (K : List Value) (hK : K.length = 32) (i : Nat) (hi : i < 11) (n : Int) (w : World) (hb : Blk w pm K) :
    Calls Tryz.prog 25 #[.pointer (some ⟨pm, 0, none⟩), .int .i64 i, .int .u64 n] w fun e w' => e = .returned (.tuple #[]) ∧ Blk w' pm ((K.set (1 + i) (.int .u64 n)).set (12 + i) (.bool true)) ∧ Kept (fun k => k = pm) w w' := by
  have hi2 : (i : Int) < 11 := by omega
  have c1 : w.cell? ⟨pm, 1 + i, none⟩ = some K[1 + i] := hb.cell (List.getElem?_eq_getElem (by omega))
  have f1 := hb.free (1 + i)
  have hb1 := hb.set (k := 1 + i) (by omega) (.int .u64 n)
  have c2 : (w.setCell ⟨pm, 1 + i, none⟩ (.int .u64 n)).cell? ⟨pm, 12 + i, none⟩ = some ((K.set (1 + i) (.int .u64 n))[12 + i]'(by rw [List.length_set]; omega)) := hb1.cell (List.getElem?_eq_getElem (by rw [List.length_set]; omega))
  have f2 := hb1.free (12 + i)
  have hb2 := hb1.set (k := 12 + i) (by rw [List.length_set]; omega) (.bool true)
  have hk : Kept (fun k => k = pm) w ((w.setCell ⟨pm, 1 + i, none⟩ (.int .u64 n)).setCell ⟨pm, 12 + i, none⟩ (.bool true)) := Kept.set (X := fun k => k = pm) (Kept.set (X := fun k => k = pm) Kept.refl rfl) rfl
  have HF := Lib.hid (And.intro hb2 hk)
  clear hb hb1 hb2 hk
  generalize K[1 + i] = x1 at *
  generalize (K.set (1 + i) (.int .u64 n))[12 + i]'(by rw [List.length_set]; omega) = x2 at *
  go_enter Tryz.func25, Tryz.ntmps25
  go_wp2_with fail
  exact ⟨rfl, .tuple #[], by simp [results, Tryz.results25], rfl, HF.out⟩

end

section
theorem rat8 (a o : Int) (ha : 0 ≤ a) (ha2 : a ≤ 2147483648) (ho : 0 ≤ o) (ho2 : o ≤ 1024) (w : World) : Calls Tryz.prog 26 #[.int .i64 a, .int .i64 o] w fun e w' => e = .returned (.int .u64 (a * 4294967296 + o)) ∧ w' = w := by
  have w1 : IntKind.u64.wrap a = a := by rw [IntKind.wrap_u64]; omega
  have w2 : IntKind.u64.wrap o = o := by rw [IntKind.wrap_u64]; omega
  have w3 : IntKind.u64.wrap (a * 4294967296) = a * 4294967296 := by rw [IntKind.wrap_u64]; omega
  have w4 : IntKind.u64.wrap (a * 4294967296 + o) = a * 4294967296 + o := by rw [IntKind.wrap_u64]; omega
  go_enter Tryz.func26, Tryz.ntmps26
  go_wp2_with fail
  go_ret
  exact ⟨rfl, rfl⟩
theorem rimm11 (x0 x1 x2 x3 im : Int) (h0 : -2147483648 ≤ im) (h1 : im ≤ 2147483647) (w : World) : Calls Tryz.prog 85 #[.agg #[.int .u8 x0, .int .u8 x1, .int .u8 x2, .int .i16 x3, .int .i32 im]] w fun e w' => e = .returned (.int .u64 (sign32 (im % 4294967296))) ∧ Below w.heap.size w w' := by
  have hq := fun w => rsign32_any (im % 4294967296) ⟨by omega, by omega⟩ w
  have hw : IntKind.u32.wrap im = im % 4294967296 := by simp [IntKind.wrap, IntKind.bits, IntKind.signed]
  have hw2 : IntKind.u64.wrap (im % 4294967296) = im % 4294967296 := by rw [IntKind.wrap_u64]; omega
  generalize sign32 (im % 4294967296) = r at *
  go_enter Tryz.func85, Tryz.ntmps85
  go_wp2_with fail
  refine (hq _).mono ?_
  rintro e w1 ⟨rfl, rfl⟩
  go_wp2_with fail
  go_ret
  exact ⟨rfl, (Below.refl _ _).alloc (Nat.le_refl _) _⟩
theorem rnew9_nil (pm : Nat) (w : World) : Calls Tryz.prog 23 #[.pointer (some ⟨pm, 0, none⟩), .slice none 0 0] w fun e w' => (∃ t, e = .returned (.tuple #[.pointer (some ⟨t, 0, none⟩), .int .i64 0])) ∧ Below w.heap.size w w' := by
  have hd := rdefs9_nil
  go_enter Tryz.func23, Tryz.ntmps23
  go_wp2_with fail
  refine (hd _).mono ?_
  rintro e w1 ⟨rfl, hb1⟩
  go_upto_region 4 with fail
  have hb2 : Below w.heap.size w (w1.alloc (.cells #[.pointer (some ⟨pm, 0, none⟩), .slice none 0 0] 130)) := hb1.alloc hb1.size _
  generalize w1.alloc (.cells #[.pointer (some ⟨pm, 0, none⟩), .slice none 0 0] 130) = W at *
  go_wp2_with fail
  go_loopw [7] (fun k wr => k = .int .i64 0 ∧ wr = W) (fun k _ => 0)
  case atStart => exact ⟨rfl, rfl⟩
  case round =>
    obtain ⟨rfl, rfl⟩ := hrel
    go_wp2_with fail
    go_ret2
    exact ⟨⟨_, rfl⟩, hb2⟩

end

section
abbrev mach0 (Lv mv tv dv : Value) : List Value := [Lv, .int .u64 0, .int .u64 0, .int .u64 0, .int .u64 0, .int .u64 0, .int .u64 0, .int .u64 0, .int .u64 0, .int .u64 0, .int .u64 0, .int .u64 0,
  .bool false, .bool false, .bool false, .bool false, .bool false, .bool false, .bool false, .bool false, .bool false, .bool false, .bool false, mv, tv, .slice none 0 0, dv, .int .i64 0, .bool false, .int .i64 0, .int .i64 0, .slice none 0 0]
abbrev mach1 (Lv mv tv dv : Value) : List Value := [Lv, .int .u64 0, .int .u64 4294967296, .int .u64 0, .int .u64 0, .int .u64 0, .int .u64 0, .int .u64 0, .int .u64 0, .int .u64 0, .int .u64 0, .int .u64 8589935104,
  .bool false, .bool true, .bool false, .bool false, .bool false, .bool false, .bool false, .bool false, .bool false, .bool false, .bool true, mv, tv, .slice none 0 0, dv, .int .i64 0, .bool false, .int .i64 0, .int .i64 0, .slice none 0 0]
set_option maxRecDepth 100000 in
set_option maxHeartbeats 4000000 in
theorem rnew11_nil (A : Option Addr) (n c : Nat) (w : World) (hck : ∀ w1, Below w.heap.size w w1 → Calls Tryz.prog 12 #[.slice A n c] w1 fun e w' => e = .returned (.tuple #[.int .i64 0, .int .i64 0]) ∧ Below w1.heap.size w1 w') :
    Calls Tryz.prog 7 #[.slice A n c, .agg #[.slice none 0 0, .slice none 0 0, .slice none 0 0, .slice none 0 0]] w fun e w' => (∃ M mv tv dv, e = .returned (.tuple #[.pointer (some ⟨M, 0, none⟩), .int .i64 0]) ∧ w.heap.size ≤ M ∧ Blk w' M (mach1 (.slice A n c) mv tv dv)) ∧ Below w.heap.size w w' := by
  have q0 := heap1_0 w (.cells #[.slice none 0 0, .slice none 0 0, .slice none 0 0, .slice none 0 0] 47)
  have e0 := boxc (k := 0) (u := .slice none 0 0) q0 rfl
  have e1 := boxc (k := 1) (u := .slice none 0 0) q0 rfl
  have e2 := boxc (k := 2) (u := .slice none 0 0) q0 rfl
  have e3 := boxc (k := 3) (u := .slice none 0 0) q0 rfl
  clear q0
  have hW0 : Below w.heap.size w (w.alloc (.cells #[.slice none 0 0, .slice none 0 0, .slice none 0 0, .slice none 0 0] 47)) := below_boxes1 _ _
  have hWs : (w.alloc (.cells #[.slice none 0 0, .slice none 0 0, .slice none 0 0, .slice none 0 0] 47)).heap.size = w.heap.size + 1 := by simp
  obtain ⟨i0, hi0, hz0, hz1, hz2⟩ := info_parts (show (Tryz.prog.info? 49).map (fun i => (i.zero, i.size, i.bytes)) = some (some (.int .u64 0), 1, 8) by kernel_rfl)
  go_enter Tryz.func7, Tryz.ntmps7
  go_upto_region 1 with fail
  generalize w.alloc (.cells #[.slice none 0 0, .slice none 0 0, .slice none 0 0, .slice none 0 0] 47) = W at *
  have HWS := Lib.hid hWs
  clear hWs
  go_wp2_with fail
  refine (hck _ hW0).mono ?_
  rintro e w1 ⟨rfl, hc1⟩
  have hb1 : Below W.heap.size W w1 := hc1
  clear hc1
  have E0 := e0 _ hb1
  have E1 := e1 _ hb1
  have E2 := e2 _ hb1
  have E3 := e3 _ hb1
  go_upto_region 4 with fail
  have hrW := Below.refl W.heap.size W
  have hr1 := Below.refl w1.heap.size w1
  have hs1 := hb1.size
  have hx1 : ∀ o, Below W.heap.size W (w1.alloc o) := fun o => hb1.alloc hs1 o
  have hx2 : ∀ o o', Below W.heap.size W ((w1.alloc o).alloc o') := fun o o' => (hb1.alloc hs1 o).alloc (Nat.le_trans hs1 (by simp)) o'
  have a11 := fun o => e1 _ (hx1 o)
  have a12 := fun o o' => e1 _ (hx2 o o')
  have a31 := fun o => e3 _ (hx1 o)
  have a32 := fun o o' => e3 _ (hx2 o o')
  go_region
  · have hq1 : (((w1.alloc (.cells #[.slice none 0 0] 99)).alloc (.cells #[] 49)).alloc (.cells (mach0 (.slice A n c) (.pointer (some ⟨w1.heap.size, 0, none⟩)) (.pointer none) (.slice (some ⟨(w1.heap.size + 1), 0, none⟩) 0 0)).toArray 56)).drew.heap[w1.heap.size]? = some (.cells #[.slice none 0 0] 99) := heap3_0 w1 (.cells #[.slice none 0 0] 99) (.cells #[] 49) (.cells (mach0 (.slice A n c) (.pointer (some ⟨w1.heap.size, 0, none⟩)) (.pointer none) (.slice (some ⟨(w1.heap.size + 1), 0, none⟩) 0 0)).toArray 56)
    have hm1 : MemX (((w1.alloc (.cells #[.slice none 0 0] 99)).alloc (.cells #[] 49)).alloc (.cells (mach0 (.slice A n c) (.pointer (some ⟨w1.heap.size, 0, none⟩)) (.pointer none) (.slice (some ⟨(w1.heap.size + 1), 0, none⟩) 0 0)).toArray 56)).drew w1.heap.size (.slice none 0 0) 0 [] := ⟨boxc (k := 0) (u := .slice none 0 0) hq1 rfl _ (Below.refl _ _), boxt hq1 0 _ (Below.refl _ _), World.ownsRow_nil _ _ _ _, by simp [Value.ownBlock]⟩
    have hq2 : (((w1.alloc (.cells #[.slice none 0 0] 99)).alloc (.cells #[] 49)).alloc (.cells (mach0 (.slice A n c) (.pointer (some ⟨w1.heap.size, 0, none⟩)) (.pointer none) (.slice (some ⟨(w1.heap.size + 1), 0, none⟩) 0 0)).toArray 56)).drew.heap[w1.heap.size + 2]? = some (.cells (mach0 (.slice A n c) (.pointer (some ⟨w1.heap.size, 0, none⟩)) (.pointer none) (.slice (some ⟨(w1.heap.size + 1), 0, none⟩) 0 0)).toArray 56) := heap3_2 w1 (.cells #[.slice none 0 0] 99) (.cells #[] 49) (.cells (mach0 (.slice A n c) (.pointer (some ⟨w1.heap.size, 0, none⟩)) (.pointer none) (.slice (some ⟨(w1.heap.size + 1), 0, none⟩) 0 0)).toArray 56)
    have hm2 : Blk (((w1.alloc (.cells #[.slice none 0 0] 99)).alloc (.cells #[] 49)).alloc (.cells (mach0 (.slice A n c) (.pointer (some ⟨w1.heap.size, 0, none⟩)) (.pointer none) (.slice (some ⟨(w1.heap.size + 1), 0, none⟩) 0 0)).toArray 56)).drew (w1.heap.size + 2) (mach0 (.slice A n c) (.pointer (some ⟨w1.heap.size, 0, none⟩)) (.pointer none) (.slice (some ⟨(w1.heap.size + 1), 0, none⟩) 0 0)) := ⟨range_of_block hq2, fun k => boxt hq2 k _ (Below.refl _ _), (Array.getElem?_eq_some_iff.1 hq2).1⟩
    have hm3 : Below W.heap.size W (((w1.alloc (.cells #[.slice none 0 0] 99)).alloc (.cells #[] 49)).alloc (.cells (mach0 (.slice A n c) (.pointer (some ⟨w1.heap.size, 0, none⟩)) (.pointer none) (.slice (some ⟨(w1.heap.size + 1), 0, none⟩) 0 0)).toArray 56)).drew := ((hb1.alloc hs1 _).alloc (Nat.le_trans hs1 (by simp)) _ |>.alloc (Nat.le_trans hs1 (by simp; omega)) _).drew
    have hm4 : W.heap.size ≤ w1.heap.size := by omega
    have hm5 : W.heap.size ≤ w1.heap.size + 2 := by omega
    have hm6 : w1.heap.size ≠ w1.heap.size + 2 := by omega
    have hm7 : w1.heap.size < (((w1.alloc (.cells #[.slice none 0 0] 99)).alloc (.cells #[] 49)).alloc (.cells (mach0 (.slice A n c) (.pointer (some ⟨w1.heap.size, 0, none⟩)) (.pointer none) (.slice (some ⟨(w1.heap.size + 1), 0, none⟩) 0 0)).toArray 56)).drew.heap.size := (Array.getElem?_eq_some_iff.1 hq1).1
    clear hq1 hq2 E0 E1 E2 E3 hrW hr1 hx1 hx2 a11 a12 a31 a32 hi0 hz0 hz1 hz2
    generalize (((w1.alloc (.cells #[.slice none 0 0] 99)).alloc (.cells #[] 49)).alloc (.cells (mach0 (.slice A n c) (.pointer (some ⟨w1.heap.size, 0, none⟩)) (.pointer none) (.slice (some ⟨(w1.heap.size + 1), 0, none⟩) 0 0)).toArray 56)).drew = V at *
    generalize hdv : (.slice (some ⟨(w1.heap.size + 1), 0, none⟩) 0 0 : Value) = dv at *
    clear hdv
    generalize w1.heap.size + 2 = M at *
    generalize w1.heap.size = pm at *
    clear hs1 hb1
    have hMV := hm2.lt
    have k23 : ∀ w', Kept (fun k => k = pm) V w' → w'.cell? ⟨M, 23, none⟩ = some (.pointer (some ⟨pm, 0, none⟩)) := fun w' h => (h.cell hMV (fun e => hm6 e.symm)).trans (hm2.cell rfl)
    have k0 : ∀ w', Kept (fun k => k = pm) V w' → w'.cell? ⟨w.heap.size, 0, none⟩ = some (.slice none 0 0) := fun w' h => e0 _ (hm3.trans (h.below (B := W.heap.size) (fun k e => by have e : k = pm := e; omega) hm3.size))
    have hmk := fun (w' : World) (h : Below V.heap.size V w') => rmake8 pm (.slice none 0 0) 0 [] [] rfl (by omega) (fun i hi => absurd hi (by simp)) 1 (by simp) (by decide) (by decide) none 0 0 (by omega) [] (by simp) false true w' (hm1.below h) 0 (Nat.zero_le _) (SAt.nil_)
    have hrV : Kept (fun k => k = pm) V V := Kept.refl
    go_upto_region 5 with fail
    go_region_held3 (fun w' => Kept (fun k => k = pm) V w') (first | assumption | exact Kept.drew (by assumption)) (first | (go_at_call 22; refine (hmk _ (by first | exact Below.refl _ _ | exact (Below.refl _ _).drew)).mono ?_; rintro e w5 ⟨rfl, v', Ab, cb, Ak, ck, hx5, hob, hok, hv5, hk5⟩; have hS5 : Kept (fun k => k = pm) V w5 := Kept.trans (hrV.drew) hk5 (fun i _ h => by rcases h with h | h; exact h; simp [Value.ownBlock] at h)))
    all_goals
      have hM5 : Blk w5 M (mach0 (.slice A n c) (.pointer (some ⟨pm, 0, none⟩)) (.pointer none) dv) := hm2.kept hS5 (fun e => hm6 e.symm)
      have hW5 : Below W.heap.size W w5 := hm3.trans (hS5.below (fun k e => by have e : k = pm := e; omega) hm3.size)
      have hvM : ¬ v'.ownBlock = some M := by
        rcases hv5 with h | ⟨g, h, h2⟩
        · rw [h]; simp [Value.ownBlock]
        · rw [h]; intro e; simp at e; have : M < V.drew.heap.size := hm2.lt; omega
      have hvW : ∀ k, v'.ownBlock = some k → W.heap.size ≤ k := by
        intro k hk
        rcases hv5 with h | ⟨g, h, h2⟩
        · rw [h] at hk; simp [Value.ownBlock] at hk
        · rw [h] at hk; simp at hk; have h3 : V.heap.size ≤ g := h2; have := hm3.size; omega
      clear hS5 hk5 hob hok hmk k23 k0 hrV hm1 hm2 hm3 hm7 hMV
      generalize w5 = V5 at *
      have hMV := hM5.lt
      have hpV : pm < V5.heap.size := World.block_lt_of_cell? V5 _ hx5.cell
      have hXM : ¬ (M = pm ∨ v'.ownBlock = some M) := by
        rintro (e | e)
        · exact hm6 e.symm
        · exact hvM e
      have k23 : ∀ w', Kept (fun k => k = pm ∨ v'.ownBlock = some k) V5 w' → w'.cell? ⟨M, 23, none⟩ = some (.pointer (some ⟨pm, 0, none⟩)) := fun w' h => (h.cell hMV hXM).trans (hM5.cell rfl)
      obtain ⟨Z, hZ⟩ : ∃ Z, Z = madeCells #[Value.int .u8 0] 512 := ⟨_, rfl⟩
      have hmk5 : ∀ w, (Instr.makeSlice 28 (.int .i64 512) (.int .i64 512)).run Tryz.prog w = .ok (.slice (some ⟨w.heap.size, 0, none⟩) 512 512) (w.alloc (.cells Z 5)) := fun w => by
        rw [hZ]
        exact run_make_row' (P := Tryz.prog) 28 5 (.int .u8 0) 1 Tryz.underlying28 info5 rfl .i64 .i64 512 (by omega) (by omega) w
      have hZ1 : ∀ u ∈ Z.toList, u.oneCell' = true := by rw [hZ, toList_madeCells_one]; intro u hu; rw [(List.mem_replicate.1 hu).2]; rfl
      have hZs : Z.size = 512 * 1 := by rw [hZ, size_madeCells]
      clear hZ
      have hmk := fun (w' : World) (h : Below V5.heap.size V5 w') (hat : SAt w' (V5.heap.size + 1) 1 (some ⟨V5.heap.size, 0, none⟩) 512 Z.toList) (hs : V5.heap.size + 1 ≤ w'.heap.size) => rmake8 pm v' 1 _ [1] rfl (by omega) (fun i hi => by simp at hi; subst hi; rfl) 2 (by simp) (by decide) (by decide) (some ⟨V5.heap.size, 0, none⟩) 512 512 (by omega) Z.toList hZ1 true false w' (hx5.below h) (V5.heap.size + 1) hs hat
      have hrV : Kept (fun k => k = pm ∨ v'.ownBlock = some k) V5 V5 := Kept.refl
      go_upto_region 6 with fail
      go_region_held3 (fun w' => Kept (fun k => k = pm ∨ v'.ownBlock = some k) V5 w') (first | assumption | exact Kept.drew (by assumption) | exact Kept.of (below_boxes1 _ _) (Nat.le_refl _) | exact Kept.of (below_boxes1 _ _).drew (Nat.le_refl _)) (first | (go_at_call 22; refine (hmk ((V5.alloc (.cells Z 5)).drew) (below_boxes1 _ _).drew (show SAt (V5.alloc (.cells Z 5)).drew _ _ _ _ _ from sat_new V5 5 Z 1 512 hZs) (by simp)).mono ?_; rintro e w6 ⟨rfl, v6, Ab6, cb6, Ak6, ck6, hx6, hob6, hok6, hv6, hk6⟩; have hS6 : Kept (fun k => k = pm ∨ v'.ownBlock = some k) V5 w6 := Kept.trans (Kept.of (X := fun k => k = pm ∨ v'.ownBlock = some k) (below_boxes1 V5 _).drew (Nat.le_refl _)) hk6 (fun i _ h => h)))
      all_goals
        have hM6 := hM5.kept hS6 hXM
        have hW6 : Below W.heap.size W w6 := hW5.trans (hS6.below (fun k e => by rcases e with e | e; have e : k = pm := e; omega; exact hvW k e) hW5.size)
        clear hS6 hk6 hob6 hok6 hmk k23 hrV hx6 hv6 hx5 hM5 hW5 hmk5 hZ1 hZs
        have hml := hM6.lt
        have k23 : ∀ w', Below w6.heap.size w6 w' → w'.cell? ⟨M, 23, none⟩ = some (.pointer (some ⟨pm, 0, none⟩)) := fun w' h => (hM6.below h).cell rfl
        have k1 : ∀ w', Below w6.heap.size w6 w' → w'.cell? ⟨w.heap.size, 1, none⟩ = some (.slice none 0 0) := fun w' h => e1 _ (hW6.trans (h.mono hW6.size))
        have hrV := Below.refl w6.heap.size w6
        have hn9 := rnew9_nil pm
        go_upto_region 7 with fail
        go_region_held3 (fun w' => Below w6.heap.size w6 w') (first | assumption | exact sbelow_drew (by assumption)) (first | (go_at_call 23; refine (hn9 _).mono ?_; rintro e w7 ⟨⟨t, rfl⟩, hc7⟩; have hS7 : Below w6.heap.size w6 w7 := (below_step (sbelow_drew hrV) (Nat.le_refl _) hc7)))
        all_goals
          have hM7 := hM6.below hS7
          have hW7 := hW6.trans (hS7.mono hW6.size)
          clear hS7 hc7 k23 k1 hrV hn9 hM6 hW6 hml
          have c24 := hM7.cell (k := 24) rfl
          have f24 := hM7.free 24
          have hM8 := hM7.set (k := 24) (by simp) (.pointer (some ⟨t, 0, none⟩))
          have hW8 : Below W.heap.size W (w7.setCell ⟨M, 24, none⟩ (.pointer (some ⟨t, 0, none⟩))) := hW7.setCell hm5 _
          clear hM7 hW7
          go_upto_region 11 with fail
          clear c24 f24
          generalize w7.setCell ⟨M, 24, none⟩ (.pointer (some ⟨t, 0, none⟩)) = w8 at *
          have E2 := e2 _ hW8
          go_wp2_with fail
          go_loopw [11] (fun k wr => k = .int .i64 0 ∧ wr = w8) (fun k _ => 0)
          case atStart => exact ⟨rfl, rfl⟩
          case round =>
            obtain ⟨rfl, rfl⟩ := hrel
            have ha1 := rat8 1 0 (by decide) (by decide) (by decide) (by decide)
            have ha2 := rat8 2 512 (by decide) (by decide) (by decide) (by decide)
            go_wp2_with fail
            refine (ha1 _).mono ?_
            rintro e w9 ⟨rfl, rfl⟩
            go_wp2_with fail
            refine (rset11 M _ (by rfl) 1 (by decide) _ _ hM8).mono ?_
            rintro e w10 ⟨rfl, hM10, hk10⟩
            have hW10 := hW8.trans (hk10.below (B := W.heap.size) (fun k e => by have e : k = M := e; omega) hW8.size)
            clear E2 hM8 hk10
            go_wp2_with fail
            refine (ha2 _).mono ?_
            rintro e w11 ⟨rfl, rfl⟩
            go_wp2_with fail
            refine (rset11 M _ (by rfl) 10 (by decide) _ _ hM10).mono ?_
            rintro e w12 ⟨rfl, hM12, hk12⟩
            have hW12 := hW10.trans (hk12.below (B := W.heap.size) (fun k e => by have e : k = M := e; omega) hW10.size)
            clear hM10 hk12
            have HF := Lib.hid (And.intro hM12 hW12)
            clear hM12 hW12
            go_wp2_with fail
            go_ret2
            exact ⟨⟨M, _, _, _, rfl, by have := HWS.out; omega, HF.out.1⟩, hW0.trans (HF.out.2.mono hW0.size)⟩
  · have hq1 : (((w1.alloc (.cells #[] 49)).alloc (.cells #[.slice none 0 0] 99)).alloc (.cells (mach0 (.slice A n c) (.pointer (some ⟨(w1.heap.size + 1), 0, none⟩)) (.pointer none) (.slice (some ⟨w1.heap.size, 0, none⟩) 0 0)).toArray 56)).drew.heap[(w1.heap.size + 1)]? = some (.cells #[.slice none 0 0] 99) := heap3_1 w1 (.cells #[] 49) (.cells #[.slice none 0 0] 99) (.cells (mach0 (.slice A n c) (.pointer (some ⟨(w1.heap.size + 1), 0, none⟩)) (.pointer none) (.slice (some ⟨w1.heap.size, 0, none⟩) 0 0)).toArray 56)
    have hm1 : MemX (((w1.alloc (.cells #[] 49)).alloc (.cells #[.slice none 0 0] 99)).alloc (.cells (mach0 (.slice A n c) (.pointer (some ⟨(w1.heap.size + 1), 0, none⟩)) (.pointer none) (.slice (some ⟨w1.heap.size, 0, none⟩) 0 0)).toArray 56)).drew (w1.heap.size + 1) (.slice none 0 0) 0 [] := ⟨boxc (k := 0) (u := .slice none 0 0) hq1 rfl _ (Below.refl _ _), boxt hq1 0 _ (Below.refl _ _), World.ownsRow_nil _ _ _ _, by simp [Value.ownBlock]⟩
    have hq2 : (((w1.alloc (.cells #[] 49)).alloc (.cells #[.slice none 0 0] 99)).alloc (.cells (mach0 (.slice A n c) (.pointer (some ⟨(w1.heap.size + 1), 0, none⟩)) (.pointer none) (.slice (some ⟨w1.heap.size, 0, none⟩) 0 0)).toArray 56)).drew.heap[w1.heap.size + 2]? = some (.cells (mach0 (.slice A n c) (.pointer (some ⟨(w1.heap.size + 1), 0, none⟩)) (.pointer none) (.slice (some ⟨w1.heap.size, 0, none⟩) 0 0)).toArray 56) := heap3_2 w1 (.cells #[] 49) (.cells #[.slice none 0 0] 99) (.cells (mach0 (.slice A n c) (.pointer (some ⟨(w1.heap.size + 1), 0, none⟩)) (.pointer none) (.slice (some ⟨w1.heap.size, 0, none⟩) 0 0)).toArray 56)
    have hm2 : Blk (((w1.alloc (.cells #[] 49)).alloc (.cells #[.slice none 0 0] 99)).alloc (.cells (mach0 (.slice A n c) (.pointer (some ⟨(w1.heap.size + 1), 0, none⟩)) (.pointer none) (.slice (some ⟨w1.heap.size, 0, none⟩) 0 0)).toArray 56)).drew (w1.heap.size + 2) (mach0 (.slice A n c) (.pointer (some ⟨(w1.heap.size + 1), 0, none⟩)) (.pointer none) (.slice (some ⟨w1.heap.size, 0, none⟩) 0 0)) := ⟨range_of_block hq2, fun k => boxt hq2 k _ (Below.refl _ _), (Array.getElem?_eq_some_iff.1 hq2).1⟩
    have hm3 : Below W.heap.size W (((w1.alloc (.cells #[] 49)).alloc (.cells #[.slice none 0 0] 99)).alloc (.cells (mach0 (.slice A n c) (.pointer (some ⟨(w1.heap.size + 1), 0, none⟩)) (.pointer none) (.slice (some ⟨w1.heap.size, 0, none⟩) 0 0)).toArray 56)).drew := ((hb1.alloc hs1 _).alloc (Nat.le_trans hs1 (by simp)) _ |>.alloc (Nat.le_trans hs1 (by simp; omega)) _).drew
    have hm4 : W.heap.size ≤ (w1.heap.size + 1) := by omega
    have hm5 : W.heap.size ≤ w1.heap.size + 2 := by omega
    have hm6 : (w1.heap.size + 1) ≠ w1.heap.size + 2 := by omega
    have hm7 : (w1.heap.size + 1) < (((w1.alloc (.cells #[] 49)).alloc (.cells #[.slice none 0 0] 99)).alloc (.cells (mach0 (.slice A n c) (.pointer (some ⟨(w1.heap.size + 1), 0, none⟩)) (.pointer none) (.slice (some ⟨w1.heap.size, 0, none⟩) 0 0)).toArray 56)).drew.heap.size := (Array.getElem?_eq_some_iff.1 hq1).1
    clear hq1 hq2 E0 E1 E2 E3 hrW hr1 hx1 hx2 a11 a12 a31 a32 hi0 hz0 hz1 hz2
    generalize (((w1.alloc (.cells #[] 49)).alloc (.cells #[.slice none 0 0] 99)).alloc (.cells (mach0 (.slice A n c) (.pointer (some ⟨(w1.heap.size + 1), 0, none⟩)) (.pointer none) (.slice (some ⟨w1.heap.size, 0, none⟩) 0 0)).toArray 56)).drew = V at *
    generalize hdv : (.slice (some ⟨w1.heap.size, 0, none⟩) 0 0 : Value) = dv at *
    clear hdv
    generalize w1.heap.size + 2 = M at *
    generalize (w1.heap.size + 1) = pm at *
    clear hs1 hb1
    have hMV := hm2.lt
    have k23 : ∀ w', Kept (fun k => k = pm) V w' → w'.cell? ⟨M, 23, none⟩ = some (.pointer (some ⟨pm, 0, none⟩)) := fun w' h => (h.cell hMV (fun e => hm6 e.symm)).trans (hm2.cell rfl)
    have k0 : ∀ w', Kept (fun k => k = pm) V w' → w'.cell? ⟨w.heap.size, 0, none⟩ = some (.slice none 0 0) := fun w' h => e0 _ (hm3.trans (h.below (B := W.heap.size) (fun k e => by have e : k = pm := e; omega) hm3.size))
    have hmk := fun (w' : World) (h : Below V.heap.size V w') => rmake8 pm (.slice none 0 0) 0 [] [] rfl (by omega) (fun i hi => absurd hi (by simp)) 1 (by simp) (by decide) (by decide) none 0 0 (by omega) [] (by simp) false true w' (hm1.below h) 0 (Nat.zero_le _) (SAt.nil_)
    have hrV : Kept (fun k => k = pm) V V := Kept.refl
    go_upto_region 5 with fail
    go_region_held3 (fun w' => Kept (fun k => k = pm) V w') (first | assumption | exact Kept.drew (by assumption)) (first | (go_at_call 22; refine (hmk _ (by first | exact Below.refl _ _ | exact (Below.refl _ _).drew)).mono ?_; rintro e w5 ⟨rfl, v', Ab, cb, Ak, ck, hx5, hob, hok, hv5, hk5⟩; have hS5 : Kept (fun k => k = pm) V w5 := Kept.trans (hrV.drew) hk5 (fun i _ h => by rcases h with h | h; exact h; simp [Value.ownBlock] at h)))
    all_goals
      have hM5 : Blk w5 M (mach0 (.slice A n c) (.pointer (some ⟨pm, 0, none⟩)) (.pointer none) dv) := hm2.kept hS5 (fun e => hm6 e.symm)
      have hW5 : Below W.heap.size W w5 := hm3.trans (hS5.below (fun k e => by have e : k = pm := e; omega) hm3.size)
      have hvM : ¬ v'.ownBlock = some M := by
        rcases hv5 with h | ⟨g, h, h2⟩
        · rw [h]; simp [Value.ownBlock]
        · rw [h]; intro e; simp at e; have : M < V.drew.heap.size := hm2.lt; omega
      have hvW : ∀ k, v'.ownBlock = some k → W.heap.size ≤ k := by
        intro k hk
        rcases hv5 with h | ⟨g, h, h2⟩
        · rw [h] at hk; simp [Value.ownBlock] at hk
        · rw [h] at hk; simp at hk; have h3 : V.heap.size ≤ g := h2; have := hm3.size; omega
      clear hS5 hk5 hob hok hmk k23 k0 hrV hm1 hm2 hm3 hm7 hMV
      generalize w5 = V5 at *
      have hMV := hM5.lt
      have hpV : pm < V5.heap.size := World.block_lt_of_cell? V5 _ hx5.cell
      have hXM : ¬ (M = pm ∨ v'.ownBlock = some M) := by
        rintro (e | e)
        · exact hm6 e.symm
        · exact hvM e
      have k23 : ∀ w', Kept (fun k => k = pm ∨ v'.ownBlock = some k) V5 w' → w'.cell? ⟨M, 23, none⟩ = some (.pointer (some ⟨pm, 0, none⟩)) := fun w' h => (h.cell hMV hXM).trans (hM5.cell rfl)
      obtain ⟨Z, hZ⟩ : ∃ Z, Z = madeCells #[Value.int .u8 0] 512 := ⟨_, rfl⟩
      have hmk5 : ∀ w, (Instr.makeSlice 28 (.int .i64 512) (.int .i64 512)).run Tryz.prog w = .ok (.slice (some ⟨w.heap.size, 0, none⟩) 512 512) (w.alloc (.cells Z 5)) := fun w => by
        rw [hZ]
        exact run_make_row' (P := Tryz.prog) 28 5 (.int .u8 0) 1 Tryz.underlying28 info5 rfl .i64 .i64 512 (by omega) (by omega) w
      have hZ1 : ∀ u ∈ Z.toList, u.oneCell' = true := by rw [hZ, toList_madeCells_one]; intro u hu; rw [(List.mem_replicate.1 hu).2]; rfl
      have hZs : Z.size = 512 * 1 := by rw [hZ, size_madeCells]
      clear hZ
      have hmk := fun (w' : World) (h : Below V5.heap.size V5 w') (hat : SAt w' (V5.heap.size + 1) 1 (some ⟨V5.heap.size, 0, none⟩) 512 Z.toList) (hs : V5.heap.size + 1 ≤ w'.heap.size) => rmake8 pm v' 1 _ [1] rfl (by omega) (fun i hi => by simp at hi; subst hi; rfl) 2 (by simp) (by decide) (by decide) (some ⟨V5.heap.size, 0, none⟩) 512 512 (by omega) Z.toList hZ1 true false w' (hx5.below h) (V5.heap.size + 1) hs hat
      have hrV : Kept (fun k => k = pm ∨ v'.ownBlock = some k) V5 V5 := Kept.refl
      go_upto_region 6 with fail
      go_region_held3 (fun w' => Kept (fun k => k = pm ∨ v'.ownBlock = some k) V5 w') (first | assumption | exact Kept.drew (by assumption) | exact Kept.of (below_boxes1 _ _) (Nat.le_refl _) | exact Kept.of (below_boxes1 _ _).drew (Nat.le_refl _)) (first | (go_at_call 22; refine (hmk ((V5.alloc (.cells Z 5)).drew) (below_boxes1 _ _).drew (show SAt (V5.alloc (.cells Z 5)).drew _ _ _ _ _ from sat_new V5 5 Z 1 512 hZs) (by simp)).mono ?_; rintro e w6 ⟨rfl, v6, Ab6, cb6, Ak6, ck6, hx6, hob6, hok6, hv6, hk6⟩; have hS6 : Kept (fun k => k = pm ∨ v'.ownBlock = some k) V5 w6 := Kept.trans (Kept.of (X := fun k => k = pm ∨ v'.ownBlock = some k) (below_boxes1 V5 _).drew (Nat.le_refl _)) hk6 (fun i _ h => h)))
      all_goals
        have hM6 := hM5.kept hS6 hXM
        have hW6 : Below W.heap.size W w6 := hW5.trans (hS6.below (fun k e => by rcases e with e | e; have e : k = pm := e; omega; exact hvW k e) hW5.size)
        clear hS6 hk6 hob6 hok6 hmk k23 hrV hx6 hv6 hx5 hM5 hW5 hmk5 hZ1 hZs
        have hml := hM6.lt
        have k23 : ∀ w', Below w6.heap.size w6 w' → w'.cell? ⟨M, 23, none⟩ = some (.pointer (some ⟨pm, 0, none⟩)) := fun w' h => (hM6.below h).cell rfl
        have k1 : ∀ w', Below w6.heap.size w6 w' → w'.cell? ⟨w.heap.size, 1, none⟩ = some (.slice none 0 0) := fun w' h => e1 _ (hW6.trans (h.mono hW6.size))
        have hrV := Below.refl w6.heap.size w6
        have hn9 := rnew9_nil pm
        go_upto_region 7 with fail
        go_region_held3 (fun w' => Below w6.heap.size w6 w') (first | assumption | exact sbelow_drew (by assumption)) (first | (go_at_call 23; refine (hn9 _).mono ?_; rintro e w7 ⟨⟨t, rfl⟩, hc7⟩; have hS7 : Below w6.heap.size w6 w7 := (below_step (sbelow_drew hrV) (Nat.le_refl _) hc7)))
        all_goals
          have hM7 := hM6.below hS7
          have hW7 := hW6.trans (hS7.mono hW6.size)
          clear hS7 hc7 k23 k1 hrV hn9 hM6 hW6 hml
          have c24 := hM7.cell (k := 24) rfl
          have f24 := hM7.free 24
          have hM8 := hM7.set (k := 24) (by simp) (.pointer (some ⟨t, 0, none⟩))
          have hW8 : Below W.heap.size W (w7.setCell ⟨M, 24, none⟩ (.pointer (some ⟨t, 0, none⟩))) := hW7.setCell hm5 _
          clear hM7 hW7
          go_upto_region 11 with fail
          clear c24 f24
          generalize w7.setCell ⟨M, 24, none⟩ (.pointer (some ⟨t, 0, none⟩)) = w8 at *
          have E2 := e2 _ hW8
          go_wp2_with fail
          go_loopw [11] (fun k wr => k = .int .i64 0 ∧ wr = w8) (fun k _ => 0)
          case atStart => exact ⟨rfl, rfl⟩
          case round =>
            obtain ⟨rfl, rfl⟩ := hrel
            have ha1 := rat8 1 0 (by decide) (by decide) (by decide) (by decide)
            have ha2 := rat8 2 512 (by decide) (by decide) (by decide) (by decide)
            go_wp2_with fail
            refine (ha1 _).mono ?_
            rintro e w9 ⟨rfl, rfl⟩
            go_wp2_with fail
            refine (rset11 M _ (by rfl) 1 (by decide) _ _ hM8).mono ?_
            rintro e w10 ⟨rfl, hM10, hk10⟩
            have hW10 := hW8.trans (hk10.below (B := W.heap.size) (fun k e => by have e : k = M := e; omega) hW8.size)
            clear E2 hM8 hk10
            go_wp2_with fail
            refine (ha2 _).mono ?_
            rintro e w11 ⟨rfl, rfl⟩
            go_wp2_with fail
            refine (rset11 M _ (by rfl) 10 (by decide) _ _ hM10).mono ?_
            rintro e w12 ⟨rfl, hM12, hk12⟩
            have hW12 := hW10.trans (hk12.below (B := W.heap.size) (fun k e => by have e : k = M := e; omega) hW10.size)
            clear hM10 hk12
            have HF := Lib.hid (And.intro hM12 hW12)
            clear hM12 hW12
            go_wp2_with fail
            go_ret2
            exact ⟨⟨M, _, _, _, rfl, by have := HWS.out; omega, HF.out.1⟩, hW0.trans (HF.out.2.mono hW0.size)⟩

end

section
abbrev insL (x0 d im : Int) : List Value := [.int .u8 x0, .int .u8 d, .int .u8 0, .int .i16 0, .int .i32 im]
abbrev whatL (op : Int) (wd : Bool) : List Value := [.int .u8 1, .int .u8 op, .bool wd, .bool false, .bool false, .int .i64 0]
theorem box2 (w : World) (xs ys : List Value) (t u : TypeId) : Below w.heap.size w ((w.alloc (.cells xs.toArray t)).alloc (.cells ys.toArray u)) ∧
    (∀ w', Below ((w.alloc (.cells xs.toArray t)).alloc (.cells ys.toArray u)).heap.size ((w.alloc (.cells xs.toArray t)).alloc (.cells ys.toArray u)) w' → ∀ k v, xs[k]? = some v → w'.cell? ⟨w.heap.size, k, none⟩ = some v) ∧
    (∀ w', Below ((w.alloc (.cells xs.toArray t)).alloc (.cells ys.toArray u)).heap.size ((w.alloc (.cells xs.toArray t)).alloc (.cells ys.toArray u)) w' → ∀ k v, ys[k]? = some v → w'.cell? ⟨w.heap.size + 1, k, none⟩ = some v) :=
  ⟨below_boxes2 _ _ _, fun w' h k v hv => boxc (heap2_0 w _ _) (by simpa using hv) w' h, fun w' h k v hv => boxc (heap2_1 w _ _) (by simpa using hv) w' h⟩
set_option maxRecDepth 100000 in
theorem rsecond11 (M : Nat) (x0 d im op : Int) (wd : Bool) (h0 : -2147483648 ≤ im) (h1 : im ≤ 2147483647) (w : World) :
    Calls Tryz.prog 57 #[.pointer (some ⟨M, 0, none⟩), .agg (insL x0 d im).toArray, .agg (whatL op wd).toArray] w fun e w' => e = .returned (.tuple #[.int .u64 (immU im), .bool true]) ∧ Below w.heap.size w w' := by
  have hi := rimm11 x0 d 0 0 im h0 h1
  obtain ⟨hW0, hx, hy⟩ := box2 w (insL x0 d im) (whatL op wd) 27 73
  have x0_ := fun w' h => hx w' h 0 _ rfl
  have x1_ := fun w' h => hx w' h 1 _ rfl
  have x2_ := fun w' h => hx w' h 2 _ rfl
  have x3_ := fun w' h => hx w' h 3 _ rfl
  have x4_ := fun w' h => hx w' h 4 _ rfl
  have y3_ := fun w' h => hy w' h 3 _ rfl
  clear hx hy
  have HI : sign32 (im % 4294967296) = immU im := rfl
  rw [HI] at hi
  clear HI
  generalize immU im = n at *
  go_enter Tryz.func57, Tryz.ntmps57
  go_upto_region 1 with fail
  generalize (w.alloc (.cells (insL x0 d im).toArray 27)).alloc (.cells (whatL op wd).toArray 73) = W at *
  have hrW := Below.refl W.heap.size W
  have a0 := x0_ _ hrW
  have a1 := x1_ _ hrW
  have a2 := x2_ _ hrW
  have a3 := x3_ _ hrW
  have a4 := x4_ _ hrW
  have b3 := y3_ _ hrW
  clear x0_ x1_ x2_ x3_ x4_ y3_
  go_wp2_with fail
  refine (hi _).mono ?_
  rintro e w1 ⟨rfl, hc1⟩
  have hb1 := hW0.trans (hc1.mono hW0.size)
  clear hc1
  go_wp2_with fail
  go_ret2
  exact ⟨rfl, hb1⟩

end

section
set_option maxRecDepth 100000 in
set_option maxHeartbeats 2000000 in
theorem rarith11 (M : Nat) (K : List Value) (hK : K.length = 32) (x0 im op : Int) (d : Nat) (hd : d < 11) (wd : Bool) (hop : OpOk op) (h0 : -2147483648 ≤ im) (h1 : im ≤ 2147483647) (a : Int) (ha : U64 a) (s : Bool)
    (hka : K[1 + d]? = some (.int .u64 a)) (hks : K[12 + d]? = some (.bool s)) (hs : s = true ∨ op = 176) (w : World) (hb : Blk w M K) :
    Calls Tryz.prog 51 #[.pointer (some ⟨M, 0, none⟩), .agg (insL x0 d im).toArray, .agg (whatL op wd).toArray] w fun e w' => e = .returned (.int .i64 0) ∧ Blk w' M ((K.set (1 + d) (.int .u64 (doM op wd a (immU im)))).set (12 + d) (.bool true)) ∧ Kept (fun k => k = M) w w' := by
  have hse := rsecond11 M x0 d im op wd h0 h1
  have hdo := fun w => rdo_any op hop wd a (immU im) ha (immU_u64 im) w
  generalize doM op wd a (immU im) = n at *
  have hst := fun w1 (h : Blk w1 M K) => rset11 M K hK d hd n w1 h
  obtain ⟨hW0, hx, hy⟩ := box2 w (insL x0 d im) (whatL op wd) 27 73
  have x0_ := fun w' h => hx w' h 0 _ rfl
  have x1_ := fun w' h => hx w' h 1 _ rfl
  have x2_ := fun w' h => hx w' h 2 _ rfl
  have x3_ := fun w' h => hx w' h 3 _ rfl
  have x4_ := fun w' h => hx w' h 4 _ rfl
  have y0_ := fun w' h => hy w' h 0 _ rfl
  have y1_ := fun w' h => hy w' h 1 _ rfl
  have y2_ := fun w' h => hy w' h 2 _ rfl
  have y3_ := fun w' h => hy w' h 3 _ rfl
  have y4_ := fun w' h => hy w' h 4 _ rfl
  have y5_ := fun w' h => hy w' h 5 _ rfl
  clear hx hy
  have hdi : (d : Int) < 11 := by omega
  have hop8 : ¬ op = 128 := by unfold OpOk at hop; omega
  have hop8b : (op == 128) = false := by simpa using hop8
  have hbW := hb.below hW0
  have hmR : ∀ w', Below ((w.alloc (.cells (insL x0 d im).toArray 27)).alloc (.cells (whatL op wd).toArray 73)).heap.size ((w.alloc (.cells (insL x0 d im).toArray 27)).alloc (.cells (whatL op wd).toArray 73)) w' → w'.cell? ⟨M, 1 + d, none⟩ = some (.int .u64 a) := fun w' h => (hbW.below h).cell hka
  have hmS : ∀ w', Below ((w.alloc (.cells (insL x0 d im).toArray 27)).alloc (.cells (whatL op wd).toArray 73)).heap.size ((w.alloc (.cells (insL x0 d im).toArray 27)).alloc (.cells (whatL op wd).toArray 73)) w' → w'.cell? ⟨M, 12 + d, none⟩ = some (.bool s) := fun w' h => (hbW.below h).cell hks
  have HO := Lib.hid hop
  clear hop hka hks
  go_enter Tryz.func51, Tryz.ntmps51
  go_upto_region 1 with fail
  generalize (w.alloc (.cells (insL x0 d im).toArray 27)).alloc (.cells (whatL op wd).toArray 73) = W at *
  have hrW := Below.refl W.heap.size W
  have a0 := x0_ _ hrW
  have a1 := x1_ _ hrW
  have a2 := x2_ _ hrW
  have a3 := x3_ _ hrW
  have a4 := x4_ _ hrW
  have b0 := y0_ _ hrW
  have b1 := y1_ _ hrW
  have b2 := y2_ _ hrW
  have b3 := y3_ _ hrW
  have b4 := y4_ _ hrW
  have b5 := y5_ _ hrW
  go_wp2_with fail
  refine (hse _).mono ?_
  rintro e w1 ⟨rfl, hc1⟩
  have hb1 : Below W.heap.size W w1 := hc1
  clear hc1 hse a0 a1 a2 a3 a4 b0 b1 b2 b3 b4 b5
  have B1 := y1_ _ hb1
  have A1 := x1_ _ hb1
  have MS := hmS _ hb1
  have MR := hmR _ hb1
  have B2 := y2_ _ hb1
  have A3 := x3_ _ hb1
  go_upto_region 2 with fail
  by_cases hop6 : op = 176
  · subst hop6
    go_quiet (fail)
    rename_i nq
    clear B1 A1 MS MR B2 A3
    have hb2 : Below W.heap.size W (w1.drewN nq) := below_drewN hb1 nq
    generalize w1.drewN nq = w2 at *
    have B1 := y1_ _ hb2
    have A1 := x1_ _ hb2
    go_upto_region 6 with fail
    go_region_held3 (fun w' => Below W.heap.size W w') (first | assumption | exact sbelow_drew (by assumption)) (first | (go_at_call 80; refine (hdo _).mono ?_; rintro e w3 ⟨rfl, hc3⟩; have hS3 : Below W.heap.size W w3 := (below_step (by assumption) (Nat.le_refl _) hc3)))
    all_goals
      have hbk := (hbW.below hS3)
      have C1 := x1_ _ hS3
      go_wp2_with fail
      refine (hst _ hbk).mono ?_
      rintro e w4 ⟨rfl, hb4, hk4⟩
      have hkw : Kept (fun k => k = M) w w4 := (Kept.of (hW0.trans (hS3.mono hW0.size)) (Nat.le_refl _)).trans hk4 (fun _ _ h => h)
      clear hk4
      have HF := Lib.hid (And.intro hb4 hkw)
      clear hb4 hkw
      go_wp2_with fail
      go_ret
      exact ⟨rfl, HF.out⟩
  · have hs2 : s = true := by rcases hs with h | h; exact h; exact absurd h hop6
    subst hs2
    have hop6b : (op == 176) = false := by simpa using hop6
    go_quiet (fail)
    rename_i nq
    clear B1 A1 MS MR B2 A3
    have hb2 : Below W.heap.size W (w1.drewN nq) := below_drewN hb1 nq
    generalize w1.drewN nq = w2 at *
    have B1 := y1_ _ hb2
    have A1 := x1_ _ hb2
    go_upto_region 6 with fail
    go_region_held3 (fun w' => Below W.heap.size W w') (first | assumption | exact sbelow_drew (by assumption)) (first | (go_at_call 80; refine (hdo _).mono ?_; rintro e w3 ⟨rfl, hc3⟩; have hS3 : Below W.heap.size W w3 := (below_step (by assumption) (Nat.le_refl _) hc3)))
    all_goals
      have hbk := (hbW.below hS3)
      have C1 := x1_ _ hS3
      go_wp2_with fail
      refine (hst _ hbk).mono ?_
      rintro e w4 ⟨rfl, hb4, hk4⟩
      have hkw : Kept (fun k => k = M) w w4 := (Kept.of (hW0.trans (hS3.mono hW0.size)) (Nat.le_refl _)).trans hk4 (fun _ _ h => h)
      clear hk4
      have HF := Lib.hid (And.intro hb4 hkw)
      clear hb4 hkw
      go_wp2_with fail
      go_ret
      exact ⟨rfl, HF.out⟩

end

section
set_option maxRecDepth 100000 in
set_option maxHeartbeats 2000000 in
theorem rdoes11 {p q : List Insn} (hp : Line p q) (Ad : Option Addr) (c j : Nat) (hj : j < q.length) (M : Nat) (K : List Value) (hK : K.length = 32) (hL : K[0]? = some (.slice Ad p.length c)) (hP : K[27]? = some (.int .i64 j))
    (x0 im op : Int) (d : Nat) (hd : d < 11) (wd : Bool) (hop : OpOk op) (h0 : -2147483648 ≤ im) (h1 : im ≤ 2147483647) (a : Int) (ha : U64 a) (s : Bool)
    (hka : K[1 + d]? = some (.int .u64 a)) (hks : K[12 + d]? = some (.bool s)) (hs : s = true ∨ op = 176) (w : World) (hat : SAt w w.heap.size 5 Ad p.length (insnsV p)) (hb : Blk w M K) :
    Calls Tryz.prog 27 #[.pointer (some ⟨M, 0, none⟩), .agg (insL x0 d im).toArray, .agg (whatL op wd).toArray] w fun e w' => e = .returned (.tuple #[.int .i64 ((j : Int) + 1), .int .i64 0]) ∧ Blk w' M ((K.set (1 + d) (.int .u64 (doM op wd a (immU im)))).set (12 + d) (.bool true)) ∧ Kept (fun k => k = M) w w' := by
  have hlen_ : p.length ≤ 100000 := by rw [hp.len]; have := hp.few; omega
  have hjp : j < p.length := by rw [hp.len]; omega
  have hnx : ∀ w1, Below w.heap.size w w1 → Calls Tryz.prog 30 #[.slice Ad p.length c, .int .i64 j] w1 fun e w' => e = .returned (.int .i64 ((j : Int) + 1)) ∧ Below w1.heap.size w1 w' := fun w1 h => by
    have := rnext_at p Ad c j hlen_ hjp w w1 hat h
    rw [hp.step j] at this
    exact this
  have har := fun w1 h => rarith11 M K hK x0 im op d hd wd hop h0 h1 a ha s hka hks hs w1 h
  obtain ⟨hW0, hx, hy⟩ := box2 w (insL x0 d im) (whatL op wd) 27 73
  have x0_ := fun w' h => hx w' h 0 _ rfl
  have x1_ := fun w' h => hx w' h 1 _ rfl
  have x2_ := fun w' h => hx w' h 2 _ rfl
  have x3_ := fun w' h => hx w' h 3 _ rfl
  have x4_ := fun w' h => hx w' h 4 _ rfl
  have y0_ := fun w' h => hy w' h 0 _ rfl
  have y1_ := fun w' h => hy w' h 1 _ rfl
  have y2_ := fun w' h => hy w' h 2 _ rfl
  have y3_ := fun w' h => hy w' h 3 _ rfl
  have y4_ := fun w' h => hy w' h 4 _ rfl
  have y5_ := fun w' h => hy w' h 5 _ rfl
  clear hx hy
  have hbW := hb.below hW0
  have hjm : (j : Int) ≤ 50 := by have := hp.few; omega
  generalize hK2 : (K.set (1 + d) (.int .u64 (doM op wd a (immU im)))).set (12 + d) (.bool true) = K2 at *
  clear hK2 hp hka hks hs hop
  go_enter Tryz.func27, Tryz.ntmps27
  go_upto_region 1 with fail
  generalize (w.alloc (.cells (insL x0 d im).toArray 27)).alloc (.cells (whatL op wd).toArray 73) = W at *
  have hrW := Below.refl W.heap.size W
  have l0 : ∀ w', Below W.heap.size W w' → w'.cell? ⟨M, 0, none⟩ = some (.slice Ad p.length c) := fun w' h => (hbW.below h).cell hL
  have l27 : ∀ w', Below W.heap.size W w' → w'.cell? ⟨M, 27, none⟩ = some (.int .i64 j) := fun w' h => (hbW.below h).cell hP
  go_region_held3 (fun w' => Below W.heap.size W w') (first | assumption | exact sbelow_drew (by assumption)) (first | (go_at_call 30; refine (hnx _ (hW0.trans ((sbelow_drew hrW).mono hW0.size))).mono ?_; rintro e w3 ⟨rfl, hc3⟩; have hS3 : Below W.heap.size W w3 := (below_step (sbelow_drew hrW) (Nat.le_refl _) hc3)))
  all_goals
    have hbk := (hbW.below hS3)
    have a0 := x0_ _ hS3
    have a1 := x1_ _ hS3
    have a2 := x2_ _ hS3
    have a3 := x3_ _ hS3
    have a4 := x4_ _ hS3
    have b0 := y0_ _ hS3
    have b1 := y1_ _ hS3
    have b2 := y2_ _ hS3
    have b3 := y3_ _ hS3
    have b4 := y4_ _ hS3
    have b5 := y5_ _ hS3
    clear l0 l27 hnx hbW x0_ x1_ x2_ x3_ x4_ y0_ y1_ y2_ y3_ y4_ y5_
    go_wp2_with fail
    refine (har _ hbk).mono ?_
    rintro e w4 ⟨rfl, hb4, hk4⟩
    have hkw : Kept (fun k => k = M) w w4 := (Kept.of (hW0.trans (hS3.mono hW0.size)) (Nat.le_refl _)).trans hk4 (fun _ _ h => h)
    clear hk4
    have HF := Lib.hid (And.intro hb4 hkw)
    clear hb4 hkw
    go_wp2_with fail
    go_ret2
    exact ⟨rfl, HF.out⟩

end

section
set_option maxRecDepth 100000 in
set_option maxHeartbeats 2000000 in
theorem rstep11 {p q : List Insn} (hp : Line p q) (Ad : Option Addr) (c j : Nat) (hj : j < q.length) (M : Nat) (K : List Value) (hK : K.length = 32) (hL : K[0]? = some (.slice Ad p.length c)) (hP : K[27]? = some (.int .i64 j)) (hO : K[28]? = some (.bool false)) (hT : K[30]? = some (.int .i64 j))
    (d : Nat) (hd : d < 11) (hdd : (at' p j).dst = d) (a : Int) (ha : U64 a) (s : Bool)
    (hka : K[1 + d]? = some (.int .u64 a)) (hks : K[12 + d]? = some (.bool s)) (hs : s = true ∨ opG (at' p j) = 176) (w : World) (hat : SAt w w.heap.size 5 Ad p.length (insnsV p)) (hMA : ∀ b o, Ad = some ⟨b, o, none⟩ → b ≠ M) (hb : Blk w M K) :
    Calls Tryz.prog 8 #[.pointer (some ⟨M, 0, none⟩)] w fun e w' => e = .returned (.int .i64 0) ∧ Blk w' M ((((K.set (1 + d) (.int .u64 (doM (opG (at' p j)) (opW (at' p j)) a (immU (at' p j).imm)))).set (12 + d) (.bool true)).set 27 (.int .i64 ((j : Int) + 1))).set 30 (.int .i64 ((j : Int) + 1))) ∧ Kept (fun k => k = M) w w' := by
  have hjp : j < p.length := by rw [hp.len]; omega
  have hx := hp.lin_at hj
  have hdo := fun w1 (hat1 : SAt w1 w1.heap.size 5 Ad p.length (insnsV p)) h => rdoes11 hp Ad c j hj M K hK hL hP (at' p j).op (at' p j).imm (opG (at' p j)) d hd (opW (at' p j)) hx.opOk hx.imm0 hx.imm1 a ha s hka hks hs w1 hat1 h
  have hse := fun (w1 : World) => rsem_any (at' p j) hx.ok w1
  rw [hx.sem_eq] at hse
  have hval : (at' p j).val = .agg (insL (at' p j).op d (at' p j).imm).toArray := by
    show Value.agg #[.int .u8 (at' p j).op, .int .u8 (at' p j).dst, .int .u8 (at' p j).src, .int .i16 (at' p j).off, .int .i32 (at' p j).imm] = _
    rw [hdd, hx.src, hx.off]
  rw [hval] at hse
  obtain ⟨b, o, rfl, hbb, D0, D1, D2, D3, D4⟩ := hat.insn (l := p) (k := j) hjp
  rw [hdd] at D1
  rw [hx.src] at D2
  rw [hx.off] at D3
  have hjm : (j : Int) < (p.length : Int) := by omega
  have hj50 : (j : Int) ≤ 50 := by have := hp.few; omega
  have hbM := hMA b o rfl
  have hl2 : ((K.set (1 + d) (.int .u64 (doM (opG (at' p j)) (opW (at' p j)) a (immU (at' p j).imm)))).set (12 + d) (.bool true)).length = 32 := by simp [hK]
  have h27 : ((K.set (1 + d) (.int .u64 (doM (opG (at' p j)) (opW (at' p j)) a (immU (at' p j).imm)))).set (12 + d) (.bool true))[27]? = some (.int .i64 j) := by rw [List.getElem?_set_ne (by omega), List.getElem?_set_ne (by omega)]; exact hP
  have h30 : ((K.set (1 + d) (.int .u64 (doM (opG (at' p j)) (opW (at' p j)) a (immU (at' p j).imm)))).set (12 + d) (.bool true))[30]? = some (.int .i64 j) := by rw [List.getElem?_set_ne (by omega), List.getElem?_set_ne (by omega)]; exact hT
  generalize hK2 : (K.set (1 + d) (.int .u64 (doM (opG (at' p j)) (opW (at' p j)) a (immU (at' p j).imm)))).set (12 + d) (.bool true) = K2 at *
  clear hK2 hval hka hks hs hdd hx hMA
  generalize (at' p j).op = x0 at *
  generalize (at' p j).imm = im at *
  generalize hopg : opG (at' p j) = op at *
  generalize hopw : opW (at' p j) = wd at *
  clear hopg hopw
  have hlM := hb.lt
  have HPL := Lib.hid hp
  clear hp
  have l0 : ∀ w', Below w.heap.size w w' → w'.cell? ⟨M, 0, none⟩ = some (.slice (some ⟨b, o, none⟩) p.length c) := fun w' h => (hb.below h).cell hL
  have l27 : ∀ w', Below w.heap.size w w' → w'.cell? ⟨M, 27, none⟩ = some (.int .i64 j) := fun w' h => (hb.below h).cell hP
  have hrw := Below.refl w.heap.size w
  have l28 := hb.cell hO
  go_enter Tryz.func8, Tryz.ntmps8
  go_upto_region 3 with fail
  go_region_held3 (fun w' => Below w.heap.size w w') (first | assumption | exact sbelow_drew (by assumption) | exact sbelow_alloc (by assumption) (Nat.le_refl _) | exact sbelow_drew (sbelow_alloc hrw (Nat.le_refl _))) (skip)
  have hY : Below w.heap.size w (w.alloc (.cells (insL x0 d im).toArray 27)).drew := (below_boxes1 w _).drew
  have hz : ∀ w', Below (w.alloc (.cells (insL x0 d im).toArray 27)).drew.heap.size (w.alloc (.cells (insL x0 d im).toArray 27)).drew w' → ∀ k v, (insL x0 d im)[k]? = some v → w'.cell? ⟨w.heap.size, k, none⟩ = some v := fun w' h k v hv => boxc (W := (w.alloc (.cells (insL x0 d im).toArray 27)).drew) (heap1_0 w _) (by simpa using hv) w' h
  generalize (w.alloc (.cells (insL x0 d im).toArray 27)).drew = Y at *
  have hrY := Below.refl Y.heap.size Y
  have z0 := fun w' h => hz w' h 0 _ rfl
  have z1 := fun w' h => hz w' h 1 _ rfl
  have z2 := fun w' h => hz w' h 2 _ rfl
  have z3 := fun w' h => hz w' h 3 _ rfl
  have z4 := fun w' h => hz w' h 4 _ rfl
  clear hz
  have a0 := z0 _ hrY
  have a1 := z1 _ hrY
  have a2 := z2 _ hrY
  have a3 := z3 _ hrY
  have a4 := z4 _ hrY
  go_wp2_with fail
  refine (hse _).mono ?_
  rintro e w1 ⟨rfl, hc1⟩
  have hb1 : Below Y.heap.size Y w1 := hc1
  clear hc1 a0 a1 a2 a3 a4
  go_upto_region 5 with fail
  have hb2 : Below Y.heap.size Y (w1.alloc (.cells (whatL op wd).toArray 73)) := hb1.alloc hb1.size _
  have hv := fun k v (hv : (whatL op wd)[k]? = some v) => boxc (k := k) (heap1_0 w1 (.cells (whatL op wd).toArray 73)) (by simpa using hv) _ (Below.refl _ _)
  have b0 := hv 0 _ rfl
  have b1 := hv 1 _ rfl
  have b2 := hv 2 _ rfl
  have b3 := hv 3 _ rfl
  have b4 := hv 4 _ rfl
  have b5 := hv 5 _ rfl
  clear hv
  generalize w1.alloc (.cells (whatL op wd).toArray 73) = U at *
  have a0 := z0 _ hb2
  have a1 := z1 _ hb2
  have a2 := z2 _ hb2
  have a3 := z3 _ hb2
  have a4 := z4 _ hb2
  have hbw := hY.trans (hb2.mono hY.size)
  have hbU := hb.below hbw
  have hatU := (hat.below hbw).more hbw.size
  go_wp2_with fail
  refine (hdo _ hatU hbU).mono ?_
  rintro e w2 ⟨rfl, hb3, hk3⟩
  have hkw : Kept (fun k => k = M) w w2 := (Kept.of hbw (Nat.le_refl _)).trans hk3 (fun _ _ h => h)
  clear hk3 hbU hatU hdo hse l0 l27 l28 z0 z1 z2 z3 z4 a0 a1 a2 a3 a4 b0 b1 b2 b3 b4 b5 D0 D1 D2 D3 D4
  have c27 := hb3.cell h27
  have f27 := hb3.free 27
  have hb4 := hb3.set (k := 27) (by omega) (.int .i64 ((j : Int) + 1))
  have c30 := hb4.cell (k := 30) (by rw [List.getElem?_set_ne (by omega)]; exact h30)
  have f30 := hb4.free 30
  have hb5 := hb4.set (k := 30) (by rw [List.length_set]; omega) (.int .i64 ((j : Int) + 1))
  have hk5 : Kept (fun k => k = M) w ((w2.setCell ⟨M, 27, none⟩ (.int .i64 ((j : Int) + 1))).setCell ⟨M, 30, none⟩ (.int .i64 ((j : Int) + 1))) := Kept.set (X := fun k => k = M) (Kept.set (X := fun k => k = M) hkw rfl) rfl
  have HF := Lib.hid (And.intro hb5 hk5)
  clear hb3 hb4 hb5 hk5 hkw hb hat hbw hb1 hb2 hY hrY
  go_wp2_with fail
  go_ret
  exact ⟨rfl, HF.out⟩

end
end Go.Proofs.YtncogaikiceidaaGreat
