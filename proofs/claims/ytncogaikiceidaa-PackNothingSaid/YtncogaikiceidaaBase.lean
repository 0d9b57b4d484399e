/- The base of this seat's proofs: instructions as data, slices as lists of cells, and laws for append over them. No statement is proved here. -/
import Derived.Test.YtncogaikiceidaaRows
import Derived.WalkKit
import Derived.WalkSpells
import Derived.WalkLawsBesides
import Derived.Deep.QuietTactic
import Derived.BigQuiet
import Derived.BigRegion
import Derived.Lib.Hide
import Derived.LoopTactic
import Derived.Deep.RegionHeld3
import Derived.Maps.AppendAt
import Derived.Laws.BytesArg
import Derived.Deep.Draws
namespace Go.Proofs.Ytncogaikiceidaa
open Go.RowKit

/-! ### Draws stand outermost -/
@[go_sem] theorem setCell_drewN (w : World) (n : Nat) (a : Addr) (v : Value) : (w.drewN n).setCell a v = (w.setCell a v).drewN n := rfl
theorem below_drewN {B : Nat} {a w : World} (h : Below B a w) (n : Nat) : Below B a (w.drewN n) := ⟨h.os, h.tape, h.output, h.size, h.block⟩

/-! ### Data -/
structure Insn where
  op : Int
  dst : Int
  src : Int
  off : Int
  imm : Int
deriving DecidableEq
structure Insn.Ok (x : Insn) : Prop where
  op0 : 0 ≤ x.op
  op1 : x.op ≤ 255
  dst0 : 0 ≤ x.dst
  dst1 : x.dst ≤ 255
  src0 : 0 ≤ x.src
  src1 : x.src ≤ 255
  off0 : -32768 ≤ x.off
  off1 : x.off ≤ 32767
  imm0 : -2147483648 ≤ x.imm
  imm1 : x.imm ≤ 2147483647
abbrev Insn.val (x : Insn) : Value := .agg #[.int .u8 x.op, .int .u8 x.dst, .int .u8 x.src, .int .i16 x.off, .int .i32 x.imm]
def Insn.cells (x : Insn) : List Value := [.int .u8 x.op, .int .u8 x.dst, .int .u8 x.src, .int .i16 x.off, .int .i32 x.imm]
def Insn.zero : Insn := ⟨0, 0, 0, 0, 0⟩
theorem Insn.zero_ok : Insn.zero.Ok := by constructor <;> decide
structure What where
  kind : Int
  op : Int
  wide : Bool
  reg : Bool
  sgn : Bool
  size : Int
deriving DecidableEq
abbrev What.val (x : What) : Value := .agg #[.int .u8 x.kind, .int .u8 x.op, .bool x.wide, .bool x.reg, .bool x.sgn, .int .i64 x.size]

/-! ### A slice value's parts, at a world -/
/-- n elements of 'size' cells each, which are xs, below block B. -/
def SAt (w : World) (B size : Nat) (A : Option Addr) (n : Nat) (xs : List Value) : Prop :=
  xs.length = n * size ∧ (0 < n → ∃ b o, A = some ⟨b, o, none⟩ ∧ b < B ∧ ∀ j u, xs[j]? = some u → w.cell? ⟨b, o + j, none⟩ = some u)

theorem addr_add (b o j : Nat) : (⟨b, o, none⟩ : Addr).add j = ⟨b, o + j, none⟩ := by
  unfold Addr.add; split
  · subst_vars; rfl
  · rfl

section
variable {w w' : World} {B B' size n : Nat} {A : Option Addr} {xs : List Value}
theorem SAt.nil_ : SAt w B size A 0 [] := ⟨by simp, fun h => absurd h (by omega)⟩
theorem SAt.kept (h : SAt w B size A n xs) (hk : ∀ b o, b < B → w'.cell? ⟨b, o, none⟩ = w.cell? ⟨b, o, none⟩) : SAt w' B size A n xs :=
  ⟨h.1, fun hn => by
    obtain ⟨b, o, e, hb, hc⟩ := h.2 hn
    exact ⟨b, o, e, hb, fun j u hu => (hk b _ hb).trans (hc j u hu)⟩⟩
theorem SAt.more (h : SAt w B size A n xs) (hB : B ≤ B') : SAt w B' size A n xs :=
  ⟨h.1, fun hn => by
    obtain ⟨b, o, e, hb, hc⟩ := h.2 hn
    exact ⟨b, o, e, by omega, hc⟩⟩
theorem SAt.below (h : SAt w B size A n xs) (hb : Below B w w') : SAt w' B size A n xs := h.kept fun _ _ hp => hb.cell hp
theorem SAt.alloc (h : SAt w B size A n xs) (hB : B ≤ w.heap.size) (o : Obj) : SAt (w.alloc o) B size A n xs := h.below ((Below.refl _ _).alloc hB o)
theorem SAt.own {base e c : Nat} (h : w.ownsRow base e size (.slice A n c) n xs) : SAt w w.heap.size size A n xs := by
  refine ⟨h.1, fun hn => ?_⟩
  rcases h.2 with ⟨_, h0⟩ | ⟨g, cap, cur, hv, hg, hh, hnc, hcm, hcs, htake⟩
  · omega
  · injection hv with hA
    subst hA
    refine ⟨g, 0, rfl, ?_, fun j u hu => ?_⟩
    · rcases Nat.lt_or_ge g w.heap.size with hlt | hge
      · exact hlt
      · rw [Array.getElem?_eq_none hge] at hh; cases hh
    · rw [cell_of_row w g (0 + j) cur e (0, 0) hh, Nat.zero_add, ← hu, ← htake]
      rw [List.getElem?_take]
      have hj : j < n * size := by
        have := h.1
        rcases Nat.lt_or_ge j xs.length with hl | hl
        · omega
        · rw [List.getElem?_eq_none hl] at hu; cases hu
      rw [if_pos hj]
      exact (Array.getElem?_toList).symm
theorem SAt.cut (h : SAt w B size A n xs) {k : Nat} (hk : k ≤ n) : SAt w B size A k (xs.take (k * size)) := by
  refine ⟨by rw [List.length_take, h.1]; exact Nat.min_eq_left (Nat.mul_le_mul_right _ hk), fun hn => ?_⟩
  obtain ⟨b, o, e, hb, hc⟩ := h.2 (by omega)
  refine ⟨b, o, e, hb, fun j u hu => hc j u ?_⟩
  rw [List.getElem?_take] at hu
  split at hu
  · exact hu
  · cases hu
end

/-! ### append -/
section
variable {P : Program} {ops : Array Oper} {rest : List Oper} {o : Oper} {a : Act} {Q : Exit → Act → World → Prop}

theorem own_slice {w : World} {base e size n : Nat} {v : Value} {xs : List Value} (h : w.ownsRow base e size v n xs) : ∃ A c, v = .slice A n c := by
  rcases h.2 with ⟨h, h0⟩ | ⟨g, cap, cur, hv, _⟩
  · exact ⟨_, _, by rw [h, h0]⟩
  · exact ⟨_, _, hv⟩

theorem below_of_grown {base : Nat} {w w1 : World} {row : Option Nat} (hg : w.grownBy w1 row) (hb : base ≤ w.heap.size) (hr : ∀ k, row = some k → base ≤ k) : Below base w w1 :=
  (Below.refl _ _).grown hg hb hr

/-- 'v = append(v, xs...)': v a row of the call's own, xs whatever slice. -/
theorem wpList_append_sat (hgd : o.guard = none) (s x : Operand) (t : TypeId)
    (ho : o.op = .call { callee := .builtin .append, args := #[s, x], argTypes := #[t, t] })
    (base : Nat) (e : TypeId) (i : TypeInfo) (z : Value) (size bytes : Nat) (ht : P.underlying t = some (.slice e)) (hi : P.info? e = some i) (hz : i.zero = some z)
    (hsize : i.size = size) (hby : i.bytes = bytes) (hzs : z.cells.size = size) (hsz : 0 < size)
    {w : World} (A : Option Addr) (n c : Nat) (xs : List Value) (hs : a.eval s = .slice A n c) (hown : w.ownsRow base e size (.slice A n c) n xs)
    (B : Nat) (Ax : Option Addr) (m cx : Nat) (news : List Value) (hx : a.eval x = .slice Ax m cx) (hat : SAt w B size Ax m news) (h1 : ∀ u ∈ news, u.oneCell' = true)
    (h63 : n + m ≤ maxLen) (hbytes : (n + m) * bytes ≤ 140737488355328) (hbase : base ≤ w.heap.size)
    (h : ∀ A' c' w1, w1.ownsRow base e size (.slice A' (n + m) c') (n + m) (xs ++ news) → w.grownBy w1 (Value.slice A n c).ownBlock → Below base w w1 →
      ((Value.slice A' (n + m) c').ownBlock = (Value.slice A n c).ownBlock ∨ (Value.slice A' (n + m) c').ownBlock = some w.heap.size) → wpList P ops Q rest (a.put o.dst (.slice A' (n + m) c')) w1) : wpList P ops Q (o :: rest) a w := by
  refine wpList_plain hgd fun K hK => ?_
  have hlt := hown.lt
  rcases Nat.eq_zero_or_pos m with hm | hm
  · subst hm
    have hn : news = [] := List.eq_nil_of_length_eq_zero (by simpa using hat.1)
    subst hn
    have hrun : (Builtin.append_ #[t, t] o.type #[.slice A n c, .slice Ax 0 cx]).run P w = .ok (.slice A n c) w := by
      rcases hown.2 with ⟨hv, rfl⟩ | ⟨g, cap, cur, hv, _, _, hnc, _⟩
      · injection hv with hA _ hc
        subst hA hc
        cases Ax <;> simp [Builtin.append_, run_underlying ht, sizeOf, typeInfo, hi, Builtin.lenOf, Builtin.firstCells, loadCells, loadCellsFrom]
      · injection hv with hA _ hc
        subst hA hc
        cases Ax <;> simp [Builtin.append_, run_underlying ht, sizeOf, typeInfo, hi, Builtin.lenOf, Builtin.firstCells, hnc, storeCells, loadCells, loadCellsFrom]
    unfold Oper.wp execOp
    simp only [ho, resolve, invoke, builtin, Sem.run_bind, Sem.run_pure, Result.andThen_ok, List.map_toArray, List.map_cons, List.map_nil, hs, hx, hrun]
    exact hK _ _ (h A c w (by simpa using hown) (World.grownBy.refl w _) (Below.refl _ _) (.inl rfl))
  · obtain ⟨b, off, rfl, hb, hc⟩ := hat.2 hm
    obtain ⟨v', w1, hrun, h2, h3, _, h5⟩ := run_append_own_at (P := P) w base t o.type e i z size bytes ht hi hz hsize hby hzs hsz _ n xs hown ⟨b, off, none⟩ m cx news hat.1
      (fun j u hu => by rw [addr_add]; exact hc j u hu) h1 h63 hbytes hbase
    obtain ⟨A', c', rfl⟩ := own_slice h2
    unfold Oper.wp execOp
    simp only [ho, resolve, invoke, builtin, Sem.run_bind, Sem.run_pure, Result.andThen_ok, List.map_toArray, List.map_cons, List.map_nil, hs, hx, hrun]
    exact hK _ _ (h A' c' w1 h2 h3 (below_of_grown h3 hbase fun k hk => (hlt k hk).1) h5)

theorem sat_new (wr : World) (E : TypeId) (news : Array Value) (size m : Nat) (hl : news.size = m * size) : SAt (wr.alloc (.cells news E)) (wr.heap.size + 1) size (some ⟨wr.heap.size, 0, none⟩) m news.toList := by
  refine ⟨by simpa using hl, fun _ => ⟨_, _, rfl, by omega, fun j u hu => ?_⟩⟩
  rw [cell_of_row _ _ _ news E (0, 0) (heap_alloc_new wr _), Nat.zero_add, ← hu]
  exact (Array.getElem?_toList).symm

/-- 'v = append(v, x)': the one element lies in the block that was laid just now. -/
theorem wpList_append_box (hgd : o.guard = none) (s x : Operand) (t : TypeId)
    (ho : o.op = .call { callee := .builtin .append, args := #[s, x], argTypes := #[t, t] })
    (base : Nat) (e : TypeId) (i : TypeInfo) (z : Value) (size bytes : Nat) (ht : P.underlying t = some (.slice e)) (hi : P.info? e = some i) (hz : i.zero = some z)
    (hsize : i.size = size) (hby : i.bytes = bytes) (hzs : z.cells.size = size) (hsz : 0 < size)
    {wr : World} {E : TypeId} {news : Array Value} (A : Option Addr) (n c m : Nat) (xs : List Value) (hs : a.eval s = .slice A n c) {g : Nat} (hx : a.eval x = .slice (some ⟨g, 0, none⟩) m m) (hgs : wr.heap.size = g)
    (hown : wr.ownsRow base e size (.slice A n c) n xs) (hl : news.size = m * size) (h1 : ∀ u ∈ news.toList, u.oneCell' = true)
    (h63 : n + m ≤ maxLen) (hbytes : (n + m) * bytes ≤ 140737488355328) (hbase : base ≤ wr.heap.size)
    (h : ∀ A' c' w1, w1.ownsRow base e size (.slice A' (n + m) c') (n + m) (xs ++ news.toList) → wr.grownBy w1 (Value.slice A n c).ownBlock → Below base wr w1 →
      ((Value.slice A' (n + m) c').ownBlock = (Value.slice A n c).ownBlock ∨ (Value.slice A' (n + m) c').ownBlock = some (wr.heap.size + 1)) → wpList P ops Q rest (a.put o.dst (.slice A' (n + m) c')) w1) :
    wpList P ops Q (o :: rest) a (wr.alloc (.cells news E)) := by
  subst hgs
  refine wpList_append_sat hgd s x t ho base e i z size bytes ht hi hz hsize hby hzs hsz A n c xs hs (hown.alloc _) _ _ m m news.toList hx (sat_new wr E news size m hl) h1 h63 hbytes (by simp; omega) ?_
  intro A' c' w1 h2 h3 h4 h5
  refine h A' c' w1 h2 ⟨h3.os, h3.tape, h3.output, Nat.le_trans (by simp) h3.size, fun k hk hne => ?_⟩ (((Below.refl _ _).alloc hbase _).trans h4) (by simpa using h5)
  rw [h3.block k (by simp; omega) hne]
  exact Below.heap_alloc wr _ k hk
end

theorem own_new (w : World) (g : Nat) (news : Array Value) (E : TypeId) (size n cap base : Nat) (hg : w.heap.size = g) (hb : base ≤ g) (hn : n ≤ cap) (hm : cap ≤ maxLen) (hs : news.size = cap * size) :
    (w.alloc (.cells news E)).ownsRow base E size (.slice (some ⟨g, 0, none⟩) n cap) n (news.toList.take (n * size)) := by
  subst hg
  refine ⟨?_, .inr ⟨w.heap.size, cap, news, rfl, hb, heap_alloc_new w _, hn, hm, hs, rfl⟩⟩
  rw [List.length_take, Array.length_toList, hs]
  exact Nat.min_eq_left (Nat.mul_le_mul_right _ hn)
theorem own_mono {w : World} {base base' e size : Nat} {v : Value} {n : Nat} {xs : List Value} (hb : base' ≤ base) (h : w.ownsRow base e size v n xs) : w.ownsRow base' e size v n xs := by
  obtain ⟨h1, h2⟩ := h
  refine ⟨h1, h2.imp id ?_⟩
  rintro ⟨g, cap, cur, hv, hg, r⟩
  exact ⟨g, cap, cur, hv, by omega, r⟩

/-! ### string(bytes) -/
def bytesV (l : List Int) : List Value := l.map (Value.int .u8)
theorem run_string_sat {P : Program} {w : World} {B : Nat} {A : Option Addr} {n c : Nat} (l : List Int) (h : SAt w B 1 A n (bytesV l)) (src dst e : TypeId) (hs : P.underlying src = some (.slice e)) (he : P.underlying e = some (.int .u8)) (hd : P.underlying dst = some .string) :
    (convert src dst (.slice A n c)).run P w = .ok (.string (strOfNums l)) w := by
  have hl : l.length = n := by have := h.1; simpa [bytesV] using this
  rcases Nat.eq_zero_or_pos n with hn | hn
  · subst hn
    have : l = [] := List.eq_nil_of_length_eq_zero hl
    subst this
    cases A with
    | none => exact run_convert_bytes_nil w src e hs he 0 c dst hd
    | some ad =>
      rw [run_convert_bytes_string w src dst e _ 0 c hs he hd, run_bytesToString w _ 0 c [] (by simp [loadCells, loadCellsFrom])]
      rfl
  · obtain ⟨b, o, rfl, _, hc⟩ := h.2 hn
    refine run_convert_bytes_arg w src e hs he b o n c l hl (fun i hi => ?_) dst hd
    refine hc i _ ?_
    simp [bytesV, List.getD, List.getElem?_eq_getElem (show i < l.length by omega)]
end Go.Proofs.Ytncogaikiceidaa
