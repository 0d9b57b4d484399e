/- The heap: blocks, rows, what stays. No statement is proved here. -/
import Derived.Test.YtncogaikiceidaaBase
import Derived.Deep.Cut
import Derived.Deep.MidRow
import Derived.Deep.WholeRow
import Derived.Deep.RegionLaw
import Derived.Deep.OwnRows
import Derived.Deep.CutRange
import Derived.Deep.CutBlock
import Derived.Test.YtncogaikiceidaaHopE
import Derived.Test.YtncogaikiceidaaInsn1
section
namespace Go.Proofs.Ytncogaikiceidaa
open Go.RowKit
set_option linter.unusedSimpArgs false
set_option linter.unusedVariables false
set_option linter.unnecessarySimpa false
theorem blk_lt (w : World) (o : Obj) (k : Nat) (h : k < w.heap.size) : (w.alloc o).heap[k]? = w.heap[k]? := by
  show (w.heap.push o)[k]? = _
  rw [Array.getElem?_push, if_neg (by omega)]
theorem boxc {W : World} {g k : Nat} {cs : Array Value} {t : TypeId} {u : Value} (h : W.heap[g]? = some (.cells cs t)) (hu : cs[k]? = some u) : ∀ w', Below W.heap.size W w' → w'.cell? ⟨g, k, none⟩ = some u := by
  intro w' hb
  rw [hb.cell (p := ⟨g, k, none⟩) (Array.getElem?_eq_some_iff.1 h).1, cell_of_row W g k cs t (0, 0) h, hu]
theorem boxt {W : World} {g : Nat} {cs : Array Value} {t : TypeId} (h : W.heap[g]? = some (.cells cs t)) : ∀ (k : Nat) w', Below W.heap.size W w' → w'.frozen? ⟨g, k, none⟩ = false := by
  intro k w' hb
  rw [hb.frozen (p := ⟨g, k, none⟩) (Array.getElem?_eq_some_iff.1 h).1]
  exact frozen_of_row W g k cs t h
theorem below_boxes1 (w : World) (a : Obj) : Below w.heap.size w (w.alloc a) := (Below.refl _ _).alloc (Nat.le_refl _) _
theorem below_boxes2 (w : World) (a b : Obj) : Below w.heap.size w ((w.alloc a).alloc b) := (below_boxes1 w a).alloc (by simp) _
theorem heap1_0 (w : World) (a : Obj) : (w.alloc a).heap[w.heap.size]? = some a := heap_alloc_new w a
theorem heap2_0 (w : World) (a b : Obj) : ((w.alloc a).alloc b).heap[w.heap.size]? = some a := by rw [blk_lt _ _ _ (by simp)]; exact heap1_0 w a
theorem heap2_1 (w : World) (a b : Obj) : ((w.alloc a).alloc b).heap[w.heap.size + 1]? = some b := by have := heap_alloc_new (w.alloc a) b; simpa using this
section
variable {w Y : World}
theorem range_of_block {w : World} {b : Nat} {xs : List Value} {t : TypeId} (h : w.heap[b]? = some (.cells xs.toArray t)) : w.rangeAt b 0 xs := fun j v hv => by
  rw [cell_of_row w b _ _ t (0, 0) h]; simpa using hv
theorem range_put {W : World} {b : Nat} {A B C vs : List Value} (h : W.rangeAt b 0 (A ++ (B ++ C))) (hl : vs.length = B.length) : (W.setCells b A.length vs).rangeAt b 0 (A ++ (vs ++ C)) := by
  intro k u hu
  rw [Nat.zero_add]
  by_cases h1 : k < A.length
  · rw [List.getElem?_append_left h1] at hu
    rw [World.cell?_setCells_out b vs _ W _ (fun _ _ => .inl h1)]
    have := h k u (by rw [List.getElem?_append_left h1]; exact hu)
    rwa [Nat.zero_add] at this
  · rw [List.getElem?_append_right (by omega)] at hu
    by_cases h2 : k - A.length < vs.length
    · rw [List.getElem?_append_left h2] at hu
      have := World.cell?_setCells_in b vs A.length W (fun i hi => by
        have hg : (A ++ (B ++ C))[A.length + i]? = some (B[i]'(by omega)) := by
          rw [List.getElem?_append_right (by omega), show A.length + i - A.length = i by omega, List.getElem?_append_left (by omega), List.getElem?_eq_getElem]
        have := h _ _ hg
        rw [Nat.zero_add] at this
        rw [this]; rfl) (k - A.length) h2
      rw [show A.length + (k - A.length) = k by omega] at this
      rw [this, ← hu, List.getElem?_eq_getElem h2]
    · rw [List.getElem?_append_right (by omega)] at hu
      rw [World.cell?_setCells_out b vs _ W _ (fun _ _ => .inr (by show A.length + vs.length ≤ k; omega))]
      have := h k u (by rw [List.getElem?_append_right (by omega), List.getElem?_append_right (by omega), ← hl]; exact hu)
      rwa [Nat.zero_add] at this
theorem range_below {b : Nat} {cs : List Value} {D : Nat} (h : w.rangeAt b 0 cs) (hb : Below D w Y) (hlt : b < D) : Y.rangeAt b 0 cs := fun k u hu => by
  rw [hb.cell (p := ⟨b, 0 + k, none⟩) hlt]; exact h k u hu
end
/-- All blocks but those of X are as they were. -/
structure Kept (X : Nat → Prop) (w w' : World) : Prop where
  os : w'.os = w.os
  tape : w'.tape = w.tape
  output : w'.output = w.output
  size : w.heap.size ≤ w'.heap.size
  block : ∀ k, k < w.heap.size → ¬ X k → w'.heap[k]? = w.heap[k]?
section
variable {X X' : Nat → Prop} {w w1 w2 : World}
theorem Kept.refl : Kept X w w := ⟨rfl, rfl, rfl, Nat.le_refl _, fun _ _ _ => rfl⟩
theorem Kept.trans (h : Kept X w w1) (k : Kept X' w1 w2) (hx : ∀ i, i < w.heap.size → X' i → X i) : Kept X w w2 :=
  ⟨k.os.trans h.os, k.tape.trans h.tape, k.output.trans h.output, Nat.le_trans h.size k.size, fun i hi hn => (k.block i (Nat.lt_of_lt_of_le hi h.size) (fun e => hn (hx i hi e))).trans (h.block i hi hn)⟩
theorem Kept.of {B : Nat} (h : Below B w w1) (hB : w.heap.size ≤ B) : Kept X w w1 := ⟨h.os, h.tape, h.output, h.size, fun k hk _ => h.block k (Nat.lt_of_lt_of_le hk hB)⟩
theorem Kept.below {B : Nat} (h : Kept X w w1) (hx : ∀ k, X k → B ≤ k) (hB : B ≤ w.heap.size) : Below B w w1 := ⟨h.os, h.tape, h.output, h.size, fun k hk => h.block k (by omega) (fun e => by have := hx k e; omega)⟩
theorem Kept.set {a : Addr} {u : Value} (h : Kept X w w1) (hx : X a.block) : Kept X w (w1.setCell a u) :=
  ⟨h.os, h.tape, h.output, by simpa using h.size, fun k hk hn => (Below.heap_setCell _ _ _ _ (fun e => hn (by rw [e]; exact hx))).trans (h.block k hk hn)⟩
theorem Kept.drew (h : Kept X w w1) : Kept X w w1.drew := ⟨h.os, h.tape, h.output, h.size, h.block⟩
theorem Kept.cell (h : Kept X w w1) {b o : Nat} (hb : b < w.heap.size) (hx : ¬ X b) : w1.cell? ⟨b, o, none⟩ = w.cell? ⟨b, o, none⟩ := World.cell?_of_block (w := w) (a := ⟨b, o, none⟩) (h.block b hb hx)
theorem Kept.frozen (h : Kept X w w1) {b o : Nat} (hb : b < w.heap.size) (hx : ¬ X b) : w1.frozen? ⟨b, o, none⟩ = w.frozen? ⟨b, o, none⟩ := World.frozen?_of_block (w := w) (a := ⟨b, o, none⟩) (h.block b hb hx)
theorem own_kept {base e size n : Nat} {v : Value} {xs : List Value} (h : w.ownsRow base e size v n xs) (hk : Kept X w w1) (hx : ∀ k, v.ownBlock = some k → ¬ X k) : w1.ownsRow base e size v n xs := by
  obtain ⟨h1, h2⟩ := h
  refine ⟨h1, ?_⟩
  rcases h2 with h2 | ⟨g, cap, cur, rfl, hg, hh, r⟩
  · exact .inl h2
  · have hlt : g < w.heap.size := (Array.getElem?_eq_some_iff.1 hh).1
    exact .inr ⟨g, cap, cur, rfl, hg, (hk.block g hlt (hx g rfl)).trans hh, r⟩
end
/-- 'v = append(v, xs...)' as a step of a region that draws its order: which blocks turn. -/
theorem step_append_x {P : Program} {ops : Array Oper} {o : Oper} {a : Act} {K : Act → World → Prop} {Q : Exit → Act → World → Prop} {E : Prop} (hgd : o.guard = none) (s x : Operand) (t : TypeId)
    (ho : o.op = .call { callee := .builtin .append, args := #[s, x], argTypes := #[t, t] })
    (base : Nat) (e : TypeId) (i : TypeInfo) (z : Value) (size bytes : Nat) (ht : P.underlying t = some (.slice e)) (hi : P.info? e = some i) (hz : i.zero = some z)
    (hsize : i.size = size) (hby : i.bytes = bytes) (hzs : z.cells.size = size) (hsz : 0 < size)
    {w : World} (A : Option Addr) (n c : Nat) (xs : List Value) (hs : a.eval s = .slice A n c) (hown : w.ownsRow base e size (.slice A n c) n xs)
    (B : Nat) (Ax : Option Addr) (m cx : Nat) (news : List Value) (hx : a.eval x = .slice Ax m cx) (hat : SAt w B size Ax m news) (hm : 0 < m) (h1 : ∀ u ∈ news, u.oneCell' = true)
    (h63 : n + m ≤ maxLen) (hbytes : (n + m) * bytes ≤ 140737488355328) (hbase : base ≤ w.heap.size)
    (h : ∀ A' c' w1, w1.ownsRow base e size (.slice A' (n + m) c') (n + m) (xs ++ news) → w.grownBy w1 (Value.slice A n c).ownBlock →
      ((Value.slice A' (n + m) c').ownBlock = (Value.slice A n c).ownBlock ∨ (Value.slice A' (n + m) c').ownBlock = some w.heap.size) → K (a.put o.dst (.slice A' (n + m) c')) w1) :
    if Region.wanted o (yielded ops a.tmps) = true then Oper.wp P o a w K Q else E := by
  have hw : Region.wanted o (yielded ops a.tmps) = true := by simp [Region.wanted, hgd]
  rw [if_pos hw]
  obtain ⟨b, off, rfl, hb, hc⟩ := hat.2 hm
  obtain ⟨v', w1, hrun, h2, h3, _, h5⟩ := run_append_own_at (P := P) w base t o.type e i z size bytes ht hi hz hsize hby hzs hsz _ n xs hown ⟨b, off, none⟩ m cx news hat.1
    (fun j u hu => by rw [addr_add]; exact hc j u hu) h1 h63 hbytes hbase
  obtain ⟨A', c', rfl⟩ := own_slice h2
  unfold Oper.wp execOp
  simp only [ho, resolve, invoke, builtin, Sem.run_bind, Sem.run_pure, Result.andThen_ok, List.map_toArray, List.map_cons, List.map_nil, hs, hx, hrun]
  exact h A' c' w1 h2 h3 h5
theorem grown_kept {w w1 : World} {o : Option Nat} {X : Nat → Prop} (h : w.grownBy w1 o) (hx : ∀ k, o = some k → X k) : Kept X w w1 := ⟨h.os, h.tape, h.output, h.size, fun k hk hn => h.block k hk (fun e => hn (hx k e.symm))⟩
/-- A struct behind a pointer: its cells, none frozen. -/
structure Blk (w : World) (b : Nat) (K : List Value) : Prop where
  cells : w.rangeAt b 0 K
  free : ∀ k, w.frozen? ⟨b, k, none⟩ = false
  lt : b < w.heap.size
theorem Blk.cell {w : World} {b : Nat} {K : List Value} (h : Blk w b K) {k : Nat} {u : Value} (hu : K[k]? = some u) : w.cell? ⟨b, k, none⟩ = some u := by
  have := h.cells k u hu
  rwa [Nat.zero_add] at this
theorem Blk.kept {w w' : World} {b : Nat} {K : List Value} {X : Nat → Prop} (h : Blk w b K) (hk : Kept X w w') (hx : ¬ X b) : Blk w' b K :=
  ⟨fun k u hu => (hk.cell h.lt hx).trans (h.cells k u hu), fun k => (hk.frozen h.lt hx).trans (h.free k), Nat.lt_of_lt_of_le h.lt hk.size⟩
theorem Blk.below {w w' : World} {b : Nat} {K : List Value} (h : Blk w b K) (hb : Below w.heap.size w w') : Blk w' b K :=
  h.kept (X := fun _ => False) (Kept.of hb (Nat.le_refl _)) id
theorem Blk.drew {w : World} {b : Nat} {K : List Value} (h : Blk w b K) : Blk w.drew b K := ⟨h.cells, h.free, h.lt⟩
theorem Blk.set {w : World} {b : Nat} {K : List Value} (h : Blk w b K) {k : Nat} (hk : k < K.length) (u : Value) : Blk (w.setCell ⟨b, k, none⟩ u) b (K.set k u) := by
  refine ⟨fun j v hj => ?_, fun j => by rw [World.frozen?_setCell]; exact h.free j, by simpa using h.lt⟩
  rw [Nat.zero_add]
  rw [List.getElem?_set] at hj
  split at hj
  · rename_i e; subst e
    rw [World.cell?_setCell_same _ _ _ (by rw [h.cell (List.getElem?_eq_getElem hk)])]
    exact hj
  · rename_i e
    have := World.cell?_setCells_out b [u] k w ⟨b, j, none⟩ (fun _ _ => by show j < k ∨ k + 1 ≤ j; omega)
    exact this.trans (h.cell hj)
theorem box2 (w : World) (xs ys : List Value) (t u : TypeId) : Below w.heap.size w ((w.alloc (.cells xs.toArray t)).alloc (.cells ys.toArray u)) ∧
    (∀ w', Below ((w.alloc (.cells xs.toArray t)).alloc (.cells ys.toArray u)).heap.size ((w.alloc (.cells xs.toArray t)).alloc (.cells ys.toArray u)) w' → ∀ k v, xs[k]? = some v → w'.cell? ⟨w.heap.size, k, none⟩ = some v) ∧
    (∀ w', Below ((w.alloc (.cells xs.toArray t)).alloc (.cells ys.toArray u)).heap.size ((w.alloc (.cells xs.toArray t)).alloc (.cells ys.toArray u)) w' → ∀ k v, ys[k]? = some v → w'.cell? ⟨w.heap.size + 1, k, none⟩ = some v) :=
  ⟨below_boxes2 _ _ _, fun w' h k v hv => boxc (heap2_0 w _ _) (by simpa using hv) w' h, fun w' h k v hv => boxc (heap2_1 w _ _) (by simpa using hv) w' h⟩
end Go.Proofs.Ytncogaikiceidaa
end
section
namespace Go.Proofs.Ytncogaikiceidaa
set_option maxRecDepth 100000
open Go.RowKit
set_option linter.unusedSimpArgs false
set_option linter.unusedVariables false
set_option linter.unnecessarySimpa false
section
def U64 (n : Int) : Prop := 0 ≤ n ∧ n ≤ 18446744073709551615
/-- What layer 2's Do comes to is this number, whatever the world is. -/
def DoOk (op : Int) (wide : Bool) (off a b n : Int) : Prop :=
  U64 n ∧ ∃ c, ∀ w, Calls Try.prog 77 #[.int .u8 op, .bool wide, .int .i16 off, .int .u64 a, .int .u64 b] w fun e w' => e = .returned (.tuple #[.int .u64 n, .int .i64 c]) ∧ ∃ k, w' = w.drewN k
/-- What layer 3's Is says is this, whatever the world is. -/
def IsOk (op : Int) (wide : Bool) (a b : Int) (r : Bool) : Prop :=
  ∃ c, ∀ w, Calls Try.prog 70 #[.int .u8 op, .bool wide, .int .u64 a, .int .u64 b] w fun e w' => e = .returned (.tuple #[.bool r, .int .i64 c]) ∧ w' = w
def SwapOk (turn : Bool) (width a n : Int) : Prop :=
  U64 n ∧ ∃ c, ∀ w, Calls Try.prog 64 #[.bool turn, .int .i64 width, .int .u64 a] w fun e w' => e = .returned (.tuple #[.int .u64 n, .int .i64 c]) ∧ w' = w
end
section
/-! ### The reference's machine, as data -/
/-- Where a number stands first. -/
def idxM : List Int → Int → Nat → Int
  | [], _, _ => -1
  | x :: l, a, j => if x = a then (j : Int) else idxM l a (j + 1)
structure AreaM where
  id : Int
  bytes : List Int
  blank : List Bool
  fixed : Bool
deriving Inhabited
structure DefM where
  hash : Bool
  key : Int
  val : Int
  max : Int
deriving Inhabited
structure KeyM where
  k : List Int
  slot : Int
deriving Inhabited
structure MapM where
  d : DefM
  l : List KeyM
  made : Int
deriving Inhabited
structure CalledM where
  id : Int
  map : Int
  key : List Int
  val : List Int
  n : List Int
  ret : Int
deriving Inhabited
structure ItemM where
  key : List Int
  val : List Int
deriving Inhabited
structure MchM where
  r : List Int
  s : List Bool
  mem : List AreaM
  tab : List MapM
  draws : List Int
  place : Nat
  over : Bool
  code : Int
  steps : Nat
  calls : List CalledM
/-! numbers -/
def cutG (a : Int) (width : Nat) : Int := a % 2 ^ width
def signG (a : Int) (width : Int) : Int :=
  if width < 1 ∨ 64 < width then a
  else if cutG a width.toNat / 2 ^ (width.toNat - 1) = 0 ∨ width = 64 then cutG a width.toNat else cutG a width.toNat + (18446744073709551616 - 2 ^ width.toNat)
/-- Layer 2's Do: the number (a plain Mov's is what is moved). -/
noncomputable def doG (op : Int) (wide : Bool) (off a b : Int) : Int × Int :=
  if op = 176 ∧ wide = true ∧ off = 0 then (b, 0) else (Classical.epsilon (DoOk op wide off a b), 0)
noncomputable def swapG (turn : Bool) (width a : Int) : Int × Int := (Classical.epsilon (SwapOk turn width a), 0)
/-! memory -/
def areaAt (mem : List AreaM) (k : Nat) : AreaM := mem.getD k default
def whereM (mem : List AreaM) (at_ size : Int) : Option (Nat × Nat) :=
  let k := idxM (mem.map AreaM.id) (at_ / 4294967296) 0
  let off := at_ % 4294967296
  if k < 0 ∨ ((areaAt mem k.toNat).bytes.length : Int) < off ∨ ((areaAt mem k.toNat).bytes.length : Int) - off < size then none else some (k.toNat, off.toNat)
def readM (mem : List AreaM) (at_ size : Int) : List Int × Int :=
  if size < 0 ∨ 1024 < size then ([], 1) else
  match whereM mem at_ size with
  | none => ([], 80)
  | some (k, off) => if (((areaAt mem k).blank.drop off).take size.toNat).any id then ([], 81) else (((areaAt mem k).bytes.drop off).take size.toNat, 0)
def fitsM (size : Int) : Bool := size == 1 || size == 2 || size == 4 || size == 8
def leM : List Int → Int
  | [] => 0
  | b :: l => leM l * 256 + b
def loadM (mem : List AreaM) (at_ size : Int) : Int × Int :=
  if fitsM size = false then (0, 1) else if (readM mem at_ size).2 ≠ 0 then (0, (readM mem at_ size).2) else (leM (readM mem at_ size).1, 0)
def leBytes : Nat → Int → List Int
  | 0, _ => []
  | k + 1, n => n % 256 :: leBytes k (n / 256)
/-- A row with others in it, from a place on. -/
def spliceM {α : Type} (l : List α) (off : Nat) (vs : List α) : List α := l.take off ++ vs ++ l.drop (off + vs.length)
def putArea (a : AreaM) (off : Nat) (vs : List Int) : AreaM := { a with bytes := spliceM a.bytes off vs, blank := spliceM a.blank off (List.replicate vs.length false) }
def storeM (mem : List AreaM) (at_ size n : Int) : List AreaM × Int :=
  if fitsM size = false then (mem, 1) else
  match whereM mem at_ size with
  | none => (mem, 80)
  | some (k, off) => if (areaAt mem k).fixed = true then (mem, 82) else (mem.set k (putArea (areaAt mem k) off (leBytes size.toNat n)), 0)
def makeM (mem : List AreaM) (area : Int) (b : List Int) (blank fixed : Bool) : List AreaM × Int :=
  if area < 1 ∨ 2147483648 ≤ area ∨ 0 ≤ idxM (mem.map AreaM.id) area 0 then (mem, 1)
  else if 1024 < b.length then (mem, 3) else (mem ++ [⟨area, b, List.replicate b.length blank, fixed⟩], 0)
/-! tables -/
def defOk (d : DefM) : Bool := (if d.hash then 1 ≤ d.key && d.key ≤ 16 else d.key == 4) && 8 ≤ d.val && d.val ≤ 64 && d.val % 8 == 0 && 1 ≤ d.max && d.max ≤ 16
def defsOk (l : List DefM) : Bool := l.all defOk && l.length ≤ 8
def slotArea (i slot : Int) : Int := 4096 + 1024 * i + slot
def mapAt (t : List MapM) (i : Nat) : MapM := t.getD i default
def mayM (t : List MapM) (i : Int) (key : List Int) : Bool := 0 ≤ i && i < t.length && (key.length : Int) == (mapAt t i.toNat).d.key
def findK : List KeyM → List Int → Int
  | [], _ => -1
  | x :: l, key => if x.k = key then x.slot else findK l key
def lookM (t : List MapM) (i : Int) (key : List Int) : Int × Int :=
  if mayM t i key = false then (0, 1) else if findK (mapAt t i.toNat).l key < 0 then (0, 0) else (slotArea i (findK (mapAt t i.toNat).l key) * 4294967296, 0)
def fillM (mem : List AreaM) (i slot : Int) : Nat → List Int → List AreaM
  | _, [] => mem
  | k, v :: l => fillM (storeM mem (slotArea i slot * 4294967296 + k) 1 v).1 i slot (k + 1) l
def minusM (n : Int) : Int := 18446744073709551616 - n
/-- Whether a row of bytes is less than another one. -/
def lessB : List Int → List Int → Bool
  | _, [] => false
  | [], _ :: _ => true
  | a :: l, b :: r => if a = b then lessB l r else decide (a < b)
def putPos : List KeyM → List Int → Nat
  | [], _ => 0
  | x :: l, key => if lessB x.k key = true then putPos l key + 1 else 0
def putM (mem : List AreaM) (t : List MapM) (i : Int) (key val : List Int) (flags : Int) : List AreaM × List MapM × Int × Int :=
  if mayM t i key = false ∨ (val.length : Int) ≠ (mapAt t i.toNat).d.val then (mem, t, 0, 1) else
  let x := mapAt t i.toNat
  let slot := findK x.l key
  if 2 < flags then (mem, t, minusM 22, 0)
  else if slot < 0 ∧ x.d.hash = false then (mem, t, minusM 7, 0)
  else if 0 ≤ slot ∧ flags = 1 then (mem, t, minusM 17, 0)
  else if 0 ≤ slot then (fillM mem i slot 0 val, t, 0, 0)
  else if flags = 2 then (mem, t, minusM 2, 0)
  else if x.d.max ≤ x.l.length then (mem, t, minusM 7, 0)
  else if 1024 ≤ x.made then (mem, t, minusM 12, 0)
  else if (makeM mem (slotArea i x.made) val false false).2 ≠ 0 then (mem, t, minusM 12, 0)
  else ((makeM mem (slotArea i x.made) val false false).1, t.set i.toNat { x with l := x.l.take (putPos x.l key) ++ [⟨key, x.made⟩] ++ x.l.drop (putPos x.l key), made := x.made + 1 }, 0, 0)
def dropM (t : List MapM) (i : Int) (key : List Int) : List MapM × Int × Int :=
  if mayM t i key = false then (t, 0, 1) else
  let x := mapAt t i.toNat
  if x.d.hash = false then (t, minusM 22, 0) else
  let rest := x.l.filter fun y => ! decide (y.k = key)
  if rest.length = x.l.length then (t, minusM 2, 0) else (t.set i.toNat { x with l := rest }, 0, 0)
def itemsM (mem : List AreaM) (t : List MapM) (i : Nat) : List ItemM :=
  (mapAt t i).l.map fun x => ⟨x.k, let k := idxM (mem.map AreaM.id) (slotArea i x.slot) 0; if k < 0 then [] else (areaAt mem k.toNat).bytes⟩
/-! helpers -/
structure SigM where
  told : List Int
  draws : Bool
  most : Int
def sigM (id : Int) : Option SigM :=
  if id = 1 then some ⟨[1, 2], false, 0⟩ else if id = 2 then some ⟨[1, 2, 3, 4], false, 18446744073709551615⟩ else if id = 3 then some ⟨[1, 2], false, 18446744073709551615⟩
  else if id = 5 then some ⟨[], true, 18446744073709551615⟩ else if id = 6 then some ⟨[4, 4], false, 0⟩ else if id = 7 then some ⟨[], true, 4294967295⟩ else if id = 8 then some ⟨[], true, 63⟩ else none
def drawM (most : Int) (l : List Int) : Int × List Int × Int :=
  match l with
  | [] => (0, [], 100)
  | n :: r => (if most ≠ 18446744073709551615 ∧ most < n then n % (most + 1) else n, r, 0)
/-! the machine -/
def regM (m : MchM) (i : Int) : Int := m.r.getD i.toNat 0
def setM (m : MchM) (i : Int) : Bool := m.s.getD i.toNat false
def putR (m : MchM) (i n : Int) : MchM := { m with r := m.r.set i.toNat n, s := m.s.set i.toNat true }
def immG (x : Insn) : Int := signG (x.imm % 4294967296) 32
def secondM (m : MchM) (x : Insn) (w : What) : Int × Bool := if w.reg = true then (regM m x.src, setM m x.src) else (immG x, true)
noncomputable def arithMM (m : MchM) (x : Insn) (w : What) : MchM × Int :=
  if (secondM m x w).2 = false ∨ w.op ≠ 176 ∧ setM m x.dst = false then (m, 110)
  else (putR m x.dst (doG w.op w.wide x.off (regM m x.dst) (if w.op = 128 then 0 else (secondM m x w).1)).1, 0)
def addrM (m : MchM) (i : Int) (x : Insn) : Int := (regM m i + signG (x.off % 65536) 16) % 18446744073709551616
def loadMM (m : MchM) (x : Insn) (w : What) : MchM × Int :=
  if setM m x.src = false then (m, 110) else
  let l := loadM m.mem (addrM m x.src x) w.size
  if l.2 ≠ 0 then (m, l.2) else (putR m x.dst (if w.sgn = true then signG l.1 (8 * w.size) else l.1), 0)
noncomputable def storeMM (m : MchM) (x : Insn) (w : What) : MchM × Int :=
  if (secondM m x w).2 = false ∨ setM m x.dst = false then (m, 110) else
  let at_ := addrM m x.dst x
  if w.kind = 8 then
    let l := loadM m.mem at_ w.size
    if l.2 ≠ 0 then (m, l.2) else
    let st := storeM m.mem at_ w.size (doG w.op true 0 l.1 (secondM m x w).1).1
    ({ m with mem := st.1 }, st.2)
  else
    let st := storeM m.mem at_ w.size (secondM m x w).1
    ({ m with mem := st.1 }, st.2)
def wordM (i : Nat) : Int := 3 * 4294967296 + i
def tableM (n : Int) (many : Nat) : Int := idxM ((List.range many).map wordM) n 0
/-- What a helper is told, from the i-th on. -/
def toldM (m : MchM) (defs : List DefM) : List Int → Nat → CalledM → CalledM × Int
  | [], _, c => (c, 0)
  | k :: l, i, c =>
    let n := regM m (i + 1)
    if setM m (i + 1) = false then (c, 110) else
    if k = 1 then (if tableM n defs.length < 0 then (c, 113) else toldM m defs l (i + 1) { c with map := tableM n defs.length })
    else if k = 2 then
      (let b := readM m.mem n (defs.getD c.map.toNat default).key
       if b.2 ≠ 0 then (c, b.2) else toldM m defs l (i + 1) { c with key := b.1 })
    else if k = 3 then
      (let b := readM m.mem n (defs.getD c.map.toNat default).val
       if b.2 ≠ 0 then (c, b.2) else toldM m defs l (i + 1) { c with val := b.1 })
    else toldM m defs l (i + 1) { c with n := c.n ++ [n] }
/-- The registers behind a call. -/
def afterCall (m : MchM) (ret : Int) : MchM :=
  putR { m with r := (m.r.take 1 ++ List.replicate 5 0 ++ m.r.drop 6), s := (m.s.take 1 ++ List.replicate 5 false ++ m.s.drop 6) } 0 ret
def called0 (id : Int) : CalledM := ⟨id, 0, [], [], [], 0⟩
def callM (m : MchM) (defs : List DefM) (id : Int) : MchM × Int :=
  match sigM id with
  | none => (m, 112)
  | some g =>
    let c := toldM m defs g.told 0 (called0 id)
    if c.2 ≠ 0 then (m, c.2) else
    if id = 1 then
      (let a := lookM m.tab c.1.map c.1.key
       if a.2 ≠ 0 then (m, a.2) else (afterCall { m with calls := m.calls ++ [{ c.1 with ret := a.1 }] } a.1, 0))
    else if id = 2 then
      (let a := putM m.mem m.tab c.1.map c.1.key c.1.val (c.1.n.getD 0 0)
       if a.2.2.2 ≠ 0 then ({ m with mem := a.1, tab := a.2.1 }, a.2.2.2) else (afterCall { m with mem := a.1, tab := a.2.1, calls := m.calls ++ [{ c.1 with ret := a.2.2.1 }] } a.2.2.1, 0))
    else if id = 3 then
      (let a := dropM m.tab c.1.map c.1.key
       if a.2.2 ≠ 0 then ({ m with tab := a.1 }, a.2.2) else (afterCall { m with tab := a.1, calls := m.calls ++ [{ c.1 with ret := a.2.1 }] } a.2.1, 0))
    else if g.draws = true then
      (let a := drawM g.most m.draws
       if a.2.2 ≠ 0 then (m, a.2.2) else (afterCall { m with draws := a.2.1, calls := m.calls ++ [{ c.1 with ret := a.1 }] } a.1, 0))
    else (afterCall { m with calls := m.calls ++ [c.1] } 0, 0)
/-- Layer 3's Is. -/
noncomputable def isG (op : Int) (wide : Bool) (a b : Int) : Bool := Classical.epsilon (IsOk op wide a b)
/-- An instruction, done: what becomes of the machine, whether it goes to its target, and why it is over. -/
noncomputable def doesM (m : MchM) (defs : List DefM) (x y : Insn) (w : What) : MchM × Bool × Int :=
  if w.kind = 1 then ((arithMM m x w).1, false, (arithMM m x w).2)
  else if w.kind = 2 then
    (if setM m x.dst = false then (m, false, 110) else (putR m x.dst (swapG w.wide (8 * w.size) (regM m x.dst)).1, false, 0))
  else if w.kind = 3 then (putR m x.dst (x.imm % 4294967296 + 4294967296 * (y.imm % 4294967296)), false, 0)
  else if w.kind = 4 then (if (defs.length : Int) ≤ x.imm then (m, false, 113) else (putR m x.dst (3 * 4294967296 + x.imm), false, 0))
  else if w.kind = 5 then ((loadMM m x w).1, false, (loadMM m x w).2)
  else if w.kind = 6 ∨ w.kind = 7 ∨ w.kind = 8 then ((storeMM m x w).1, false, (storeMM m x w).2)
  else if w.kind = 9 then (m, true, 0)
  else if w.kind = 10 then
    (if (secondM m x w).2 = false ∨ setM m x.dst = false then (m, false, 110) else (m, isG w.op w.wide (regM m x.dst) (secondM m x w).1, 0))
  else if w.kind = 11 then ((callM m defs x.imm).1, false, (callM m defs x.imm).2)
  else if w.kind = 12 then (if setM m 0 = false then (m, false, 110) else ({ m with over := true }, false, 0))
  else (m, false, 0)
def nextM (l : List Insn) (m : MchM) (d : MchM × Bool × Int) : Nat :=
  if (sem (at' l m.place)).1.kind = 12 then m.place else if d.2.1 = true then (targetM l m.place).1.toNat else stepN l m.place
noncomputable def stepM (l : List Insn) (defs : List DefM) (m : MchM) : MchM × Int :=
  if m.over = true then (m, 114) else
  let d := doesM m defs (at' l m.place) (at' l (m.place + 1)) (sem (at' l m.place)).1
  if d.2.2 ≠ 0 then ({ d.1 with over := true, code := d.2.2 }, d.2.2) else ({ d.1 with place := nextM l m d, steps := m.steps + 1 }, 0)
/-- So many steps, at most, while it isn't over. -/
noncomputable def runK (l : List Insn) (defs : List DefM) (fuel : Nat) : Nat → MchM → MchM
  | 0, m => m
  | k + 1, m => if m.over = true ∨ fuel ≤ m.steps then m else runK l defs fuel k (stepM l defs m).1
structure EndM where
  code : Int
  place : Nat
  r0 : Int
  steps : Nat
  calls : List CalledM
  maps : List (List ItemM)
def endM (defs : List DefM) (m : MchM) : EndM :=
  let code := if m.over = true then m.code else 111
  ⟨code, m.place, if code = 0 then regM m 0 else 0, m.steps, m.calls, (List.range defs.length).map (itemsM m.mem m.tab)⟩
/-! how it begins -/
structure EnvM where
  ctx : List Int
  defs : List DefM
  items : List (List ItemM)
  draws : List Int
def tab0 : List AreaM → Nat → List DefM → List AreaM × List MapM
  | mem, _, [] => (mem, [])
  | mem, i, d :: l =>
    let many := if d.hash = true then 0 else d.max.toNat
    let mem' := mem ++ (List.range many).map fun k => ⟨slotArea i k, List.replicate d.val.toNat 0, List.replicate d.val.toNat false, false⟩
    let r := tab0 mem' (i + 1) l
    (r.1, ⟨d, (List.range many).map fun (k : Nat) => ⟨[(k : Int), 0, 0, 0], (k : Int)⟩, many⟩ :: r.2)
def putItems (i : Nat) : List ItemM → List AreaM × List MapM → Option (List AreaM × List MapM)
  | [], mt => some mt
  | y :: l, mt =>
    let a := putM mt.1 mt.2 i y.key y.val 0
    if a.2.2.1 ≠ 0 ∨ a.2.2.2 ≠ 0 then none else putItems i l (a.1, a.2.1)
def putAll (i : Nat) : List (List ItemM) → List AreaM × List MapM → Option (List AreaM × List MapM)
  | [], mt => some mt
  | y :: l, mt => (putItems i y mt).bind (putAll (i + 1) l)
def newM (l : List Insn) (e : EnvM) : Option MchM :=
  if (checkM l).2 ≠ 0 ∨ 64 < e.ctx.length ∨ e.defs.length < e.items.length ∨ defsOk e.defs = false then none else
  let mem1 := [⟨1, e.ctx, List.replicate e.ctx.length false, true⟩, ⟨2, List.replicate 512 0, List.replicate 512 true, false⟩]
  (putAll 0 e.items (tab0 mem1 0 e.defs)).map fun mt =>
    putR (putR ⟨List.replicate 11 0, List.replicate 11 false, mt.1, mt.2, e.draws, 0, false, 0, 0, []⟩ 1 4294967296) 10 8589935104
/-- Did both end alike? -/
def alikeM (a b : EndM) : Bool := a.code == b.code && a.r0 == b.r0 && (decide (a.calls.map (fun c => (c.id, c.map, c.key, c.val, c.n, c.ret)) = b.calls.map (fun c => (c.id, c.map, c.key, c.val, c.n, c.ret)))) && decide (a.maps.map (·.map (fun y => (y.key, y.val))) = b.maps.map (·.map (fun y => (y.key, y.val))))
end
section
/-! ### Whose a block is -/
inductive Role where
  | mach | mem | areas | areaB (i : Nat) | areaK (i : Nat) | tabs | maps | keys (i : Nat) | draws | calls | data (j k : Nat)
deriving DecidableEq
abbrev Own := Nat → Option Role
/-- A row that lies in a block of its role. -/
structure RowIn (own : Own) (r : Role) (w : World) (t size : Nat) (v : Value) (n : Nat) (xs : List Value) : Prop where
  row : w.ownsRow 0 t size v n xs
  role : ∀ b, v.ownBlock = some b → own b = some r
section
variable {own own' : Own} {r : Role} {w w' : World} {t size n : Nat} {v : Value} {xs : List Value} {X : Nat → Prop}
theorem RowIn.kept (h : RowIn own r w t size v n xs) (hk : Kept X w w') (ho : ∀ b, b < w.heap.size → own' b = own b) (hx : ∀ b, own b = some r → ¬ X b) : RowIn own' r w' t size v n xs :=
  ⟨own_kept h.row hk (fun k hk => hx k (h.role k hk)), fun b hb => by rw [ho b (h.row.lt b hb).2]; exact h.role b hb⟩
theorem RowIn.below (h : RowIn own r w t size v n xs) (hb : Below w.heap.size w w') : RowIn own r w' t size v n xs :=
  h.kept (X := fun _ => False) (Kept.of hb (Nat.le_refl _)) (fun _ _ => rfl) (fun _ _ => id)
theorem RowIn.slice (h : RowIn own r w t size v n xs) : ∃ A c, v = .slice A n c := own_slice h.row
/-- A row that isn't empty: where it lies. -/
theorem RowIn.get (h : RowIn own r w t size v n xs) (hn : 0 < n) : ∃ g c, v = .slice (some ⟨g, 0, none⟩) n c ∧ g < w.heap.size ∧ own g = some r ∧ ∀ k u, xs[k]? = some u → w.cell? ⟨g, k, none⟩ = some u := by
  rcases h.row.2 with ⟨-, h1⟩ | ⟨g, cap, cur, rfl, -, hg, -⟩
  · omega
  · refine ⟨g, cap, rfl, (Array.getElem?_eq_some_iff.1 hg).1, h.role g rfl, fun k u hu => ?_⟩
    have := h.row.cells (g := g) rfl k u hu
    rwa [addr_add, Nat.zero_add] at this
end
/-! ### The memory -/
def areaCells (a : AreaM) (s : Value × Value) : List Value := [.int .i64 a.id, s.1, s.2, .bool a.fixed]
def areasV (sl : Nat → Value × Value) : List AreaM → Nat → List Value
  | [], _ => []
  | a :: l, i => areaCells a (sl i) ++ areasV sl l (i + 1)
theorem areasV_get (sl : Nat → Value × Value) : ∀ (l : List AreaM) (i k j : Nat), (hk : k < l.length) → j < 4 → (areasV sl l i)[k * 4 + j]? = (areaCells l[k] (sl (i + k)))[j]?
  | a :: l, i, 0, j, _, hj => by
    rw [areasV, List.getElem?_append_left (by simp [areaCells]; omega)]; simp
  | a :: l, i, k + 1, j, hk, hj => by
    rw [areasV, List.getElem?_append_right (by simp [areaCells]; omega), show (k + 1) * 4 + j - (areaCells a (sl i)).length = k * 4 + j by simp [areaCells]; omega, areasV_get sl l (i + 1) k j (by simpa using hk) hj]
    simp only [List.getElem_cons_succ]
    rw [show i + 1 + k = i + (k + 1) by omega]
structure AreaM.Ok (a : AreaM) : Prop where
  same : a.blank.length = a.bytes.length
  few : a.bytes.length ≤ 1024
  byte : ∀ b ∈ a.bytes, 0 ≤ b ∧ b ≤ 255
/-- An area's bytes, and which of them are blank. -/
structure AreaIn (own : Own) (w : World) (i : Nat) (s : Value × Value) (a : AreaM) : Prop where
  b : RowIn own (.areaB i) w 5 1 s.1 a.bytes.length (bytesV a.bytes)
  k : RowIn own (.areaK i) w 4 1 s.2 a.bytes.length (a.blank.map Value.bool)
structure MemIn (own : Own) (w : World) (pm : Nat) (v : Value) (sl : Nat → Value × Value) (mem : List AreaM) : Prop where
  role : own pm = some .mem
  blk : Blk w pm [v]
  row : RowIn own .areas w 94 4 v mem.length (areasV sl mem 0)
  ok : ∀ a ∈ mem, a.Ok
  area : ∀ i, (h : i < mem.length) → AreaIn own w i (sl i) mem[i]
def Role.isMem : Role → Prop
  | .mem | .areas | .areaB _ | .areaK _ => True
  | _ => False
section
variable {own own' : Own} {w w' : World} {pm : Nat} {v : Value} {sl : Nat → Value × Value} {mem : List AreaM} {X : Nat → Prop}
theorem MemIn.kept (h : MemIn own w pm v sl mem) (hk : Kept X w w') (ho : ∀ b, b < w.heap.size → own' b = own b) (hx : ∀ b r, own b = some r → r.isMem → ¬ X b) : MemIn own' w' pm v sl mem where
  role := by rw [ho pm h.blk.lt]; exact h.role
  blk := h.blk.kept hk (hx pm _ h.role trivial)
  row := h.row.kept hk ho (fun b hb => hx b _ hb trivial)
  ok := h.ok
  area := fun i hi => ⟨(h.area i hi).b.kept hk ho (fun b hb => hx b _ hb trivial), (h.area i hi).k.kept hk ho (fun b hb => hx b _ hb trivial)⟩
theorem MemIn.below (h : MemIn own w pm v sl mem) (hb : Below w.heap.size w w') : MemIn own w' pm v sl mem :=
  h.kept (X := fun _ => False) (Kept.of hb (Nat.le_refl _)) (fun _ _ => rfl) (fun _ _ _ _ => id)
/-- The cells of the k-th area. -/
theorem MemIn.at_ (h : MemIn own w pm v sl mem) {k : Nat} (hk : k < mem.length) : ∃ g c, v = .slice (some ⟨g, 0, none⟩) mem.length c ∧ w.cell? ⟨g, k * 4, none⟩ = some (.int .i64 mem[k].id) ∧ w.cell? ⟨g, k * 4 + 1, none⟩ = some (sl k).1 ∧ w.cell? ⟨g, k * 4 + 2, none⟩ = some (sl k).2 ∧ w.cell? ⟨g, k * 4 + 3, none⟩ = some (.bool mem[k].fixed) ∧ g < w.heap.size := by
  obtain ⟨g, c, rfl, hg, -, hc⟩ := h.row.get (by omega)
  have e := fun j (hj : j < 4) => areasV_get sl mem 0 k j hk hj
  simp only [Nat.zero_add] at e
  exact ⟨g, c, rfl, hc _ _ (e 0 (by omega)), hc _ _ (e 1 (by omega)), hc _ _ (e 2 (by omega)), hc _ _ (e 3 (by omega)), hg⟩
end
theorem idx_lt {ids : List Int} {a : Int} : ∀ j, idxM ids a j = -1 ∨ ∃ k, k < ids.length ∧ idxM ids a j = ((j + k : Nat) : Int) := by
  induction ids with
  | nil => intro j; exact .inl rfl
  | cons x l ih =>
    intro j
    rw [idxM]
    split
    · exact .inr ⟨0, by simp, by simp⟩
    · rcases ih (j + 1) with h | ⟨k, h1, h2⟩
      · exact .inl h
      · exact .inr ⟨k + 1, by simpa using h1, by rw [h2]; congr 1; omega⟩
theorem rfind8 {own : Own} {w : World} {pm : Nat} {v : Value} {sl : Nat → Value × Value} {mem : List AreaM} (h : MemIn own w pm v sl mem) (hn : mem.length ≤ 1000000) (a : Int) :
    Calls Try.prog 33 #[.pointer (some ⟨pm, 0, none⟩), .int .i64 a] w fun e w' => e = .returned (.int .i64 (idxM (mem.map AreaM.id) a 0)) ∧ Below w.heap.size w w' := by
  obtain ⟨A, c, rfl⟩ := h.row.slice
  have hcl : ∀ w', Below w.heap.size w w' → w'.cell? ⟨pm, 0, none⟩ = some (.slice A mem.length c) := fun w' hb => (h.below hb).blk.cell rfl
  have hat : ∀ k, (hk : k < mem.length) → ∃ g c', (.slice A mem.length c : Value) = .slice (some ⟨g, 0, none⟩) mem.length c' ∧ ∀ w', Below w.heap.size w w' → w'.cell? ⟨g, k * 4, none⟩ = some (.int .i64 mem[k].id) := fun k hk => by
    obtain ⟨g, c', e, h1, -, -, -, hg⟩ := h.at_ hk
    exact ⟨g, c', e, fun w' hb => (hb.cell (p := ⟨g, k * 4, none⟩) hg).trans h1⟩
  have hrf := Below.refl w.heap.size w
  clear h
  go_enter Try.func33, Try.ntmps33
  go_wp2_with fail
  go_loopw [5] (fun k wr => ∃ j : Nat, j ≤ mem.length ∧ k = .int .i64 j ∧ idxM (mem.map AreaM.id) a 0 = idxM ((mem.map AreaM.id).drop j) a j ∧ Below w.heap.size w wr) (fun k _ => mem.length - (intOf k).toNat)
  case atStart => exact ⟨0, by omega, rfl, rfl, hrf⟩
  case round =>
    obtain ⟨j, hj, rfl, he, hb⟩ := hrel
    have hc0 := hcl _ hb
    rcases Nat.lt_or_ge j mem.length with hlt | hge
    · obtain ⟨g, c', hv, hc⟩ := hat j hlt
      simp only [Value.slice.injEq] at hv
      obtain ⟨rfl, -, rfl⟩ := hv
      have hc1 := hc _ hb
      rw [List.drop_eq_getElem_cons (by simpa using hlt), idxM] at he
      simp only [List.getElem_map] at he
      have HE := Lib.hid he
      clear he hat
      by_cases hx : mem[j].id = a
      · go_wp2_with fail
        go_ret
        exact ⟨by rw [HE.out, if_pos hx]; rfl, hb⟩
      · go_wp2_with fail
        go_roundw
        case rel => exact ⟨j + 1, by omega, by go_num, by rw [HE.out, if_neg hx], hb⟩
        case measure => simp [intOf]; omega
    · have he2 : idxM (mem.map AreaM.id) a 0 = -1 := by rw [he, List.drop_eq_nil_of_le (by simpa using hge)]; rfl
      clear he
      have HE := Lib.hid he2
      clear he2
      go_wp2_with fail
      go_ret
      exact ⟨by rw [HE.out]; rfl, hb⟩
end
section
def pairW : Option (Nat × Nat) → Int × Int
  | none => (-1, 0)
  | some (k, o) => (k, o)
theorem rwhere8 {own : Own} {w : World} {pm : Nat} {v : Value} {sl : Nat → Value × Value} {mem : List AreaM} (h : MemIn own w pm v sl mem) (hn : mem.length ≤ 1000000) (a size : Int) (ha : U64 a) (hs0 : 0 ≤ size) (hs1 : size ≤ 1024) :
    Calls Try.prog 73 #[.pointer (some ⟨pm, 0, none⟩), .int .u64 a, .int .i64 size] w fun e w' => e = .returned (.tuple #[.int .i64 (pairW (whereM mem a size)).1, .int .i64 (pairW (whereM mem a size)).2]) ∧ Below w.heap.size w w' := by
  obtain ⟨a0, a1⟩ := ha
  have hfi := fun w' (hb : Below w.heap.size w w') => rfind8 (h.below hb) hn (a / 4294967296)
  have hcs := idx_lt (ids := mem.map AreaM.id) (a := a / 4294967296) 0
  have hW := Lib.hid (show pairW (whereM mem a size) = if idxM (mem.map AreaM.id) (a / 4294967296) 0 < 0 ∨ ((areaAt mem (idxM (mem.map AreaM.id) (a / 4294967296) 0).toNat).bytes.length : Int) < a % 4294967296 ∨ ((areaAt mem (idxM (mem.map AreaM.id) (a / 4294967296) 0).toNat).bytes.length : Int) - a % 4294967296 < size then (-1, 0) else (((idxM (mem.map AreaM.id) (a / 4294967296) 0).toNat : Int), ((a % 4294967296).toNat : Int)) from by
    unfold whereM; simp only; split <;> rfl)
  have hrf := Below.refl w.heap.size w
  rcases hcs with hk | ⟨k, hk, he⟩
  · rw [hk] at hfi hW
    have HW := Lib.hid (show pairW (whereM mem a size) = (-1, 0) from by rw [hW.out, if_pos (.inl (by decide))])
    clear hW hk h
    go_enter Try.func73, Try.ntmps73
    go_wp2_with fail
    refine (hfi _ hrf).mono ?_
    rintro e w1 ⟨rfl, hb⟩
    go_wp2_with fail
    go_ret2
    rw [HW.out]
    exact ⟨rfl, hb⟩
  · rw [Nat.zero_add] at he
    rw [he] at hfi hW
    have hkm : k < mem.length := by simpa using hk
    obtain ⟨g, c, rfl, c0, c1, c2, c3, hg⟩ := h.at_ hkm
    obtain ⟨Ab, cb, hsl⟩ := (h.area k hkm).b.slice
    rw [hsl] at c1
    have hok := h.ok mem[k] (List.getElem_mem hkm)
    have hle := hok.few
    have hat : areaAt mem k = mem[k] := by simp [areaAt, List.getD_eq_getElem?_getD, hkm]
    rw [Int.toNat_natCast, hat] at hW
    have hcl : ∀ w', Below w.heap.size w w' → w'.cell? ⟨pm, 0, none⟩ = some (.slice (some ⟨g, 0, none⟩) mem.length c) := fun w' hb => (h.below hb).blk.cell rfl
    have hc1 : ∀ w', Below w.heap.size w w' → w'.cell? ⟨g, k * 4 + 1, none⟩ = some (.slice Ab mem[k].bytes.length cb) := fun w' hb => (hb.cell (p := ⟨g, k * 4 + 1, none⟩) hg).trans c1
    have hki : (k : Int) < (mem.length : Int) := by omega
    have hkn : ¬ (k : Int) < 0 := by omega
    have hlei : (mem[k].bytes.length : Int) ≤ 1024 := by omega
    clear c0 c1 c2 c3 hsl hok hat hk he h
    generalize mem[k].bytes.length = n at *
    go_enter Try.func73, Try.ntmps73
    go_wp2_with fail
    refine (hfi _ hrf).mono ?_
    rintro e w1 ⟨rfl, hb⟩
    have hC0 := hcl _ hb
    have hC1 := hc1 _ hb
    clear hfi hcl hc1
    by_cases h1 : (n : Int) < a % 4294967296
    · have HW := Lib.hid (show pairW (whereM mem a size) = (-1, 0) from by rw [hW.out, if_pos (.inr (.inl h1))])
      clear hW
      go_wp2_with fail
      go_ret2
      rw [HW.out]
      exact ⟨rfl, hb⟩
    · by_cases h2 : (n : Int) - a % 4294967296 < size
      · have HW := Lib.hid (show pairW (whereM mem a size) = (-1, 0) from by rw [hW.out, if_pos (.inr (.inr h2))])
        clear hW
        go_wp2_with fail
        go_ret2
        rw [HW.out]
        exact ⟨rfl, hb⟩
      · have HW := Lib.hid (show pairW (whereM mem a size) = ((k : Int), a % 4294967296) from by rw [hW.out, if_neg (by omega)]; congr 1; omega)
        clear hW
        go_wp2_with fail
        go_ret2
        rw [HW.out]
        exact ⟨rfl, hb⟩
end
section
/-- A row of bytes that the call made. -/
def Bytes (W : World) (w' : World) (v : Value) (bs : List Int) : Prop := ∃ A c, v = .slice A bs.length c ∧ w'.ownsRow W.heap.size 5 1 v bs.length (bytesV bs)
theorem whereM_in {mem : List AreaM} {a size : Int} {k o : Nat} (h : whereM mem a size = some (k, o)) (ha : 0 ≤ a) (hs : 0 ≤ size) : k < mem.length ∧ (o : Int) + size ≤ (areaAt mem k).bytes.length := by
  unfold whereM at h
  simp only at h
  split at h
  · cases h
  · rename_i hc
    simp only [Option.some.injEq, Prod.mk.injEq] at h
    obtain ⟨rfl, rfl⟩ := h
    rcases idx_lt (ids := mem.map AreaM.id) (a := a / 4294967296) 0 with e | ⟨k, hk, e⟩
    · rw [e] at hc; exact absurd (.inl (by decide)) hc
    · rw [e] at hc ⊢
      simp only [Nat.zero_add, Int.toNat_natCast] at hc ⊢
      refine ⟨by simpa using hk, ?_⟩
      omega
theorem readM_none {mem : List AreaM} {a size : Int} (hw : whereM mem a size = none) (hs0 : 0 ≤ size) (hs1 : size ≤ 1024) : readM mem a size = ([], 80) := by
  unfold readM; rw [if_neg (by omega), hw]
theorem readM_some {mem : List AreaM} {a size : Int} {k o : Nat} (hw : whereM mem a size = some (k, o)) (hs0 : 0 ≤ size) (hs1 : size ≤ 1024) :
    readM mem a size = if (((areaAt mem k).blank.drop o).take size.toNat).any id then ([], 81) else (((areaAt mem k).bytes.drop o).take size.toNat, 0) := by
  unfold readM; rw [if_neg (by omega), hw]
theorem any_next {bk : List Bool} {o j : Nat} (h : o + j < bk.length) : ((bk.drop o).take (j + 1)).any id = (((bk.drop o).take j).any id || bk[o + j]) := by
  rw [List.take_add_one, List.any_append]
  simp [h]
theorem any_more {bk : List Bool} {o j n : Nat} (h : ((bk.drop o).take j).any id = true) (hn : j ≤ n) : ((bk.drop o).take n).any id = true := by
  rw [List.any_eq_true] at h ⊢
  obtain ⟨b, hb, h2⟩ := h
  exact ⟨b, (List.take_sublist_take_left hn).subset hb, h2⟩
set_option maxHeartbeats 1000000 in
theorem rread8 {own : Own} {w : World} {pm : Nat} {v : Value} {sl : Nat → Value × Value} {mem : List AreaM} (h : MemIn own w pm v sl mem) (hn : mem.length ≤ 1000000) (a size : Int) (ha : U64 a) (hs0 : 0 ≤ size) (hs1 : size ≤ 1024) :
    Calls Try.prog 91 #[.pointer (some ⟨pm, 0, none⟩), .int .u64 a, .int .i64 size] w fun e w' => ∃ r, e = .returned (.tuple #[r, .int .i64 (readM mem a size).2]) ∧ Bytes w w' r (readM mem a size).1 ∧ Below w.heap.size w w' := by
  have hwh := fun w' (hb : Below w.heap.size w w') => rwhere8 (h.below hb) hn a size ha hs0 hs1
  have hrf := Below.refl w.heap.size w
  cases hw : whereM mem a size with
  | none =>
    rw [hw] at hwh
    have hR2 := Lib.hid (readM_none hw hs0 hs1)
    clear hw h
    simp only [pairW] at hwh
    go_enter Try.func91, Try.ntmps91
    go_wp2_with fail
    refine (hwh _ hrf).mono ?_
    rintro e w1 ⟨rfl, hb⟩
    go_wp2_with fail
    go_ret2
    rw [hR2.out]
    exact ⟨_, rfl, ⟨none, 0, rfl, World.ownsRow_nil _ _ _ _⟩, hb⟩
  | some ko =>
    obtain ⟨k, o⟩ := ko
    obtain ⟨hkm, hos⟩ := whereM_in hw ha.1 hs0
    have hat : areaAt mem k = mem[k] := by simp [areaAt, List.getD_eq_getElem?_getD, hkm]
    have hR0 := readM_some hw hs0 hs1
    rw [hw] at hwh
    rw [hat] at hos hR0
    simp only [pairW] at hwh
    obtain ⟨g, c, rfl, c0, c1, c2, c3, hg⟩ := h.at_ hkm
    obtain ⟨Ab, cb, hsl1⟩ := (h.area k hkm).b.slice
    obtain ⟨Ak, ck, hsl2⟩ := (h.area k hkm).k.slice
    rw [hsl1] at c1
    rw [hsl2] at c2
    have hok := h.ok mem[k] (List.getElem_mem hkm)
    have hbl := (h.area k hkm).k
    have hbb := (h.area k hkm).b
    rw [hsl2] at hbl
    rw [hsl1] at hbb
    have hcl : ∀ w', Below w.heap.size w w' → w'.cell? ⟨pm, 0, none⟩ = some (.slice (some ⟨g, 0, none⟩) mem.length c) := fun w' hb => (h.below hb).blk.cell rfl
    have hc1 : ∀ w', Below w.heap.size w w' → w'.cell? ⟨g, k * 4 + 1, none⟩ = some (.slice Ab mem[k].bytes.length cb) := fun w' hb => (hb.cell (p := ⟨g, k * 4 + 1, none⟩) hg).trans c1
    have hc2 : ∀ w', Below w.heap.size w w' → w'.cell? ⟨g, k * 4 + 2, none⟩ = some (.slice Ak mem[k].bytes.length ck) := fun w' hb => (hb.cell (p := ⟨g, k * 4 + 2, none⟩) hg).trans c2
    have hlk := hok.same
    have hle := hok.few
    clear hsl1 hsl2 c0 c1 c2 c3 h hok hat hw
    generalize mem[k].bytes = bs at *
    generalize mem[k].blank = bk at *
    have hR := Lib.hid hR0
    clear hR0
    have hki : (k : Int) < (mem.length : Int) := by omega
    have hlei : (bs.length : Int) ≤ 1024 := by omega
    have ho0 : (0 : Int) ≤ (o : Int) := by omega
    go_enter Try.func91, Try.ntmps91
    go_wp2_with fail
    refine (hwh _ hrf).mono ?_
    rintro e w1 ⟨rfl, hb⟩
    clear hwh
    go_wp2_with fail
    have hB := Lib.hid hb
    go_loopw [10] (fun q wr => ∃ j : Nat, (j : Int) ≤ size ∧ q = .int .i64 ((o : Int) + j) ∧ (((bk.drop o).take j).any id) = false ∧ wr = w1) (fun q _ => size.toNat + 1 - (intOf q - o).toNat)
    case atStart => exact ⟨0, by omega, by simp, by simp, rfl⟩
    case round =>
      obtain ⟨j, hj, rfl, hany, rfl⟩ := hrel
      have HA := Lib.hid hany
      clear hany
      have hC0 := hcl _ hb
      have hC1 := hc1 _ hb
      have hC2 := hc2 _ hb
      rcases Int.lt_or_le (j : Int) size with hlt | hge
      · have hjo : o + j < bk.length := by omega
        obtain ⟨gk, ck', hvk, hgk, -, hck⟩ := hbl.get (by omega)
        simp only [Value.slice.injEq] at hvk
        obtain ⟨rfl, -, rfl⟩ := hvk
        have hcell : wr.cell? ⟨gk, o + j, none⟩ = some (.bool bk[o + j]) := (hb.cell (p := ⟨gk, o + j, none⟩) hgk).trans (hck (o + j) _ (by simp [hjo]))
        clear hbl hck hcl hc1 hc2
        cases hbv : bk[o + j]
        · rw [hbv] at hcell
          have hA2 : ((bk.drop o).take (j + 1)).any id = false := by rw [any_next hjo, HA.out, hbv]; rfl
          have HA2 := Lib.hid hA2
          clear hA2 hbv
          go_wp2_with fail
          go_roundw
          case rel => exact ⟨j + 1, by omega, by go_num, HA2.out, by first | rfl | trivial⟩
          case measure => simp [intOf]; omega
        · rw [hbv] at hcell
          have hR3 := Lib.hid (show readM mem a size = ([], 81) from by
            rw [hR.out, if_pos]
            exact any_more (j := j + 1) (by rw [any_next hjo, hbv]; simp) (by omega))
          clear hbv hR
          go_wp2_with fail
          go_ret2
          rw [hR3.out]
          exact ⟨_, rfl, ⟨none, 0, rfl, World.ownsRow_nil _ _ _ _⟩, hb⟩
      · have hsz : size = (j : Int) := by omega
        subst hsz
        have hR3 := Lib.hid (show readM mem a (j : Int) = ((bs.drop o).take j, 0) from by
          rw [hR.out, Int.toNat_natCast, HA.out]; rfl)
        clear hR hbl hc2
        have hbU : Below w.heap.size w (wr.alloc (.cells #[] 5)) := hb.alloc hb.size _
        have hU0 := hcl _ hbU
        have hU1 := hc1 _ hbU
        have hown0 : (wr.alloc (.cells #[] 5)).ownsRow w.heap.size 5 1 (.slice (some ⟨wr.heap.size, 0, none⟩) 0 0) 0 [] := own_new wr wr.heap.size #[] 5 1 0 0 w.heap.size rfl hb.size (Nat.le_refl _) (by decide) rfl
        have hoI : (o : Int) + j ≤ (bs.length : Int) := by omega
        clear hcl hc1
        obtain ⟨i0, hi0, hz0, hz1, hz2⟩ := info_parts info5
        rcases hbb.row.2 with ⟨hv0, hl0⟩ | ⟨g2, cap, cur, hv0, -, hg2, hnc, -⟩
        · have ho : o = 0 := by omega
          have hj0 : j = 0 := by omega
          subst ho hj0
          simp only [Value.slice.injEq] at hv0
          obtain ⟨rfl, -, rfl⟩ := hv0
          have hl0' : bs = [] := List.eq_nil_of_length_eq_zero hl0
          subst hl0'
          go_wp2_with (at_builtin; refine wpList_append_sat rfl (.tmp 45) (.tmp 58) 23 rfl w.heap.size 5 i0 (.int .u8 0) 1 1 Try.underlying23 hi0 hz0 hz1 hz2 rfl (by decide) _ 0 0 _ rfl hown0 0 none 0 0 [] rfl SAt.nil_ (by simp) ?c2 ?c3 ?c4 ?c5)
          case c2 => simp [maxLen]
          case c3 => omega
          case c4 => exact hbU.size
          case c5 =>
            intro A' c' w2 h2 _ h4 _
            have HF := Lib.hid (And.intro h2 (hbU.trans h4))
            clear h2 h4 hown0 hU0 hU1 hC0 hC1 hC2
            go_wp2_with fail
            go_ret2
            rw [hR3.out]
            exact ⟨_, rfl, ⟨A', c', by simp, by simpa [bytesV] using HF.out.1⟩, HF.out.2⟩
        · simp only [Value.slice.injEq] at hv0
          obtain ⟨rfl, -, rfl⟩ := hv0
          have hcbi : (bs.length : Int) ≤ (cb : Int) := by omega
          by_cases hco : cb = o
          · have hj0 : j = 0 := by omega
            subst hj0
            subst hco
            go_wp2_with (at_builtin; refine wpList_append_sat rfl (.tmp 45) (.tmp 58) 23 rfl w.heap.size 5 i0 (.int .u8 0) 1 1 Try.underlying23 hi0 hz0 hz1 hz2 rfl (by decide) _ 0 0 _ rfl hown0 0 (some ⟨g2, 0, none⟩) 0 0 [] rfl ⟨rfl, fun h => absurd h (by omega)⟩ (by simp) ?c2 ?c3 ?c4 ?c5)
            case c2 => simp [maxLen]
            case c3 => omega
            case c4 => exact hbU.size
            case c5 =>
              intro A' c' w2 h2 _ h4 _
              have HF := Lib.hid (And.intro h2 (hbU.trans h4))
              clear h2 h4 hown0 hU0 hU1 hC0 hC1 hC2 hbb
              go_wp2_with fail
              go_ret2
              rw [hR3.out]
              exact ⟨.slice A' 0 c', rfl, ⟨A', c', by simp, by simpa [bytesV] using HF.out.1⟩, HF.out.2⟩
          · have hHC := Lib.hid hco
            have hlen : ((bs.drop o).take j).length = j := by simp; omega
            have hat : SAt (wr.alloc (.cells #[] 5)) w.heap.size 1 (some ⟨g2, o, none⟩) (o + j - o) (bytesV ((bs.drop o).take j)) := by
              refine ⟨by simp [bytesV]; omega, fun hp => ⟨g2, o, rfl, (Array.getElem?_eq_some_iff.1 hg2).1, fun q u hu => ?_⟩⟩
              rw [hbU.cell (p := ⟨g2, o + q, none⟩) (Array.getElem?_eq_some_iff.1 hg2).1]
              have hq : q < j := by
                rcases Nat.lt_or_ge q j with h | h
                · exact h
                · rw [List.getElem?_eq_none (by simp [bytesV]; omega)] at hu; cases hu
              have h1 := hbb.row.cells (g := g2) rfl (o + q) u (by
                rw [← hu]; simp [bytesV, hq])
              rwa [addr_add, Nat.zero_add] at h1
            go_wp2_with (at_builtin; refine wpList_append_sat rfl (.tmp 45) (.tmp 58) 23 rfl w.heap.size 5 i0 (.int .u8 0) 1 1 Try.underlying23 hi0 hz0 hz1 hz2 rfl (by decide) _ 0 0 _ rfl hown0 w.heap.size (some ⟨g2, o, none⟩) (o + j - o) (cb - o) (bytesV ((bs.drop o).take j)) rfl hat (by intro u hu; simp only [bytesV, List.mem_map] at hu; obtain ⟨_, _, rfl⟩ := hu; rfl) ?c2 ?c3 ?c4 ?c5)
            case c2 => simp only [maxLen]; omega
            case c3 => omega
            case c4 => exact hbU.size
            case c5 =>
              intro A' c' w2 h2 _ h4 _
              have HF := Lib.hid (And.intro h2 (hbU.trans h4))
              clear h2 h4 hown0 hU0 hU1 hC0 hC1 hC2 hat hbb
              go_wp2_with fail
              go_ret2
              rw [hR3.out]
              exact ⟨.slice A' j c', rfl, ⟨A', c', by rw [hlen], by rw [hlen]; exact HF.out.1⟩, HF.out.2⟩
end
end Go.Proofs.Ytncogaikiceidaa
end
