/- An instruction as bytes (the program's Put, and the reference's): what it comes to, walked. No statement is proved here. -/
import Derived.Test.YtncogaikiceidaaBase
import Derived.Deep.DrawnRows
import Derived.Deep.RegionWith
import Derived.Deep.Cut
section
namespace Go.Proofs.Ytncogaikiceidaa
open Go.RowKit
theorem info5 : (Try.prog.info? 5).map (fun i => (i.zero, i.size, i.bytes)) = some (some (.int .u8 0), 1, 1) := by kernel_rfl
def Insn.bytes (x : Insn) : List Int := [x.op, x.dst + 16 * x.src, x.off % 256, x.off / 256 % 256, x.imm % 256, x.imm / 256 % 256, x.imm / 65536 % 256, x.imm / 16777216 % 256]
end Go.Proofs.Ytncogaikiceidaa
end
section
namespace Go.Proofs.Ytncogaikiceidaa
open Go.RowKit
theorem wrap_i16 (n : Int) : IntKind.i16.wrap n = (n + 32768) % 65536 - 32768 := by
  simp only [IntKind.wrap, IntKind.bits, IntKind.signed]; simp; split <;> omega
end Go.Proofs.Ytncogaikiceidaa
end
section
namespace Go.Proofs.Ytncogaikiceidaa
open Go.RowKit

end Go.Proofs.Ytncogaikiceidaa
end
section
namespace Go.Proofs.Ytncogaikiceidaa
open Go.RowKit
theorem wide_any (x : Insn) (w : World) : Calls Try.prog 47 #[x.val] w fun e w' => e = .returned (.bool (x.op == 24)) ∧ Below w.heap.size w w' := by
  go_enter Try.func47, Try.ntmps47
  go_wp2
  go_ret
  exact ⟨rfl, (Below.refl _ _).alloc (Nat.le_refl _) _⟩
def longI (i j : Int) : Int := i % 4294967296 + 4294967296 * (j % 4294967296)
theorem rlong_any (x y : Insn) (w : World) : Calls Try.prog 65 #[x.val, y.val] w fun e w' => e = .returned (.int .u64 (longI x.imm y.imm)) ∧ Below w.heap.size w w' := by
  go_enter Try.func65, Try.ntmps65
  go_wp2
  go_ret
  exact ⟨rfl, ((Below.refl _ _).alloc (Nat.le_refl _) _).alloc (by simp) _⟩
def isByte (n : Int) : Prop := 0 ≤ n ∧ n ≤ 255
theorem str_toList (a : List Int) : (strOfNums a).toList = a.map fun n => UInt8.ofNat n.toNat := by rw [ByteArray.toList_eq]; rfl
theorem byte_inj {x y : Int} (hx : isByte x) (hy : isByte y) (h : UInt8.ofNat x.toNat = UInt8.ofNat y.toNat) : x = y := by
  have := congrArg UInt8.toNat h
  simp only [UInt8.toNat_ofNat'] at this
  obtain ⟨h1, h2⟩ := hx
  obtain ⟨h3, h4⟩ := hy
  omega
theorem str_inj : ∀ (a b : List Int), (∀ x ∈ a, isByte x) → (∀ x ∈ b, isByte x) → (a.map fun n => UInt8.ofNat n.toNat) = (b.map fun n => UInt8.ofNat n.toNat) → a = b
  | [], [], _, _, _ => rfl
  | [], _ :: _, _, _, h => by simp at h
  | _ :: _, [], _, _, h => by simp at h
  | x :: a, y :: b, ha, hb, h => by
    simp only [List.map_cons, List.cons.injEq] at h
    rw [byte_inj (ha x (by simp)) (hb y (by simp)) h.1, str_inj a b (fun z hz => ha z (by simp [hz])) (fun z hz => hb z (by simp [hz])) h.2]
theorem str_beq (a b : List Int) (ha : ∀ x ∈ a, isByte x) (hb : ∀ x ∈ b, isByte x) : ((strOfNums a).toList == (strOfNums b).toList) = decide (a = b) := by
  rw [str_toList, str_toList, Bool.eq_iff_iff]
  simp only [beq_iff_eq, decide_eq_true_eq]
  exact ⟨str_inj a b ha hb, fun h => by rw [h]⟩
end Go.Proofs.Ytncogaikiceidaa
end
section
namespace Go.Proofs.Ytncogaikiceidaa
open Go.RowKit
theorem sbelow_alloc {B : Nat} {W w : World} {o : Obj} (h : Below B W w) (hB : B ≤ W.heap.size) : Below B W (w.alloc o) := h.alloc (Nat.le_trans hB h.size) o
theorem sbelow_drew {B : Nat} {W w : World} (h : Below B W w) : Below B W w.drew := h.drew
theorem sbelow_drewN {B n : Nat} {W w : World} (h : Below B W w) : Below B W (w.drewN n) := below_drewN h n
attribute [go_sem] sbelow_alloc sbelow_drew sbelow_drewN
/-- What is known of an instruction in a block below B, in every world that keeps what is below B. -/
theorem box24 {W : World} {g B : Nat} (x : Insn) (hg : g < B) (h : W.heap[g]? = some (.cells #[.int .u8 x.op, .int .u8 x.dst, .int .u8 x.src, .int .i16 x.off, .int .i32 x.imm] 40)) :
    (∀ w', Below B W w' → w'.cell? ⟨g, 0, none⟩ = some (.int .u8 x.op)) ∧ (∀ w', Below B W w' → w'.cell? ⟨g, 1, none⟩ = some (.int .u8 x.dst)) ∧ (∀ w', Below B W w' → w'.cell? ⟨g, 2, none⟩ = some (.int .u8 x.src)) ∧
    (∀ w', Below B W w' → w'.cell? ⟨g, 3, none⟩ = some (.int .i16 x.off)) ∧ (∀ w', Below B W w' → w'.cell? ⟨g, 4, none⟩ = some (.int .i32 x.imm)) := by
  refine ⟨?_, ?_, ?_, ?_, ?_⟩ <;> (intro w' hb; rw [hb.cell (p := ⟨g, _, none⟩) hg, cell_of_row W g _ _ 40 (0, 0) h]; rfl)
theorem own_cap {w : World} {base e size n c : Nat} {A : Option Addr} {xs : List Value} (h : w.ownsRow base e size (.slice A n c) n xs) : n ≤ c := by
  rcases h.2 with ⟨hv, h0⟩ | ⟨g, cap, cur, hv, _, _, hnc, _⟩
  · omega
  · injection hv with _ _ hc
    omega
end Go.Proofs.Ytncogaikiceidaa
end
section
namespace Go.Proofs.Ytncogaikiceidaa
open Go.RowKit
theorem eq_insn (a b : Insn) (w : World) : (binOp .eql 40 a.val b.val).run Try.prog w = .ok (.bool (decide (a = b))) w := by
  have e : decide (a = b) = (decide (a.op = b.op) && (decide (a.dst = b.dst) && (decide (a.src = b.src) && (decide (a.off = b.off) && decide (a.imm = b.imm))))) := by
    obtain ⟨a1, a2, a3, a4, a5⟩ := a
    obtain ⟨b1, b2, b3, b4, b5⟩ := b
    rw [Bool.eq_iff_iff]
    simp
  rw [e]
  by_cases h1 : a.op = b.op <;> by_cases h2 : a.dst = b.dst <;> by_cases h3 : a.src = b.src <;> by_cases h4 : a.off = b.off <;> by_cases h5 : a.imm = b.imm <;> simp [go_sem, h1, h2, h3, h4, h5]
theorem neq_insn (a b : Insn) (w : World) : (binOp .neq 40 a.val b.val).run Try.prog w = .ok (.bool (!decide (a = b))) w := by
  have e : decide (a = b) = (decide (a.op = b.op) && (decide (a.dst = b.dst) && (decide (a.src = b.src) && (decide (a.off = b.off) && decide (a.imm = b.imm))))) := by
    obtain ⟨a1, a2, a3, a4, a5⟩ := a
    obtain ⟨b1, b2, b3, b4, b5⟩ := b
    rw [Bool.eq_iff_iff]
    simp
  rw [e]
  by_cases h1 : a.op = b.op <;> by_cases h2 : a.dst = b.dst <;> by_cases h3 : a.src = b.src <;> by_cases h4 : a.off = b.off <;> by_cases h5 : a.imm = b.imm <;> simp [go_sem, h1, h2, h3, h4, h5]
end Go.Proofs.Ytncogaikiceidaa
end
section
namespace Go.Proofs.Ytncogaikiceidaa
open Go.RowKit
end Go.Proofs.Ytncogaikiceidaa
end
section
namespace Go.Proofs.Ytncogaikiceidaa
open Go.RowKit
def zerosB (x : Insn) (s o i : Bool) : Bool := (!s || x.src == 0) && ((!o || x.off == 0) && (!i || x.imm == 0))
theorem bits_byte (k : Int) (f : Int → Int) (h : ∀ n : Fin 256, bits .and .u8 (n.val : Int) k = f n.val) (x : Int) (h0 : 0 ≤ x) (h1 : x ≤ 255) : bits .and .u8 x k = f x := by
  have := h ⟨x.toNat, by omega⟩
  rw [show (((⟨x.toNat, by omega⟩ : Fin 256).val : Nat) : Int) = x by simp; omega] at this
  exact this
theorem and240 (x : Int) (h0 : 0 ≤ x) (h1 : x ≤ 255) : bits .and .u8 x 240 = x / 16 * 16 := bits_byte 240 (fun x => x / 16 * 16) (by decide +kernel) x h0 h1
theorem and8 (x : Int) (h0 : 0 ≤ x) (h1 : x ≤ 255) : bits .and .u8 x 8 = x / 8 % 2 * 8 := bits_byte 8 (fun x => x / 8 % 2 * 8) (by decide +kernel) x h0 h1
theorem and24 (x : Int) (h0 : 0 ≤ x) (h1 : x ≤ 255) : bits .and .u8 x 24 = x / 8 % 4 * 8 := bits_byte 24 (fun x => x / 8 % 4 * 8) (by decide +kernel) x h0 h1
theorem and224 (x : Int) (h0 : 0 ≤ x) (h1 : x ≤ 255) : bits .and .u8 x 224 = x / 32 * 32 := bits_byte 224 (fun x => x / 32 * 32) (by decide +kernel) x h0 h1
def sizeM (op : Int) : Int := if op / 8 % 4 = 0 then 4 else if op / 8 % 4 = 1 then 2 else if op / 8 % 4 = 2 then 1 else 8
theorem SAt.byte {w : World} {B : Nat} {A : Option Addr} {l : List Int} (h : SAt w B 1 A l.length (bytesV l)) {k : Nat} (hk : k < l.length) :
    ∃ b o, A = some ⟨b, o, none⟩ ∧ b < B ∧ w.cell? ⟨b, o + k, none⟩ = some (.int .u8 l[k]) := by
  obtain ⟨b, o, rfl, hb, hc⟩ := h.2 (by omega)
  exact ⟨b, o, rfl, hb, hc k _ (by simp [bytesV, List.getElem?_eq_getElem hk])⟩
theorem contains_at {l : List Int} {n : Int} {k : Nat} (hk : k < l.length) (h : l[k] = n) : l.contains n = true := by
  rw [List.contains_iff_mem, ← h]; exact List.getElem_mem hk
theorem contains_not {l : List Int} {n : Int} (h : ∀ (i : Nat) (hi : i < l.length), l[i] ≠ n) : l.contains n = false := by
  rw [Bool.eq_false_iff, ne_eq, List.contains_iff_mem]
  intro hm
  obtain ⟨i, hi, he⟩ := List.getElem_of_mem hm
  exact h i hi he
theorem ne_step {l : List Int} {y : Int} {j : Nat} (hj : j < l.length) (h : ∀ (i : Nat) (hi : i < l.length), i < j → l[i] ≠ y) (h' : ¬l[j] = y) : ∀ (i : Nat) (hi : i < l.length), i < j + 1 → l[i] ≠ y := by
  intro i hi hlt
  rcases Nat.lt_or_ge i j with h1 | h1
  · exact h i hi h1
  · have e : i = j := by omega
    subst e
    exact h'
end Go.Proofs.Ytncogaikiceidaa
end
section
namespace Go.Proofs.Ytncogaikiceidaa
open Go.RowKit
/-- What stands in a second list where one stands in the first, or 0. -/
def sizesM : List Int → List Int → Int → Int
  | a :: l, s :: ss, op => if a = op then s else sizesM l ss op
  | _, _, _ => 0
theorem sizesM_at : ∀ {l ss : List Int} {op : Int} {j : Nat} (hj : j < l.length) (hs : j < ss.length), (∀ (i : Nat) (hi : i < l.length), i < j → l[i] ≠ op) → l[j] = op → sizesM l ss op = ss[j]
  | a :: l, s :: ss, op, 0, _, _, _, h => by simp at h; simp [sizesM, h]
  | a :: l, s :: ss, op, j + 1, hj, hs, hne, h => by
    have h0 := hne 0 (by simp) (by omega)
    simp at h0 h
    simp only [sizesM, if_neg h0, List.getElem_cons_succ]
    exact sizesM_at (by simpa using hj) (by simpa using hs) (fun i hi hlt => hne (i + 1) (Nat.succ_lt_succ hi) (Nat.succ_lt_succ hlt)) h
theorem sizesM_not : ∀ {l ss : List Int} {op : Int}, (∀ (i : Nat) (hi : i < l.length), l[i] ≠ op) → sizesM l ss op = 0
  | [], _, _, _ => by simp [sizesM]
  | a :: l, [], op, _ => by simp [sizesM]
  | a :: l, s :: ss, op, hne => by
    have h0 := hne 0 (by simp)
    simp at h0
    simp only [sizesM, if_neg h0]
    exact sizesM_not (fun i hi => hne (i + 1) (Nat.succ_lt_succ hi))
def int32V (l : List Int) : List Value := l.map (Value.int .i32)
theorem SAt.i32 {w : World} {B : Nat} {A : Option Addr} {l : List Int} (h : SAt w B 1 A l.length (int32V l)) {k : Nat} (hk : k < l.length) :
    ∃ b o, A = some ⟨b, o, none⟩ ∧ b < B ∧ w.cell? ⟨b, o + k, none⟩ = some (.int .i32 l[k]) := by
  obtain ⟨b, o, rfl, hb, hc⟩ := h.2 (by omega)
  exact ⟨b, o, rfl, hb, hc k _ (by simp [int32V, List.getElem?_eq_getElem hk])⟩
/-- The place at which one stands, or -1. -/
def IdxOf (l : List Int) (y k : Int) : Prop := (0 ≤ k ∧ l.contains y = true) ∨ (k = -1 ∧ l.contains y = false)
end Go.Proofs.Ytncogaikiceidaa
end
section
namespace Go.Proofs.Ytncogaikiceidaa
open Go.RowKit
def What.zero : What := ⟨0, 0, false, false, false, 0⟩
/-- Without a yes, nothing. -/
def norm (r : What × Bool) : What × Bool := if r.2 then (r.1, true) else (What.zero, false)
def regB (x : Insn) : Bool := x.op / 8 % 2 == 1
def arithM (x : Insn) : What × Bool :=
  let w : What := ⟨1, x.op / 16 * 16, x.op % 8 == 7, regB x, false, 0⟩
  let ok := x.dst != 10 && zerosB x (!regB x) false (regB x)
  if x.op / 16 = 3 ∨ x.op / 16 = 9 then (w, ok && (x.off == 0 || x.off == 1))
  else if x.op / 16 = 8 then (w, ok && !regB x && zerosB x true true true)
  else if x.op / 16 = 11 then (w, ok && (x.off == 0 || regB x && (x.off == 8 || x.off == 16 || x.off == 32 && w.wide)))
  else if x.op / 16 < 13 then (w, ok && x.off == 0)
  else (w, false)
def swapsM (x : Insn) : What × Bool := (⟨2, 0, x.op != 212, false, false, x.imm.tdiv 8⟩, x.dst != 10 && zerosB x true true false && (x.imm == 16 || x.imm == 32 || x.imm == 64))
def wideM (x : Insn) : What × Bool :=
  if x.src = 0 then (⟨3, 0, true, false, false, 0⟩, x.dst != 10 && x.off == 0)
  else if x.src = 1 then (⟨4, 0, true, false, false, 0⟩, (x.dst != 10 && x.off == 0) && decide (0 ≤ x.imm))
  else (What.zero, false)
def kindW (k : Int) : What := ⟨k, 0, false, false, false, 0⟩
def branchG (g : Int) : Bool := 1 ≤ g ∧ g ≤ 13 ∧ g ≠ 8 ∧ g ≠ 9
def jumpsM (x : Insn) : What × Bool :=
  if x.op = 5 then (kindW 9, x.dst == 0 && zerosB x true false true)
  else if x.op = 6 then (kindW 9, x.dst == 0 && zerosB x true true false)
  else if x.op = 133 then (kindW 11, x.dst == 0 && zerosB x true true false)
  else if x.op = 149 then (kindW 12, x.dst == 0 && zerosB x true true true)
  else (⟨10, x.op / 16 * 16, x.op % 8 == 5, regB x, false, 0⟩, branchG (x.op / 16) && zerosB x (!regB x) false (regB x))
def atomI (n : Int) : Bool := [0, 64, 80, 160].contains n
def movesM (x : Insn) : What × Bool :=
  let z := sizeM x.op
  let m := x.op / 32 * 32
  if x.op % 8 = 1 then (⟨5, 0, false, false, m == 128, z⟩, x.dst != 10 && x.imm == 0 && (m == 96 || m == 128 && decide (z < 8)))
  else if x.op % 8 = 2 then (⟨6, 0, false, false, false, z⟩, m == 96 && x.src == 0)
  else if x.op % 8 = 3 then
    if m = 96 then (⟨7, 0, false, true, false, z⟩, x.imm == 0)
    else (⟨8, x.imm % 256, false, true, false, z⟩, m == 192 && decide (4 ≤ z) && atomI x.imm)
  else (⟨0, 0, false, false, false, z⟩, false)
def whatM (x : Insn) : What × Bool :=
  if 10 < x.dst ∨ 10 < x.src then (What.zero, false)
  else if x.op = 24 then wideM x
  else if x.op = 212 ∨ x.op = 220 ∨ x.op = 215 then swapsM x
  else if x.op % 8 = 4 ∨ x.op % 8 = 7 then arithM x
  else if x.op % 8 = 5 ∨ x.op % 8 = 6 then jumpsM x
  else if x.op % 8 = 0 then (What.zero, false)
  else movesM x
/-! the reference -/
def onlyB (x : Insn) (s o i : Bool) : Bool := zerosB x (!s) (!o) (!i)
def rarithM (x : Insn) : What × Bool :=
  let w : What := ⟨1, x.op / 16 * 16, x.op % 8 == 7, regB x, false, 0⟩
  if x.dst = 10 then (What.zero, false)
  else if x.op / 16 = 8 then (w, !regB x && onlyB x false false false)
  else
    let off := if x.op / 16 = 3 ∨ x.op / 16 = 9 then x.off == 0 || x.off == 1
      else if x.op / 16 = 11 then x.off == 0 || regB x && (x.off == 8 || x.off == 16 || w.wide && x.off == 32)
      else x.off == 0
    (w, [0, 16, 32, 64, 80, 160, 96, 112, 192, 48, 144, 176].contains (x.op / 16 * 16) && off && onlyB x (regB x) true (!regB x))
def rmemoryM (x : Insn) : What × Bool :=
  let load := sizesM [97, 105, 113, 121] [4, 2, 1, 8] x.op
  let signed := sizesM [129, 137, 145] [4, 2, 1, 8] x.op
  let store := sizesM [98, 106, 114, 122] [4, 2, 1, 8] x.op
  let put := sizesM [99, 107, 115, 123] [4, 2, 1, 8] x.op
  if 0 < load + signed then (⟨5, 0, false, false, decide (0 < signed), load + signed⟩, x.dst != 10 && onlyB x true true false)
  else if 0 < store then (⟨6, 0, false, false, false, store⟩, onlyB x false true true)
  else if 0 < put then (⟨7, 0, false, true, false, put⟩, onlyB x true true false)
  else if x.op = 195 ∨ x.op = 219 then (⟨8, x.imm % 256, false, true, false, if x.op = 219 then 8 else 4⟩, x.imm == 0 || x.imm == 64 || x.imm == 80 || x.imm == 160)
  else (What.zero, false)
def rotherM (x : Insn) : What × Bool :=
  if x.op = 212 ∨ x.op = 220 ∨ x.op = 215 then (⟨2, 0, x.op != 212, false, false, x.imm.tdiv 8⟩, x.dst != 10 && onlyB x false false true && (x.imm == 16 || x.imm == 32 || x.imm == 64))
  else if x.op = 24 then
    if x.src = 0 then (⟨3, 0, true, false, false, 0⟩, x.dst != 10 && x.off == 0)
    else (⟨4, 0, true, false, false, 0⟩, x.dst != 10 && x.off == 0 && x.src == 1 && decide (0 ≤ x.imm))
  else if x.op = 5 then (kindW 9, x.dst == 0 && onlyB x false true false)
  else if x.op = 6 then (kindW 9, x.dst == 0 && onlyB x false false true)
  else if x.op = 133 then (kindW 11, x.dst == 0 && onlyB x false false true)
  else if x.op = 149 then (kindW 12, x.dst == 0 && onlyB x false false false)
  else (What.zero, false)
def rwhatM (x : Insn) : What × Bool :=
  if 10 < x.dst ∨ 10 < x.src then (What.zero, false)
  else if [212, 220, 215, 24, 5, 6, 133, 149].contains x.op then rotherM x
  else if x.op % 8 = 4 ∨ x.op % 8 = 7 then rarithM x
  else if x.op % 8 = 5 ∨ x.op % 8 = 6 then (⟨10, x.op / 16 * 16, x.op % 8 == 5, regB x, false, 0⟩, [16, 32, 48, 64, 80, 96, 112, 160, 176, 192, 208].contains (x.op / 16 * 16) && onlyB x (regB x) true (!regB x))
  else rmemoryM x
def sixteen (n : Int) : Prop := n = 0 ∨ n = 1 ∨ n = 2 ∨ n = 3 ∨ n = 4 ∨ n = 5 ∨ n = 6 ∨ n = 7 ∨ n = 8 ∨ n = 9 ∨ n = 10 ∨ n = 11 ∨ n = 12 ∨ n = 13 ∨ n = 14 ∨ n = 15
theorem op_low {op : Int} (l g : Int) (hl : op % 16 = l) (hg : op / 16 = g) : op = 16 * g + l := by omega
set_option maxHeartbeats 40000000 in
set_option linter.unusedSimpArgs false in
theorem what_eq (x : Insn) (h : x.Ok) : norm (whatM x) = norm (rwhatM x) := by
  obtain ⟨h0, h1, -, -, -, -, -, -, -, -⟩ := h
  obtain ⟨op, dst, src, off, imm⟩ := x
  simp only at h0 h1
  have hg : sixteen (op / 16) := by unfold sixteen; omega
  have hl : sixteen (op % 16) := by unfold sixteen; omega
  unfold whatM rwhatM
  by_cases hd : 10 < dst ∨ 10 < src
  · rw [if_pos hd, if_pos hd]
  rw [if_neg hd, if_neg hd]
  clear hd
  rcases hg with hg | hg | hg | hg | hg | hg | hg | hg | hg | hg | hg | hg | hg | hg | hg | hg <;>
  rcases hl with hl | hl | hl | hl | hl | hl | hl | hl | hl | hl | hl | hl | hl | hl | hl | hl <;>
  (have hop := op_low _ _ hl hg
   simp only [Int.reduceMul, Int.reduceAdd] at hop
   subst hop
   clear h0 h1 hl hg
   first
   | (simp [norm, whatM, rwhatM, wideM, swapsM, arithM, jumpsM, movesM, rotherM, rarithM, rmemoryM, onlyB, zerosB, regB, sizeM, sizesM, branchG, atomI, kindW, bne, or_assoc]; done)
   | (by_cases e1 : dst = 10 <;> by_cases e2 : src = 0 <;> by_cases e3 : off = 0 <;> by_cases e4 : imm = 0 <;> simp [norm, whatM, rwhatM, wideM, swapsM, arithM, jumpsM, movesM, rotherM, rarithM, rmemoryM, onlyB, zerosB, regB, sizeM, sizesM, branchG, atomI, kindW, bne, or_assoc, *]; done)
   | (by_cases e2 : off = 0
      · subst e2
        by_cases e1 : dst = 10 <;> by_cases e3 : src = 0 <;> by_cases e4 : imm = 0 <;> simp [norm, whatM, rwhatM, wideM, swapsM, arithM, jumpsM, movesM, rotherM, rarithM, rmemoryM, onlyB, zerosB, regB, sizeM, sizesM, branchG, atomI, kindW, bne, or_assoc, *]; done
      · by_cases e5 : off = 1
        · subst e5
          by_cases e1 : dst = 10 <;> by_cases e3 : src = 0 <;> by_cases e4 : imm = 0 <;> simp [norm, whatM, rwhatM, wideM, swapsM, arithM, jumpsM, movesM, rotherM, rarithM, rmemoryM, onlyB, zerosB, regB, sizeM, sizesM, branchG, atomI, kindW, bne, or_assoc, *]; done
        · by_cases e1 : dst = 10 <;> by_cases e3 : src = 0 <;> by_cases e4 : imm = 0 <;> simp [norm, whatM, rwhatM, wideM, swapsM, arithM, jumpsM, movesM, rotherM, rarithM, rmemoryM, onlyB, zerosB, regB, sizeM, sizesM, branchG, atomI, kindW, bne, or_assoc, *]; done)
   | (by_cases e3 : src = 0
      · subst e3
        by_cases e1 : dst = 10 <;> by_cases e2 : off = 0 <;> simp [norm, whatM, rwhatM, wideM, swapsM, arithM, jumpsM, movesM, rotherM, rarithM, rmemoryM, onlyB, zerosB, regB, sizeM, sizesM, branchG, atomI, kindW, bne, or_assoc, *]; done
      · by_cases e4 : src = 1
        · subst e4
          by_cases e1 : dst = 10 <;> by_cases e2 : off = 0 <;> simp [norm, whatM, rwhatM, wideM, swapsM, arithM, jumpsM, movesM, rotherM, rarithM, rmemoryM, onlyB, zerosB, regB, sizeM, sizesM, branchG, atomI, kindW, bne, or_assoc, *]; done
        · by_cases e1 : dst = 10 <;> by_cases e2 : off = 0 <;> simp [norm, whatM, rwhatM, wideM, swapsM, arithM, jumpsM, movesM, rotherM, rarithM, rmemoryM, onlyB, zerosB, regB, sizeM, sizesM, branchG, atomI, kindW, bne, or_assoc, *]; done)
   | (by_cases e1 : dst = 10 <;> by_cases e4 : imm = 0 <;> by_cases e2 : off = 0 <;> by_cases e5 : off = 8 <;> by_cases e6 : off = 16 <;> simp [norm, whatM, rwhatM, wideM, swapsM, arithM, jumpsM, movesM, rotherM, rarithM, rmemoryM, onlyB, zerosB, regB, sizeM, sizesM, branchG, atomI, kindW, bne, or_assoc, *]))
def sem (x : Insn) : What × Bool := norm (whatM x)
theorem sem_ref (x : Insn) (h : x.Ok) : norm (rwhatM x) = sem x := (what_eq x h).symm
end Go.Proofs.Ytncogaikiceidaa
end
section
namespace Go.Proofs.Ytncogaikiceidaa
open Go.RowKit
attribute [local go_sem ↓] Go.wp_at_zero Go.wp_at_succ
abbrev Insn.obj (x : Insn) : Obj := .cells #[.int .u8 x.op, .int .u8 x.dst, .int .u8 x.src, .int .i16 x.off, .int .i32 x.imm] 40
/-- A What and a Bool are handed back. -/
def WhatAnd (W : World) (r : What × Bool) (e : Ending) (w' : World) : Prop := e = .returned (.tuple #[r.1.val, .bool r.2]) ∧ Below W.heap.size W w'
theorem zeros_is (x : Insn) (s o i : Bool) (w : World) : Calls Try.prog 74 #[x.val, .bool s, .bool o, .bool i] w fun e w' => e = .returned (.bool (zerosB x s o i)) ∧ w' = w.alloc x.obj := by
  by_cases h1 : x.src = 0 <;> by_cases h2 : x.off = 0 <;> cases s <;> cases o <;> cases i <;>
  (go_enter Try.func74, Try.ntmps74
   go_wp2
   go_ret
   exact ⟨by simp [zerosB, bne, *], by first | rfl | simp [Insn.obj, *]⟩)
theorem only_is (x : Insn) (s o i : Bool) (w : World) : Calls Try.prog 43 #[x.val, .bool s, .bool o, .bool i] w fun e w' => e = .returned (.bool (zerosB x (!s) (!o) (!i))) ∧ w' = w.alloc x.obj := by
  by_cases h1 : x.src = 0 <;> by_cases h2 : x.off = 0 <;> cases s <;> cases o <;> cases i <;>
  (go_enter Try.func43, Try.ntmps43
   go_wp2
   go_ret
   exact ⟨by simp [zerosB, *], by first | rfl | simp [Insn.obj, *]⟩)
theorem and7 (x : Int) (h0 : 0 ≤ x) (h1 : x ≤ 255) : bits .and .u8 x 7 = x % 8 := bits_byte 7 (fun x => x % 8) (by decide +kernel) x h0 h1
theorem class_is (x : Insn) (hx : x.Ok) (w : World) : Calls Try.prog 59 #[x.val] w fun e w' => e = .returned (.int .u8 (x.op % 8)) ∧ w' = w.alloc x.obj := by
  have h := and7 x.op hx.op0 hx.op1
  go_enter Try.func59, Try.ntmps59
  go_wp2
  go_ret
  exact ⟨by rfl, rfl⟩
end Go.Proofs.Ytncogaikiceidaa
end
section
namespace Go.Proofs.Ytncogaikiceidaa
open Go.RowKit
set_option linter.unusedSimpArgs false
set_option linter.unusedVariables false
theorem box_two (x : Insn) (w : World) (o : Obj) : (∀ w', Below (w.heap.size + 2) ((w.alloc x.obj).alloc o) w' → w'.cell? ⟨w.heap.size, 0, none⟩ = some (.int .u8 x.op)) ∧ (∀ w', Below (w.heap.size + 2) ((w.alloc x.obj).alloc o) w' → w'.cell? ⟨w.heap.size, 1, none⟩ = some (.int .u8 x.dst)) ∧ (∀ w', Below (w.heap.size + 2) ((w.alloc x.obj).alloc o) w' → w'.cell? ⟨w.heap.size, 2, none⟩ = some (.int .u8 x.src)) ∧
    (∀ w', Below (w.heap.size + 2) ((w.alloc x.obj).alloc o) w' → w'.cell? ⟨w.heap.size, 3, none⟩ = some (.int .i16 x.off)) ∧ (∀ w', Below (w.heap.size + 2) ((w.alloc x.obj).alloc o) w' → w'.cell? ⟨w.heap.size, 4, none⟩ = some (.int .i32 x.imm)) :=
  box24 x (by omega) (by rw [Below.heap_alloc _ _ _ (by simp)]; exact heap_alloc_new w _)
theorem size_two (w : World) (o o' : Obj) : ((w.alloc o).alloc o').heap.size = w.heap.size + 2 := by simp
theorem below_two (w : World) (o o' : Obj) : Below w.heap.size w ((w.alloc o).alloc o') := ((Below.refl _ _).alloc (Nat.le_refl _) _).alloc (by simp) _
abbrev What.obj (r : What) : Obj := .cells #[.int .u8 r.kind, .int .u8 r.op, .bool r.wide, .bool r.reg, .bool r.sgn, .int .i64 r.size] 42
theorem box44 {W : World} {g B : Nat} (r : What) (hg : g < B) (h : W.heap[g]? = some r.obj) :
    (∀ w', Below B W w' → w'.cell? ⟨g, 0, none⟩ = some (.int .u8 r.kind)) ∧ (∀ w', Below B W w' → w'.cell? ⟨g, 1, none⟩ = some (.int .u8 r.op)) ∧ (∀ w', Below B W w' → w'.cell? ⟨g, 2, none⟩ = some (.bool r.wide)) ∧
    (∀ w', Below B W w' → w'.cell? ⟨g, 3, none⟩ = some (.bool r.reg)) ∧ (∀ w', Below B W w' → w'.cell? ⟨g, 4, none⟩ = some (.bool r.sgn)) ∧ (∀ w', Below B W w' → w'.cell? ⟨g, 5, none⟩ = some (.int .i64 r.size)) := by
  refine ⟨?_, ?_, ?_, ?_, ?_, ?_⟩ <;> (intro w' hb; rw [hb.cell (p := ⟨g, _, none⟩) hg, cell_of_row W g _ _ 42 (0, 0) h]; rfl)
theorem thaw44 {W : World} {g B : Nat} (r : What) (hg : g < B) (h : W.heap[g]? = some r.obj) (k : Nat) : ∀ w', Below B W w' → w'.frozen? ⟨g, k, none⟩ = false := by
  intro w' hb
  rw [hb.frozen (p := ⟨g, _, none⟩) hg]
  exact frozen_of_row W g k _ 42 h
theorem heap_two_new (w : World) (o o' : Obj) : ((w.alloc o).alloc o').heap[w.heap.size + 1]? = some o' := by
  have := heap_alloc_new (w.alloc o) o'
  simpa using this
theorem at_one {W : World} {o o' : Obj} {s : Nat} (hs : W.heap.size = s) : ((W.alloc o).alloc o').drew.heap[s]? = some o := by
  subst hs
  show ((W.alloc o).alloc o').heap[W.heap.size]? = _
  rw [Below.heap_alloc _ _ _ (by simp)]
  exact heap_alloc_new W o
theorem at_two {W : World} {o o' : Obj} {s : Nat} (hs : W.heap.size = s) : ((W.alloc o).alloc o').drew.heap[s + 1]? = some o' := by
  subst hs
  exact heap_two_new W o o'
/-- Two blocks are as they were. -/
structure Keep2 (a b : Nat) (W w' : World) : Prop where
  size : W.heap.size ≤ w'.heap.size
  one : w'.heap[a]? = W.heap[a]?
  two : w'.heap[b]? = W.heap[b]?
section
variable {a b : Nat} {W w : World}
theorem keep2_refl : Keep2 a b W W := ⟨Nat.le_refl _, rfl, rfl⟩
theorem keep2_alloc {o : Obj} (h : Keep2 a b W w) (ha : a < W.heap.size) (hb : b < W.heap.size) : Keep2 a b W (w.alloc o) :=
  ⟨Nat.le_trans h.size (by simp), (Below.heap_alloc _ _ _ (Nat.lt_of_lt_of_le ha h.size)).trans h.one, (Below.heap_alloc _ _ _ (Nat.lt_of_lt_of_le hb h.size)).trans h.two⟩
theorem keep2_drew (h : Keep2 a b W w) : Keep2 a b W w.drew := ⟨h.size, h.one, h.two⟩
theorem keep2_set {p : Addr} {u : Value} (h : Keep2 a b W w) (ha : a ≠ p.block) (hb : b ≠ p.block) : Keep2 a b W (w.setCell p u) :=
  ⟨by simpa using h.size, (Below.heap_setCell _ _ _ _ ha).trans h.one, (Below.heap_setCell _ _ _ _ hb).trans h.two⟩
theorem keep2_one {k : Nat} {u : Value} (h : W.cell? ⟨a, k, none⟩ = some u) : ∀ w', Keep2 a b W w' → w'.cell? ⟨a, k, none⟩ = some u := fun w' hk => (World.cell?_of_block (a := ⟨a, k, none⟩) hk.one).trans h
theorem keep2_two {k : Nat} {u : Value} (h : W.cell? ⟨b, k, none⟩ = some u) : ∀ w', Keep2 a b W w' → w'.cell? ⟨b, k, none⟩ = some u := fun w' hk => (World.cell?_of_block (a := ⟨b, k, none⟩) hk.two).trans h
end
theorem three_heap (w : World) (o1 o2 o3 : Obj) : (((w.alloc o1).alloc o2).alloc o3).heap[w.heap.size]? = some o1 ∧ (((w.alloc o1).alloc o2).alloc o3).heap[w.heap.size + 1]? = some o2 ∧ (((w.alloc o1).alloc o2).alloc o3).heap[w.heap.size + 1 + 1]? = some o3 ∧
    (((w.alloc o1).alloc o2).alloc o3).heap.size = w.heap.size + 3 ∧ Below w.heap.size w (((w.alloc o1).alloc o2).alloc o3) := by
  refine ⟨?_, ?_, ?_, by simp, (below_two w o1 o2).alloc (by rw [size_two]; omega) _⟩
  · rw [Below.heap_alloc _ _ _ (by rw [size_two]; omega), Below.heap_alloc _ _ _ (by simp)]
    exact heap_alloc_new w _
  · rw [Below.heap_alloc _ _ _ (by rw [size_two]; omega)]
    exact heap_two_new w _ _
  · have := heap_two_new (w.alloc o1) o2 o3
    simpa using this
theorem tdiv8 (n : Int) (h0 : -2147483648 ≤ n) (h1 : n ≤ 2147483647) : wrap64 (wrap32 (n.tdiv 8)) = n.tdiv 8 := by
  have h : -2147483648 ≤ n.tdiv 8 ∧ n.tdiv 8 ≤ 2147483647 := by
    rcases Int.le_total 0 n with h | h
    · rw [Int.tdiv_eq_ediv_of_nonneg h]; omega
    · obtain ⟨m, rfl⟩ : ∃ m, n = -m := ⟨-n, by omega⟩
      rw [Int.neg_tdiv, Int.tdiv_eq_ediv_of_nonneg (by omega)]; omega
  unfold wrap64 wrap32
  omega
end Go.Proofs.Ytncogaikiceidaa
end
section
namespace Go.Proofs.Ytncogaikiceidaa
open Go.RowKit
set_option linter.unusedSimpArgs false
set_option linter.unusedVariables false
theorem size_is (op : Int) (h0 : 0 ≤ op) (h1 : op ≤ 255) (w : World) : Calls Try.prog 75 #[.int .u8 op] w fun e w' => e = .returned (.int .i64 (sizeM op)) ∧ w' = w := by
  have e := and24 op h0 h1
  have hc : op / 8 % 4 = 0 ∨ op / 8 % 4 = 1 ∨ op / 8 % 4 = 2 ∨ op / 8 % 4 = 3 := by omega
  rcases hc with hc | hc | hc | hc <;> rw [hc] at e <;> simp only [Int.reduceMul] at e <;>
  (go_enter Try.func75, Try.ntmps75
   go_wp2
   go_ret
   exact ⟨by simp [sizeM, *], rfl⟩)
set_option maxRecDepth 100000 in
theorem index_is (l : List Int) (y : Int) (A : Option Addr) (c : Nat) (hn : l.length < 1000000) (w : World) (h : SAt w w.heap.size 1 A l.length (int32V l)) :
    Calls Try.prog 88 #[.slice A l.length c, .int .i32 y] w fun e w' => (∃ k, e = .returned (.int .i64 k) ∧ IdxOf l y k) ∧ w' = w := by
  go_enter Try.func88, Try.ntmps88
  go_wp2_with fail
  go_loopw [8, 5] (fun k _ wr => ∃ j : Nat, j ≤ l.length ∧ k = .int .i64 j ∧ wr = w ∧ ∀ (i : Nat) (hi : i < l.length), i < j → l[i] ≠ y) (fun k _ _ => l.length - (intOf k).toNat)
  case atStart => exact ⟨0, by omega, rfl, rfl, fun i _ h => absurd h (by omega)⟩
  case round =>
    obtain ⟨j, hj, rfl, rfl, hne⟩ := hrel
    rcases Nat.lt_or_ge j l.length with hlt | hge
    · obtain ⟨b, o, rfl, hb, hcell⟩ := h.i32 hlt
      by_cases hy : l[j] = y
      · go_wp2
        · go_ret
          exact ⟨⟨j, rfl, .inl ⟨by omega, contains_at hlt hy⟩⟩, rfl⟩
      · have hy' : ¬ y = l[j] := fun h => hy h.symm
        go_wp2
        go_roundw
        case rel => exact ⟨j + 1, by omega, by go_num, by first | rfl | trivial, ne_step hlt hne hy⟩
        case measure => simp [intOf]; omega
    · go_wp2
      go_ret
      exact ⟨⟨-1, rfl, .inr ⟨rfl, contains_not (fun i hi => hne i hi (by omega))⟩⟩, rfl⟩
theorem has_is (l : List Int) (y : Int) (A : Option Addr) (c : Nat) (hn : l.length < 1000000) (w : World) (h : SAt w w.heap.size 1 A l.length (int32V l)) :
    Calls Try.prog 76 #[.slice A l.length c, .int .i32 y] w fun e w' => e = .returned (.bool (l.contains y)) ∧ w' = w := by
  go_enter Try.func76, Try.ntmps76
  go_wp2_with fail
  refine (index_is l y A c hn w h).mono ?_
  rintro e w' ⟨⟨k, rfl, hk⟩, rfl⟩
  rcases hk with ⟨h0, h1⟩ | ⟨rfl, h1⟩
  all_goals go_wp2
  all_goals go_ret
  all_goals exact ⟨by rw [h1]; rfl, rfl⟩
theorem heap_four (W : World) (o : Obj) {k : Nat} {u : Obj} (h : W.heap[k]? = some u) : (W.alloc o).heap[k]? = some u := by
  rw [Below.heap_alloc _ _ _ (Array.getElem?_eq_some_iff.1 h).1, h]
end Go.Proofs.Ytncogaikiceidaa
end
