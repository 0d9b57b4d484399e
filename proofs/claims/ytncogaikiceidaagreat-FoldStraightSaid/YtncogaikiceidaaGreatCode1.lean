/- Layer 7's small functions: zeros, only, size, in. No statement is proved here. -/
import Derived.Test.YtncogaikiceidaaGreatInsn5
namespace Go.Proofs.YtncogaikiceidaaGreat
open Go.RowKit
def zerosB (x : Insn) (s o i : Bool) : Bool := (!s || x.src == 0) && ((!o || x.off == 0) && (!i || x.imm == 0))
theorem zeros_any (x : Insn) (s o i : Bool) (w : World) : Calls Tryz.prog 112 #[x.val, .bool s, .bool o, .bool i] w fun e w' => e = .returned (.bool (zerosB x s o i)) ∧ Below w.heap.size w w' := by
  by_cases h1 : x.src = 0 <;> by_cases h2 : x.off = 0 <;> cases s <;> cases o <;> cases i <;>
  (go_enter Tryz.func112, Tryz.ntmps112
   go_wp2
   go_ret
   exact ⟨by simp [zerosB, bne, *], (Below.refl _ _).alloc (Nat.le_refl _) _⟩)
theorem only_any (x : Insn) (s o i : Bool) (w : World) : Calls Tryz.prog 64 #[x.val, .bool s, .bool o, .bool i] w fun e w' => e = .returned (.bool (zerosB x (!s) (!o) (!i))) ∧ Below w.heap.size w w' := by
  by_cases h1 : x.src = 0 <;> by_cases h2 : x.off = 0 <;> cases s <;> cases o <;> cases i <;>
  (go_enter Tryz.func64, Tryz.ntmps64
   go_wp2
   go_ret
   exact ⟨by simp [zerosB, *], (Below.refl _ _).alloc (Nat.le_refl _) _⟩)
theorem bits_byte (k : Int) (f : Int → Int) (h : ∀ n : Fin 256, bits .and .u8 (n.val : Int) k = f n.val) (x : Int) (h0 : 0 ≤ x) (h1 : x ≤ 255) : bits .and .u8 x k = f x := by
  have := h ⟨x.toNat, by omega⟩
  rw [show (((⟨x.toNat, by omega⟩ : Fin 256).val : Nat) : Int) = x by simp; omega] at this
  exact this
theorem and240 (x : Int) (h0 : 0 ≤ x) (h1 : x ≤ 255) : bits .and .u8 x 240 = x / 16 * 16 := bits_byte 240 (fun x => x / 16 * 16) (by decide +kernel) x h0 h1
theorem and8 (x : Int) (h0 : 0 ≤ x) (h1 : x ≤ 255) : bits .and .u8 x 8 = x / 8 % 2 * 8 := bits_byte 8 (fun x => x / 8 % 2 * 8) (by decide +kernel) x h0 h1
theorem and24 (x : Int) (h0 : 0 ≤ x) (h1 : x ≤ 255) : bits .and .u8 x 24 = x / 8 % 4 * 8 := bits_byte 24 (fun x => x / 8 % 4 * 8) (by decide +kernel) x h0 h1
theorem and224 (x : Int) (h0 : 0 ≤ x) (h1 : x ≤ 255) : bits .and .u8 x 224 = x / 32 * 32 := bits_byte 224 (fun x => x / 32 * 32) (by decide +kernel) x h0 h1
def sizeM (op : Int) : Int := if op / 8 % 4 = 0 then 4 else if op / 8 % 4 = 1 then 2 else if op / 8 % 4 = 2 then 1 else 8
theorem size_any (op : Int) (h0 : 0 ≤ op) (h1 : op ≤ 255) (w : World) : Calls Tryz.prog 113 #[.int .u8 op] w fun e w' => e = .returned (.int .i64 (sizeM op)) ∧ Below w.heap.size w w' := by
  have e := and24 op h0 h1
  have hc : op / 8 % 4 = 0 ∨ op / 8 % 4 = 1 ∨ op / 8 % 4 = 2 ∨ op / 8 % 4 = 3 := by omega
  rcases hc with hc | hc | hc | hc <;> rw [hc] at e <;> simp only [Int.reduceMul] at e <;>
  (go_enter Tryz.func113, Tryz.ntmps113
   go_wp2
   go_ret
   exact ⟨by simp [sizeM, *], (Below.refl _ _)⟩)
theorem SAt.byte {w : World} {B : Nat} {A : Option Addr} {l : List Int} (h : SAt w B 1 A l.length (bytesV l)) {k : Nat} (hk : k < l.length) :
    ∃ b o, A = some ⟨b, o, none⟩ ∧ b < B ∧ w.cell? ⟨b, o + k, none⟩ = some (.int .u8 l[k]) := by
  obtain ⟨b, o, rfl, hb, hc⟩ := h.2 (by omega)
  exact ⟨b, o, rfl, hb, hc k _ (by simp [bytesV, List.getElem?_eq_getElem hk])⟩
theorem contains_at {l : List Int} {n : Int} {k : Nat} (hk : k < l.length) (h : l[k] = n) : l.contains n = true := by
  rw [List.contains_iff_mem, ← h]; exact List.getElem_mem hk
theorem contains_not {l : List Int} {n : Int} (h : ∀ (i : Nat) (hi : i < l.length), l[i] ≠ n) : l.contains n = false := by
  rw [Bool.eq_false_iff, ne_eq, List.contains_iff_mem]
  intro hm
  obtain ⟨i, hi, he⟩ := List.getElem_of_mem hm
  exact h i hi he
theorem ne_step {l : List Int} {y : Int} {j : Nat} (hj : j < l.length) (h : ∀ (i : Nat) (hi : i < l.length), i < j → l[i] ≠ y) (h' : ¬l[j] = y) : ∀ (i : Nat) (hi : i < l.length), i < j + 1 → l[i] ≠ y := by
  intro i hi hlt
  rcases Nat.lt_or_ge i j with h1 | h1
  · exact h i hi h1
  · have e : i = j := by omega
    subst e
    exact h'
set_option maxRecDepth 100000 in
theorem in_any (l : List Int) (y : Int) (A : Option Addr) (c : Nat) (hn : l.length < 1000000) (w : World) (h : SAt w w.heap.size 1 A l.length (bytesV l)) :
    Calls Tryz.prog 61 #[.slice A l.length c, .int .u8 y] w fun e w' => e = .returned (.bool (l.contains y)) ∧ Below w.heap.size w w' := by
  go_enter Tryz.func61, Tryz.ntmps61
  go_wp2_with fail
  go_loopw [5] (fun k wr => ∃ j : Nat, j ≤ l.length ∧ k = .int .i64 j ∧ wr = w ∧ ∀ (i : Nat) (hi : i < l.length), i < j → l[i] ≠ y) (fun k _ => l.length - (intOf k).toNat)
  case atStart => exact ⟨0, by omega, rfl, rfl, fun i _ h => absurd h (by omega)⟩
  case round =>
    obtain ⟨j, hj, rfl, rfl, hne⟩ := hrel
    rcases Nat.lt_or_ge j l.length with hlt | hge
    · obtain ⟨b, o, rfl, hb, hcell⟩ := h.byte hlt
      by_cases hy : l[j] = y
      · go_wp2
        · go_ret
          exact ⟨by rw [contains_at hlt hy]; rfl, Below.refl _ _⟩
      · go_wp2
        go_roundw
        case rel => exact ⟨j + 1, by omega, by go_num, by first | rfl | trivial, ne_step hlt hne hy⟩
        case measure => simp [intOf]; omega
    · go_wp2
      go_ret
      exact ⟨by rw [contains_not (fun i hi => hne i hi (by omega))]; rfl, Below.refl _ _⟩
end Go.Proofs.YtncogaikiceidaaGreat
