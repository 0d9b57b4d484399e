/- Put and Take of the program and of the reference, at every instruction and every row of bytes: contracts. No statement is proved here. -/
import Derived.Test.YtncogaikiceidaaGreatInsn4
namespace Go.Proofs.YtncogaikiceidaaGreat
open Go.RowKit
theorem sbelow_alloc {B : Nat} {W w : World} {o : Obj} (h : Below B W w) (hB : B ≤ W.heap.size) : Below B W (w.alloc o) := h.alloc (Nat.le_trans hB h.size) o
theorem sbelow_drew {B : Nat} {W w : World} (h : Below B W w) : Below B W w.drew := h.drew
theorem sbelow_drewN {B n : Nat} {W w : World} (h : Below B W w) : Below B W (w.drewN n) := below_drewN h n
attribute [go_sem] sbelow_alloc sbelow_drew sbelow_drewN
/-- What is known of an instruction in a block below B, in every world that keeps what is below B. -/
theorem box24 {W : World} {g B : Nat} (x : Insn) (hg : g < B) (h : W.heap[g]? = some (.cells #[.int .u8 x.op, .int .u8 x.dst, .int .u8 x.src, .int .i16 x.off, .int .i32 x.imm] 27)) :
    (∀ w', Below B W w' → w'.cell? ⟨g, 0, none⟩ = some (.int .u8 x.op)) ∧ (∀ w', Below B W w' → w'.cell? ⟨g, 1, none⟩ = some (.int .u8 x.dst)) ∧ (∀ w', Below B W w' → w'.cell? ⟨g, 2, none⟩ = some (.int .u8 x.src)) ∧
    (∀ w', Below B W w' → w'.cell? ⟨g, 3, none⟩ = some (.int .i16 x.off)) ∧ (∀ w', Below B W w' → w'.cell? ⟨g, 4, none⟩ = some (.int .i32 x.imm)) := by
  refine ⟨?_, ?_, ?_, ?_, ?_⟩ <;> (intro w' hb; rw [hb.cell (p := ⟨g, _, none⟩) hg, cell_of_row W g _ _ 27 (0, 0) h]; rfl)
theorem step3 {B1 B2 B3 : Nat} {W1 W2 W3 w w' : World} (h : Below B1 W1 w ∧ Below B2 W2 w ∧ Below B3 W3 w) (h1 : B1 ≤ W1.heap.size) (h2 : B2 ≤ W2.heap.size) (h3 : B3 ≤ W3.heap.size) (hb : Below w.heap.size w w') :
    Below B1 W1 w' ∧ Below B2 W2 w' ∧ Below B3 W3 w' := ⟨below_step h.1 h1 hb, below_step h.2.1 h2 hb, below_step h.2.2 h3 hb⟩

/-- The bytes of an instruction, and the error. -/
def Insn.put (x : Insn) : List Int × Int := if x.dst ≤ 15 ∧ x.src ≤ 15 then (x.bytes, 0) else ([], 1)
theorem Insn.put_yes {x : Insn} (h : x.dst ≤ 15 ∧ x.src ≤ 15) : x.put = (x.bytes, 0) := if_pos h
theorem Insn.put_no {x : Insn} (h : ¬ (x.dst ≤ 15 ∧ x.src ≤ 15)) : x.put = ([], 1) := if_neg h
theorem Insn.put_byte {x : Insn} (h : x.Ok) : ∀ b ∈ x.put.1, isByte b := by
  by_cases hk : x.dst ≤ 15 ∧ x.src ≤ 15
  · rw [Insn.put_yes hk]; exact bytes_isByte x h hk.1 hk.2
  · rw [Insn.put_no hk]; intro b hb; cases hb
/-- A row of bytes, and a number, are handed back. -/
def BytesAnd (W : World) (l : List Int) (r : Int) (e : Ending) (w' : World) : Prop :=
  ∃ A c, e = .returned (.tuple #[.slice A l.length c, .int .i64 r]) ∧ SAt w' w'.heap.size 1 A l.length (bytesV l) ∧ l.length ≤ c ∧ Below W.heap.size W w'
theorem own_cap {w : World} {base e size n c : Nat} {A : Option Addr} {xs : List Value} (h : w.ownsRow base e size (.slice A n c) n xs) : n ≤ c := by
  rcases h.2 with ⟨hv, h0⟩ | ⟨g, cap, cur, hv, _, _, hnc, _⟩
  · omega
  · injection hv with _ _ hc
    omega
/-- The instruction that bytes are, and the error. -/
def takeL : List Int → Insn × Int
  | [b0, b1, b2, b3, b4, b5, b6, b7] => (takeI b0 b1 b2 b3 b4 b5 b6 b7, 0)
  | _ => (Insn.zero, 6)
theorem eight {l : List Int} (h : l.length = 8) : ∃ b0 b1 b2 b3 b4 b5 b6 b7, l = [b0, b1, b2, b3, b4, b5, b6, b7] := by
  match l, h with
  | [b0, b1, b2, b3, b4, b5, b6, b7], _ => exact ⟨b0, b1, b2, b3, b4, b5, b6, b7, rfl⟩
theorem takeL_none {l : List Int} (h : l.length ≠ 8) : takeL l = (Insn.zero, 6) := by
  unfold takeL
  split
  · simp at h
  · rfl
end Go.Proofs.YtncogaikiceidaaGreat
