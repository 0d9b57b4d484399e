/- Class, Wide, Long, the document's example of layer 1; bytes as strings. No statement is proved here. -/
import Derived.Test.YtncogaikiceidaaGreatInsn3
namespace Go.Proofs.YtncogaikiceidaaGreat
open Go.RowKit
theorem below_step {B : Nat} {W w1 w2 : World} (h : Below B W w1) (hB : B ≤ W.heap.size) (h2 : Below w1.heap.size w1 w2) : Below B W w2 := h.trans (h2.mono (Nat.le_trans hB h.size))
theorem class_any (x : Insn) (h : x.Ok) (w : World) : Calls Tryz.prog 74 #[x.val] w fun e w' => e = .returned (.int .u8 (x.op % 8)) ∧ Below w.heap.size w w' := by
  have h0 := h.op0; have h1 := h.op1
  go_enter Tryz.func74, Tryz.ntmps74
  go_wp2
  go_ret
  exact ⟨rfl, (Below.refl _ _).alloc (Nat.le_refl _) _⟩
theorem wide_any (x : Insn) (w : World) : Calls Tryz.prog 71 #[x.val] w fun e w' => e = .returned (.bool (x.op == 24)) ∧ Below w.heap.size w w' := by
  go_enter Tryz.func71, Tryz.ntmps71
  go_wp2
  go_ret
  exact ⟨rfl, (Below.refl _ _).alloc (Nat.le_refl _) _⟩
def longI (i j : Int) : Int := i % 4294967296 + 4294967296 * (j % 4294967296)
theorem or_long (a b : Int) (h0 : 0 ≤ a) (h1 : a < 4294967296) (h2 : 0 ≤ b) (h3 : b < 4294967296) : bits .or .u64 a (b * 4294967296) = a + 4294967296 * b := by
  obtain ⟨x, rfl⟩ := Int.eq_ofNat_of_zero_le h0
  obtain ⟨y, rfl⟩ := Int.eq_ofNat_of_zero_le h2
  have e : (y : Int) * 4294967296 = ((y * 4294967296 : Nat) : Int) := by omega
  have hx : x < 2 ^ 32 := by omega
  rw [e, u64_or_nat _ _ (by omega) (by omega), Nat.or_comm, nat_join 32 _ _ (Nat.mul_mod_left y 4294967296) hx]
  omega
theorem rlong_any (x y : Insn) (w : World) : Calls Tryz.prog 53 #[x.val, y.val] w fun e w' => e = .returned (.int .u64 (longI x.imm y.imm)) ∧ Below w.heap.size w w' := by
  go_enter Tryz.func53, Tryz.ntmps53
  go_wp2
  go_ret
  exact ⟨rfl, ((Below.refl _ _).alloc (Nat.le_refl _) _).alloc (by simp) _⟩
def isByte (n : Int) : Prop := 0 ≤ n ∧ n ≤ 255
theorem str_toList (a : List Int) : (strOfNums a).toList = a.map fun n => UInt8.ofNat n.toNat := by rw [ByteArray.toList_eq]; rfl
theorem byte_inj {x y : Int} (hx : isByte x) (hy : isByte y) (h : UInt8.ofNat x.toNat = UInt8.ofNat y.toNat) : x = y := by
  have := congrArg UInt8.toNat h
  simp only [UInt8.toNat_ofNat'] at this
  obtain ⟨h1, h2⟩ := hx
  obtain ⟨h3, h4⟩ := hy
  omega
theorem str_inj : ∀ (a b : List Int), (∀ x ∈ a, isByte x) → (∀ x ∈ b, isByte x) → (a.map fun n => UInt8.ofNat n.toNat) = (b.map fun n => UInt8.ofNat n.toNat) → a = b
  | [], [], _, _, _ => rfl
  | [], _ :: _, _, _, h => by simp at h
  | _ :: _, [], _, _, h => by simp at h
  | x :: a, y :: b, ha, hb, h => by
    simp only [List.map_cons, List.cons.injEq] at h
    rw [byte_inj (ha x (by simp)) (hb y (by simp)) h.1, str_inj a b (fun z hz => ha z (by simp [hz])) (fun z hz => hb z (by simp [hz])) h.2]
theorem str_beq (a b : List Int) (ha : ∀ x ∈ a, isByte x) (hb : ∀ x ∈ b, isByte x) : ((strOfNums a).toList == (strOfNums b).toList) = decide (a = b) := by
  rw [str_toList, str_toList, Bool.eq_iff_iff]
  simp only [beq_iff_eq, decide_eq_true_eq]
  exact ⟨str_inj a b ha hb, fun h => by rw [h]⟩
theorem bytes_isByte (x : Insn) (h : x.Ok) (hd : x.dst ≤ 15) (hs : x.src ≤ 15) : ∀ b ∈ x.bytes, isByte b := by
  obtain ⟨p1, p2, p3, p4, p5, p6, p7, p8, p9, p10⟩ := h
  intro b hb
  simp only [Insn.bytes, List.mem_cons, List.not_mem_nil, or_false] at hb
  unfold isByte
  rcases hb with rfl | rfl | rfl | rfl | rfl | rfl | rfl | rfl <;> omega
end Go.Proofs.YtncogaikiceidaaGreat
