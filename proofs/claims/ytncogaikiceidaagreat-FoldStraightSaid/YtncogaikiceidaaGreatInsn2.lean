/- An instruction's bytes taken (the program's Take, and the reference's), and the reference's Put: what they come to, walked. No statement is proved here. -/
import Derived.Test.YtncogaikiceidaaGreatInsn1
namespace Go.Proofs.YtncogaikiceidaaGreat
open Go.RowKit
theorem listeq8 {a b c d e f g h a' b' c' d' e' f' g' h' : Int} (h1 : a = a') (h2 : b = b') (h3 : c = c') (h4 : d = d') (h5 : e = e') (h6 : f = f') (h7 : g = g') (h8 : h = h') :
   [Value.int .u8 a, .int .u8 b, .int .u8 c, .int .u8 d, .int .u8 e, .int .u8 f, .int .u8 g, .int .u8 h] = [Value.int .u8 a', .int .u8 b', .int .u8 c', .int .u8 d', .int .u8 e', .int .u8 f', .int .u8 g', .int .u8 h'] := by
  subst_vars; rfl
theorem wrap_i16 (n : Int) : IntKind.i16.wrap n = (n + 32768) % 65536 - 32768 := by
  simp only [IntKind.wrap, IntKind.bits, IntKind.signed]; simp; split <;> omega
theorem or_i32 (x y i : Nat) (b : Int) (hx : x < 2 ^ i) (hy : y % 2 ^ i = 0) (hb : b % 4294967296 = y) (hxy : x + y < 4294967296) :
    bits .or .i32 (x : Int) b = (((x + y : Nat) : Int) + 2147483648) % 4294967296 - 2147483648 := by
  show IntKind.i32.wrap ((BitVec.ofInt 32 (x : Int) ||| BitVec.ofInt 32 b).toNat : Int) = _
  have e : (BitVec.ofInt 32 b).toNat = y := by
    rw [BitVec.toNat_ofInt, show ((2 ^ 32 : Nat) : Int) = 4294967296 from rfl, hb]; rfl
  rw [BitVec.toNat_or, ofInt_u32 x (by omega), e, Nat.or_comm, nat_join i _ _ hy hx, IntKind.wrap_i32, Nat.add_comm]
theorem or_i16 (x y i : Nat) (b : Int) (hx : x < 2 ^ i) (hy : y % 2 ^ i = 0) (hb : b % 65536 = y) (hxy : x + y < 65536) :
    bits .or .i16 (x : Int) b = (((x + y : Nat) : Int) + 32768) % 65536 - 32768 := by
  show IntKind.i16.wrap ((BitVec.ofInt 16 (x : Int) ||| BitVec.ofInt 16 b).toNat : Int) = _
  have e : (BitVec.ofInt 16 b).toNat = y := by
    rw [BitVec.toNat_ofInt, show ((2 ^ 16 : Nat) : Int) = 65536 from rfl, hb]; rfl
  rw [BitVec.toNat_or, ofInt_u16 x (by omega), e, Nat.or_comm, nat_join i _ _ hy hx, wrap_i16, Nat.add_comm]
def imP (i0 i1 i2 i3 : Int) : Nat → Int
  | 0 => 0
  | 1 => i0
  | 2 => i0 + 256 * i1
  | 3 => i0 + 256 * i1 + 65536 * i2
  | _ => (i0 + 256 * i1 + 65536 * i2 + 16777216 * i3 + 2147483648) % 4294967296 - 2147483648
theorem imP0 (i0 i1 i2 i3 : Int) : imP i0 i1 i2 i3 0 = 0 := rfl
theorem imP1 (i0 i1 i2 i3 : Int) : imP i0 i1 i2 i3 1 = i0 := rfl
theorem imP2 (i0 i1 i2 i3 : Int) : imP i0 i1 i2 i3 2 = i0 + 256 * i1 := rfl
theorem imP3 (i0 i1 i2 i3 : Int) : imP i0 i1 i2 i3 3 = i0 + 256 * i1 + 65536 * i2 := rfl
theorem imP4 (i0 i1 i2 i3 : Int) : imP i0 i1 i2 i3 4 = (i0 + 256 * i1 + 65536 * i2 + 16777216 * i3 + 2147483648) % 4294967296 - 2147483648 := rfl
theorem or_last (i0 i1 i2 i3 : Int) (h4 : 0 ≤ i0) (h4' : i0 ≤ 255) (h5 : 0 ≤ i1) (h5' : i1 ≤ 255) (h6 : 0 ≤ i2) (h6' : i2 ≤ 255) (h7 : 0 ≤ i3) (h7' : i3 ≤ 255) :
    bits BinOp.or .i32 (i0 + 256 * i1 + 65536 * i2) (wrap32 (i3 * 16777216)) = (i0 + 256 * i1 + 65536 * i2 + 16777216 * i3 + 2147483648) % 4294967296 - 2147483648 := by
  obtain ⟨x, hx⟩ := Int.eq_ofNat_of_zero_le (show 0 ≤ i0 + 256 * i1 + 65536 * i2 by omega)
  obtain ⟨y, rfl⟩ := Int.eq_ofNat_of_zero_le h7
  have hx' : x < 16777216 := by omega
  rw [hx]
  have hw : wrap32 ((y : Int) * 16777216) % 4294967296 = ((y * 16777216 : Nat) : Int) := by unfold wrap32; omega
  rw [or_i32 x (y * 16777216) 24 _ hx' (Nat.mul_mod_left y 16777216) hw (by omega)]
  congr 2
  omega
def takeI (b0 b1 b2 b3 b4 b5 b6 b7 : Int) : Insn :=
  ⟨b0, b1 % 16, b1 / 16, (b2 + 256 * b3 + 32768) % 65536 - 32768, (b4 + 256 * b5 + 65536 * b6 + 16777216 * b7 + 2147483648) % 4294967296 - 2147483648⟩
end Go.Proofs.YtncogaikiceidaaGreat
