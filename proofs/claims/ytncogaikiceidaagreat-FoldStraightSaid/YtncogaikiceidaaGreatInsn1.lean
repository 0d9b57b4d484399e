/- An instruction as bytes (the program's Put, and the reference's): what it comes to, walked. No statement is proved here. -/
import Derived.Test.YtncogaikiceidaaGreatBase
namespace Go.Proofs.YtncogaikiceidaaGreat
open Go.RowKit
theorem info5 : (Tryz.prog.info? 5).map (fun i => (i.zero, i.size, i.bytes)) = some (some (.int .u8 0), 1, 1) := by kernel_rfl
def Insn.bytes (x : Insn) : List Int := [x.op, x.dst + 16 * x.src, x.off % 256, x.off / 256 % 256, x.imm % 256, x.imm / 256 % 256, x.imm / 65536 % 256, x.imm / 16777216 % 256]
/-- What a Put ends with: eight bytes, that are an owned row. -/
def PutOk (W : World) (l : List Int) (e : Ending) (w' : World) : Prop := ∃ A c, e = .returned (.tuple #[.slice A 8 c, .int .i64 0]) ∧ w'.ownsRow W.heap.size 5 1 (.slice A 8 c) 8 (bytesV l) ∧ Below W.heap.size W w'
theorem u8_or16 (d s : Int) (h0 : 0 ≤ d) (h1 : d ≤ 15) (h2 : 0 ≤ s) (h3 : s ≤ 15) : bits .or .u8 d (s * 16) = d + 16 * s := by
  obtain ⟨d, rfl⟩ := Int.eq_ofNat_of_zero_le h0
  obtain ⟨s, rfl⟩ := Int.eq_ofNat_of_zero_le h2
  have e : (s : Int) * 16 = ((s * 16 : Nat) : Int) := by omega
  rw [e, u8_or_nat _ _ (by omega) (by omega), Nat.or_comm, nat_join 4 _ _ (by omega) (by omega)]
  omega
theorem bytes_take (x : Insn) (j : Nat) (hj : j < 4) : (bytesV x.bytes).take (4 + j) ++ [Value.int IntKind.u8 (x.imm / 2 ^ (8 * j) % 256)] = (bytesV x.bytes).take (4 + (j + 1)) := by
  match j, hj with
  | 0, _ => simp [Insn.bytes, bytesV]
  | 1, _ => simp [Insn.bytes, bytesV]
  | 2, _ => simp [Insn.bytes, bytesV]
  | 3, _ => simp [Insn.bytes, bytesV]
theorem bytes_len (x : Insn) : (bytesV x.bytes).length = 8 := rfl
theorem ret_two {a b c d : Value} (h : a = c) (h' : b = d) : Ending.returned (.tuple #[a, b]) = .returned (.tuple #[c, d]) := by rw [h, h']
end Go.Proofs.YtncogaikiceidaaGreat
