/- What plain arithmetic makes of two numbers. No statement is proved here. -/
import Derived.Test.YtncogaikiceidaaGreatShow1
namespace Go.Proofs.YtncogaikiceidaaGreat
open Go.RowKit
set_option linter.unusedSimpArgs false
set_option linter.unusedVariables false
set_option linter.unnecessarySimpa false
section
/-- Is a number's sign bit, of 64 or of 32 bits, set? -/
def arshW (a b : Int) : Int := if (a / 9223372036854775808 == 1) = true then IntKind.u64.wrap (IntKind.u64.wrap (18446744073709551615 - 18446744073709551615 / 2 ^ (b % 64).toNat) + a / 2 ^ (b % 64).toNat) else a / 2 ^ (b % 64).toNat
def arshN (a b : Int) : Int := if (a % 4294967296 / 2147483648 == 1) = true then IntKind.u64.wrap (IntKind.u64.wrap (4294967295 - 4294967295 / 2 ^ (b % 32).toNat) + a % 4294967296 / 2 ^ (b % 32).toNat) else a % 4294967296 / 2 ^ (b % 32).toNat
/-- What arithmetic of 64 bits makes of two numbers. -/
def doW (op a b : Int) : Int :=
  if op = 176 then (b) else
  if op = 48 then (if b = 0 then 0 else a / b) else
  if op = 144 then (if b = 0 then a else a % b) else
  if op = 0 then (IntKind.u64.wrap (a + b)) else
  if op = 16 then (IntKind.u64.wrap (a - b)) else
  if op = 32 then (IntKind.u64.wrap (a * b)) else
  if op = 64 then (bits .or .u64 a b) else
  if op = 80 then (bits .and .u64 a b) else
  if op = 160 then (bits .xor .u64 a b) else
  if op = 96 then (IntKind.u64.wrap (a * 2 ^ (b % 64).toNat)) else
  if op = 112 then (a / 2 ^ (b % 64).toNat) else
  if op = 192 then (arshW a b) else
  0
/-- What arithmetic of 32 bits makes of two numbers. -/
def doN (op a b : Int) : Int :=
  if op = 176 then ((b % 4294967296) % 4294967296) else
  if op = 48 then (if b % 4294967296 = 0 then 0 else (a % 4294967296) / (b % 4294967296)) else
  if op = 144 then (if b % 4294967296 = 0 then a % 4294967296 else (a % 4294967296) % (b % 4294967296)) else
  if op = 0 then ((a + b) % 4294967296) else
  if op = 16 then ((IntKind.u64.wrap ((a % 4294967296) - (b % 4294967296))) % 4294967296) else
  if op = 32 then ((IntKind.u64.wrap ((a % 4294967296) * (b % 4294967296))) % 4294967296) else
  if op = 64 then ((bits .or .u64 (a % 4294967296) (b % 4294967296)) % 4294967296) else
  if op = 80 then ((bits .and .u64 (a % 4294967296) (b % 4294967296)) % 4294967296) else
  if op = 160 then ((bits .xor .u64 (a % 4294967296) (b % 4294967296)) % 4294967296) else
  if op = 96 then ((IntKind.u64.wrap ((a % 4294967296) * 2 ^ (b % 32).toNat)) % 4294967296) else
  if op = 112 then (((a % 4294967296) / 2 ^ (b % 32).toNat) % 4294967296) else
  if op = 192 then ((arshN a b) % 4294967296) else
  0
def doM (op : Int) (wide : Bool) (a b : Int) : Int := if wide = true then doW op a b else doN op a b
/-- One of the kinds of arithmetic that FoldStraight plays. -/
def OpOk (op : Int) : Prop := op = 176 ∨ op = 48 ∨ op = 144 ∨ op = 0 ∨ op = 16 ∨ op = 32 ∨ op = 64 ∨ op = 80 ∨ op = 160 ∨ op = 96 ∨ op = 112 ∨ op = 192
theorem doW_mov (a b : Int) : doM 176 true a b = (b) := by simp [doM, doW]
theorem doN_mov (a b : Int) : doM 176 false a b = (b % 4294967296) % 4294967296 := by simp [doM, doN]
theorem doW_div (a b : Int) : doM 48 true a b = (if b = 0 then 0 else a / b) := by simp [doM, doW]
theorem doN_div (a b : Int) : doM 48 false a b = (if b % 4294967296 = 0 then 0 else (a % 4294967296) / (b % 4294967296)) := by simp [doM, doN]
theorem doW_mod (a b : Int) : doM 144 true a b = (if b = 0 then a else a % b) := by simp [doM, doW]
theorem doN_mod (a b : Int) : doM 144 false a b = (if b % 4294967296 = 0 then a % 4294967296 else (a % 4294967296) % (b % 4294967296)) := by simp [doM, doN]
theorem doW_add (a b : Int) : doM 0 true a b = (IntKind.u64.wrap (a + b)) := by simp [doM, doW]
theorem doN_add (a b : Int) : doM 0 false a b = (a + b) % 4294967296 := by simp [doM, doN]
theorem doW_sub (a b : Int) : doM 16 true a b = (IntKind.u64.wrap (a - b)) := by simp [doM, doW]
theorem doN_sub (a b : Int) : doM 16 false a b = (IntKind.u64.wrap ((a % 4294967296) - (b % 4294967296))) % 4294967296 := by simp [doM, doN]
theorem doW_mul (a b : Int) : doM 32 true a b = (IntKind.u64.wrap (a * b)) := by simp [doM, doW]
theorem doN_mul (a b : Int) : doM 32 false a b = (IntKind.u64.wrap ((a % 4294967296) * (b % 4294967296))) % 4294967296 := by simp [doM, doN]
theorem doW_or (a b : Int) : doM 64 true a b = (bits .or .u64 a b) := by simp [doM, doW]
theorem doN_or (a b : Int) : doM 64 false a b = (bits .or .u64 (a % 4294967296) (b % 4294967296)) % 4294967296 := by simp [doM, doN]
theorem doW_and (a b : Int) : doM 80 true a b = (bits .and .u64 a b) := by simp [doM, doW]
theorem doN_and (a b : Int) : doM 80 false a b = (bits .and .u64 (a % 4294967296) (b % 4294967296)) % 4294967296 := by simp [doM, doN]
theorem doW_xor (a b : Int) : doM 160 true a b = (bits .xor .u64 a b) := by simp [doM, doW]
theorem doN_xor (a b : Int) : doM 160 false a b = (bits .xor .u64 (a % 4294967296) (b % 4294967296)) % 4294967296 := by simp [doM, doN]
theorem doW_lsh (a b : Int) : doM 96 true a b = (IntKind.u64.wrap (a * 2 ^ (b % 64).toNat)) := by simp [doM, doW]
theorem doN_lsh (a b : Int) : doM 96 false a b = (IntKind.u64.wrap ((a % 4294967296) * 2 ^ (b % 32).toNat)) % 4294967296 := by simp [doM, doN]
theorem doW_rsh (a b : Int) : doM 112 true a b = (a / 2 ^ (b % 64).toNat) := by simp [doM, doW]
theorem doN_rsh (a b : Int) : doM 112 false a b = ((a % 4294967296) / 2 ^ (b % 32).toNat) % 4294967296 := by simp [doM, doN]
theorem doW_arsh (a b : Int) : doM 192 true a b = (arshW a b) := by simp [doM, doW]
theorem doN_arsh (a b : Int) : doM 192 false a b = (arshN a b) % 4294967296 := by simp [doM, doN]
theorem u64_wrap (n : Int) : U64 (IntKind.u64.wrap n) := by rw [IntKind.wrap_u64]; exact ⟨by omega, by omega⟩
theorem u64_bits {a b : Int} (ha : U64 a) (hb : U64 b) (o : BinOp) (ho : o = .or ∨ o = .and ∨ o = .xor) : U64 (bits o .u64 a b) := by
  unfold bits; exact u64_wrap _
theorem u64_div {a : Int} {k : Nat} (h0 : 0 ≤ a) (h : U64 a) : U64 (a / 2 ^ k) := by
  have h1 : a / 2 ^ k ≤ a := Int.ediv_le_self _ h0
  exact ⟨Int.ediv_nonneg h0 (Int.pow_nonneg (by omega)), by have := h.2; omega⟩

end
section
theorem rparts0 (x : Int) (w : Int) (w0 : World) : Calls Tryz.prog 118 #[.int .u64 x, .int .u64 0, .int .i64 w, .bool false] w0 fun e w' => e = .returned (.tuple #[.int .u64 0, .int .u64 x]) ∧ w' = w0 := by
  go_enter Tryz.func118, Tryz.ntmps118
  go_wp2_with fail
  go_ret2
  exact ⟨rfl, rfl⟩
theorem rpartsz (x y : Int) (h : y = 0) (w : Int) (w0 : World) : Calls Tryz.prog 118 #[.int .u64 x, .int .u64 y, .int .i64 w, .bool false] w0 fun e w' => e = .returned (.tuple #[.int .u64 0, .int .u64 x]) ∧ w' = w0 := by
  subst h; exact rparts0 x w w0
theorem rparts1 (x y : Int) (hx : U64 x) (hy : U64 y) (h : ¬ y = 0) (w : Int) (w0 : World) : Calls Tryz.prog 118 #[.int .u64 x, .int .u64 y, .int .i64 w, .bool false] w0 fun e w' => e = .returned (.tuple #[.int .u64 (x / y), .int .u64 (x % y)]) ∧ ∃ n, w' = w0.drewN n := by
  have hq : (y == 0) = false := by simpa using h
  obtain ⟨x0, x1⟩ := hx
  obtain ⟨y0, y1⟩ := hy
  have yp : 0 < y := by omega
  go_enter Tryz.func118, Tryz.ntmps118
  go_upto_region 4 with fail
  go_quiet (fail)
  go_wp2_with fail
  go_ret2
  exact ⟨rfl, _, rfl⟩
theorem rneg64 (x : Int) (hx : U64 x) (w : World) : Calls Tryz.prog 119 #[.int .u64 x, .int .i64 64] w fun e w' => e = .returned (.bool (x / 9223372036854775808 == 1)) ∧ w' = w := by
  obtain ⟨x0, x1⟩ := hx
  go_enter Tryz.func119, Tryz.ntmps119
  go_wp2_with fail
  go_ret
  exact ⟨rfl, rfl⟩
theorem rneg32 (x : Int) (hx : U64 x) (w : World) : Calls Tryz.prog 119 #[.int .u64 x, .int .i64 32] w fun e w' => e = .returned (.bool (x / 2147483648 == 1)) ∧ w' = w := by
  obtain ⟨x0, x1⟩ := hx
  go_enter Tryz.func119, Tryz.ntmps119
  go_wp2_with fail
  go_ret
  exact ⟨rfl, rfl⟩
set_option maxRecDepth 100000 in
theorem rdo_mov64 (a b : Int) (ha : U64 a) (hb : U64 b) (w : World) : Calls Tryz.prog 80 #[.int .u8 176, .bool true, .int .i16 0, .int .u64 a, .int .u64 b] w fun e w' => e = .returned (.tuple #[.int .u64 (b), .int .i64 0]) ∧ ∃ n, w' = w.drewN n := by
  have a0 := ha.1
  have a1 := ha.2
  have b0 := hb.1
  have b1 := hb.2
  go_enter Tryz.func80, Tryz.ntmps80
  go_wp2_with fail
  refine (rcut64_any _ _).mono ?_
  rintro e w1 ⟨rfl, rfl⟩
  go_wp2_with fail
  refine (rcut64_any _ _).mono ?_
  rintro e w2 ⟨rfl, rfl⟩
  go_wp2_with fail
  refine (rcut64_any _ _).mono ?_
  rintro e w3 ⟨rfl, rfl⟩
  go_wp2_with fail
  go_ret2
  exact ⟨rfl, 0, rfl⟩
set_option maxRecDepth 100000 in
theorem rdo_mov32 (a b : Int) (ha : U64 a) (hb : U64 b) (w : World) : Calls Tryz.prog 80 #[.int .u8 176, .bool false, .int .i16 0, .int .u64 a, .int .u64 b] w fun e w' => e = .returned (.tuple #[.int .u64 (b % 4294967296), .int .i64 0]) ∧ ∃ n, w' = w.drewN n := by
  have a0 := ha.1
  have a1 := ha.2
  have b0 := hb.1
  have b1 := hb.2
  go_enter Tryz.func80, Tryz.ntmps80
  go_wp2_with fail
  refine (rcut32_any _ ha _).mono ?_
  rintro e w1 ⟨rfl, rfl⟩
  go_wp2_with fail
  refine (rcut32_any _ hb _).mono ?_
  rintro e w2 ⟨rfl, rfl⟩
  go_wp2_with fail
  refine (rcut32_any _ ⟨by omega, by omega⟩ _).mono ?_
  rintro e w3 ⟨rfl, rfl⟩
  go_wp2_with fail
  go_ret2
  exact ⟨rfl, 0, rfl⟩
set_option maxRecDepth 100000 in
theorem rdo_div64z (a b : Int) (ha : U64 a) (hb : U64 b) (hz : b = 0) (w : World) : Calls Tryz.prog 80 #[.int .u8 48, .bool true, .int .i16 0, .int .u64 a, .int .u64 b] w fun e w' => e = .returned (.tuple #[.int .u64 (0), .int .i64 0]) ∧ ∃ n, w' = w.drewN n := by
  subst hz
  have a0 := ha.1
  have a1 := ha.2
  have b0 := hb.1
  have b1 := hb.2
  go_enter Tryz.func80, Tryz.ntmps80
  go_wp2_with fail
  refine (rcut64_any _ _).mono ?_
  rintro e w1 ⟨rfl, rfl⟩
  go_wp2_with fail
  refine (rcut64_any _ _).mono ?_
  rintro e w2 ⟨rfl, rfl⟩
  go_wp2_with fail
  refine (rparts0 _ _ _).mono ?_
  rintro e w3 ⟨rfl, rfl⟩
  go_wp2_with fail
  go_ret2
  exact ⟨rfl, 0, rfl⟩
set_option maxRecDepth 100000 in
theorem rdo_div64n (a b : Int) (ha : U64 a) (hb : U64 b) (hz : ¬ b = 0) (w : World) : Calls Tryz.prog 80 #[.int .u8 48, .bool true, .int .i16 0, .int .u64 a, .int .u64 b] w fun e w' => e = .returned (.tuple #[.int .u64 (a / b), .int .i64 0]) ∧ ∃ n, w' = w.drewN n := by
  have hp := fun (wd : Int) w => rparts1 a b ha hb hz wd w
  clear hz
  have a0 := ha.1
  have a1 := ha.2
  have b0 := hb.1
  have b1 := hb.2
  go_enter Tryz.func80, Tryz.ntmps80
  go_wp2_with fail
  refine (rcut64_any _ _).mono ?_
  rintro e w1 ⟨rfl, rfl⟩
  go_wp2_with fail
  refine (rcut64_any _ _).mono ?_
  rintro e w2 ⟨rfl, rfl⟩
  go_wp2_with fail
  refine (hp _ _).mono ?_
  rintro e w3 ⟨rfl, n3, rfl⟩
  go_wp2_with fail
  go_ret2
  exact ⟨rfl, n3, rfl⟩
set_option maxRecDepth 100000 in
theorem rdo_div32z (a b : Int) (ha : U64 a) (hb : U64 b) (hz : b % 4294967296 = 0) (w : World) : Calls Tryz.prog 80 #[.int .u8 48, .bool false, .int .i16 0, .int .u64 a, .int .u64 b] w fun e w' => e = .returned (.tuple #[.int .u64 (0), .int .i64 0]) ∧ ∃ n, w' = w.drewN n := by
  have hp := fun (wd : Int) w => rpartsz (a % 4294967296) (b % 4294967296) hz wd w
  clear hz
  have a0 := ha.1
  have a1 := ha.2
  have b0 := hb.1
  have b1 := hb.2
  go_enter Tryz.func80, Tryz.ntmps80
  go_wp2_with fail
  refine (rcut32_any _ ha _).mono ?_
  rintro e w1 ⟨rfl, rfl⟩
  go_wp2_with fail
  refine (rcut32_any _ hb _).mono ?_
  rintro e w2 ⟨rfl, rfl⟩
  go_wp2_with fail
  refine (hp _ _).mono ?_
  rintro e w3 ⟨rfl, rfl⟩
  go_wp2_with fail
  go_ret2
  exact ⟨rfl, 0, rfl⟩
set_option maxRecDepth 100000 in
theorem rdo_div32n (a b : Int) (ha : U64 a) (hb : U64 b) (hz : ¬ b % 4294967296 = 0) (w : World) : Calls Tryz.prog 80 #[.int .u8 48, .bool false, .int .i16 0, .int .u64 a, .int .u64 b] w fun e w' => e = .returned (.tuple #[.int .u64 ((a % 4294967296) / (b % 4294967296)), .int .i64 0]) ∧ ∃ n, w' = w.drewN n := by
  have hp := fun (wd : Int) w => rparts1 (a % 4294967296) (b % 4294967296) ⟨by omega, by have := ha.1; omega⟩ ⟨by omega, by have := hb.1; omega⟩ hz wd w
  clear hz
  have a0 := ha.1
  have a1 := ha.2
  have b0 := hb.1
  have b1 := hb.2
  go_enter Tryz.func80, Tryz.ntmps80
  go_wp2_with fail
  refine (rcut32_any _ ha _).mono ?_
  rintro e w1 ⟨rfl, rfl⟩
  go_wp2_with fail
  refine (rcut32_any _ hb _).mono ?_
  rintro e w2 ⟨rfl, rfl⟩
  go_wp2_with fail
  refine (hp _ _).mono ?_
  rintro e w3 ⟨rfl, n3, rfl⟩
  go_wp2_with fail
  go_ret2
  exact ⟨rfl, n3, rfl⟩
set_option maxRecDepth 100000 in
theorem rdo_mod64z (a b : Int) (ha : U64 a) (hb : U64 b) (hz : b = 0) (w : World) : Calls Tryz.prog 80 #[.int .u8 144, .bool true, .int .i16 0, .int .u64 a, .int .u64 b] w fun e w' => e = .returned (.tuple #[.int .u64 (a), .int .i64 0]) ∧ ∃ n, w' = w.drewN n := by
  subst hz
  have a0 := ha.1
  have a1 := ha.2
  have b0 := hb.1
  have b1 := hb.2
  go_enter Tryz.func80, Tryz.ntmps80
  go_wp2_with fail
  refine (rcut64_any _ _).mono ?_
  rintro e w1 ⟨rfl, rfl⟩
  go_wp2_with fail
  refine (rcut64_any _ _).mono ?_
  rintro e w2 ⟨rfl, rfl⟩
  go_wp2_with fail
  refine (rparts0 _ _ _).mono ?_
  rintro e w3 ⟨rfl, rfl⟩
  go_wp2_with fail
  go_ret2
  exact ⟨rfl, 0, rfl⟩
set_option maxRecDepth 100000 in
theorem rdo_mod64n (a b : Int) (ha : U64 a) (hb : U64 b) (hz : ¬ b = 0) (w : World) : Calls Tryz.prog 80 #[.int .u8 144, .bool true, .int .i16 0, .int .u64 a, .int .u64 b] w fun e w' => e = .returned (.tuple #[.int .u64 (a % b), .int .i64 0]) ∧ ∃ n, w' = w.drewN n := by
  have hp := fun (wd : Int) w => rparts1 a b ha hb hz wd w
  clear hz
  have a0 := ha.1
  have a1 := ha.2
  have b0 := hb.1
  have b1 := hb.2
  go_enter Tryz.func80, Tryz.ntmps80
  go_wp2_with fail
  refine (rcut64_any _ _).mono ?_
  rintro e w1 ⟨rfl, rfl⟩
  go_wp2_with fail
  refine (rcut64_any _ _).mono ?_
  rintro e w2 ⟨rfl, rfl⟩
  go_wp2_with fail
  refine (hp _ _).mono ?_
  rintro e w3 ⟨rfl, n3, rfl⟩
  go_wp2_with fail
  go_ret2
  exact ⟨rfl, n3, rfl⟩
set_option maxRecDepth 100000 in
theorem rdo_mod32z (a b : Int) (ha : U64 a) (hb : U64 b) (hz : b % 4294967296 = 0) (w : World) : Calls Tryz.prog 80 #[.int .u8 144, .bool false, .int .i16 0, .int .u64 a, .int .u64 b] w fun e w' => e = .returned (.tuple #[.int .u64 ((a % 4294967296)), .int .i64 0]) ∧ ∃ n, w' = w.drewN n := by
  have hp := fun (wd : Int) w => rpartsz (a % 4294967296) (b % 4294967296) hz wd w
  clear hz
  have a0 := ha.1
  have a1 := ha.2
  have b0 := hb.1
  have b1 := hb.2
  go_enter Tryz.func80, Tryz.ntmps80
  go_wp2_with fail
  refine (rcut32_any _ ha _).mono ?_
  rintro e w1 ⟨rfl, rfl⟩
  go_wp2_with fail
  refine (rcut32_any _ hb _).mono ?_
  rintro e w2 ⟨rfl, rfl⟩
  go_wp2_with fail
  refine (hp _ _).mono ?_
  rintro e w3 ⟨rfl, rfl⟩
  go_wp2_with fail
  go_ret2
  exact ⟨rfl, 0, rfl⟩
set_option maxRecDepth 100000 in
theorem rdo_mod32n (a b : Int) (ha : U64 a) (hb : U64 b) (hz : ¬ b % 4294967296 = 0) (w : World) : Calls Tryz.prog 80 #[.int .u8 144, .bool false, .int .i16 0, .int .u64 a, .int .u64 b] w fun e w' => e = .returned (.tuple #[.int .u64 ((a % 4294967296) % (b % 4294967296)), .int .i64 0]) ∧ ∃ n, w' = w.drewN n := by
  have hp := fun (wd : Int) w => rparts1 (a % 4294967296) (b % 4294967296) ⟨by omega, by have := ha.1; omega⟩ ⟨by omega, by have := hb.1; omega⟩ hz wd w
  clear hz
  have a0 := ha.1
  have a1 := ha.2
  have b0 := hb.1
  have b1 := hb.2
  go_enter Tryz.func80, Tryz.ntmps80
  go_wp2_with fail
  refine (rcut32_any _ ha _).mono ?_
  rintro e w1 ⟨rfl, rfl⟩
  go_wp2_with fail
  refine (rcut32_any _ hb _).mono ?_
  rintro e w2 ⟨rfl, rfl⟩
  go_wp2_with fail
  refine (hp _ _).mono ?_
  rintro e w3 ⟨rfl, n3, rfl⟩
  go_wp2_with fail
  go_ret2
  exact ⟨rfl, n3, rfl⟩
set_option maxRecDepth 100000 in
theorem rdo_add64 (a b : Int) (ha : U64 a) (hb : U64 b) (w : World) : Calls Tryz.prog 80 #[.int .u8 0, .bool true, .int .i16 0, .int .u64 a, .int .u64 b] w fun e w' => e = .returned (.tuple #[.int .u64 (IntKind.u64.wrap (a + b)), .int .i64 0]) ∧ ∃ n, w' = w.drewN n := by
  have a0 := ha.1
  have a1 := ha.2
  have b0 := hb.1
  have b1 := hb.2
  go_enter Tryz.func80, Tryz.ntmps80
  go_wp2_with fail
  refine (rcut64_any _ _).mono ?_
  rintro e w1 ⟨rfl, rfl⟩
  go_wp2_with fail
  refine (rcut64_any _ _).mono ?_
  rintro e w2 ⟨rfl, rfl⟩
  go_wp2_with fail
  refine (rcut64_any _ _).mono ?_
  rintro e w3 ⟨rfl, rfl⟩
  go_wp2_with fail
  go_ret2
  exact ⟨rfl, 0, rfl⟩
set_option maxRecDepth 100000 in
theorem rdo_add32 (a b : Int) (ha : U64 a) (hb : U64 b) (w : World) : Calls Tryz.prog 80 #[.int .u8 0, .bool false, .int .i16 0, .int .u64 a, .int .u64 b] w fun e w' => e = .returned (.tuple #[.int .u64 ((a + b) % 4294967296), .int .i64 0]) ∧ ∃ n, w' = w.drewN n := by
  have a0 := ha.1
  have a1 := ha.2
  have b0 := hb.1
  have b1 := hb.2
  go_enter Tryz.func80, Tryz.ntmps80
  go_wp2_with fail
  refine (rcut32_any _ ha _).mono ?_
  rintro e w1 ⟨rfl, rfl⟩
  go_wp2_with fail
  refine (rcut32_any _ hb _).mono ?_
  rintro e w2 ⟨rfl, rfl⟩
  go_wp2_with fail
  refine (rcut32_any _ ⟨by omega, by omega⟩ _).mono ?_
  rintro e w3 ⟨rfl, rfl⟩
  go_wp2_with fail
  go_ret2
  exact ⟨rfl, 0, rfl⟩
set_option maxRecDepth 100000 in
theorem rdo_sub64 (a b : Int) (ha : U64 a) (hb : U64 b) (w : World) : Calls Tryz.prog 80 #[.int .u8 16, .bool true, .int .i16 0, .int .u64 a, .int .u64 b] w fun e w' => e = .returned (.tuple #[.int .u64 (IntKind.u64.wrap (a - b)), .int .i64 0]) ∧ ∃ n, w' = w.drewN n := by
  have a0 := ha.1
  have a1 := ha.2
  have b0 := hb.1
  have b1 := hb.2
  go_enter Tryz.func80, Tryz.ntmps80
  go_wp2_with fail
  refine (rcut64_any _ _).mono ?_
  rintro e w1 ⟨rfl, rfl⟩
  go_wp2_with fail
  refine (rcut64_any _ _).mono ?_
  rintro e w2 ⟨rfl, rfl⟩
  go_wp2_with fail
  refine (rcut64_any _ _).mono ?_
  rintro e w3 ⟨rfl, rfl⟩
  go_wp2_with fail
  go_ret2
  exact ⟨rfl, 0, rfl⟩
set_option maxRecDepth 100000 in
theorem rdo_sub32 (a b : Int) (ha : U64 a) (hb : U64 b) (w : World) : Calls Tryz.prog 80 #[.int .u8 16, .bool false, .int .i16 0, .int .u64 a, .int .u64 b] w fun e w' => e = .returned (.tuple #[.int .u64 ((IntKind.u64.wrap ((a % 4294967296) - (b % 4294967296))) % 4294967296), .int .i64 0]) ∧ ∃ n, w' = w.drewN n := by
  have a0 := ha.1
  have a1 := ha.2
  have b0 := hb.1
  have b1 := hb.2
  go_enter Tryz.func80, Tryz.ntmps80
  go_wp2_with fail
  refine (rcut32_any _ ha _).mono ?_
  rintro e w1 ⟨rfl, rfl⟩
  go_wp2_with fail
  refine (rcut32_any _ hb _).mono ?_
  rintro e w2 ⟨rfl, rfl⟩
  go_wp2_with fail
  refine (rcut32_any _ (u64_wrap _) _).mono ?_
  rintro e w3 ⟨rfl, rfl⟩
  go_wp2_with fail
  go_ret2
  exact ⟨rfl, 0, rfl⟩
set_option maxRecDepth 100000 in
theorem rdo_mul64 (a b : Int) (ha : U64 a) (hb : U64 b) (w : World) : Calls Tryz.prog 80 #[.int .u8 32, .bool true, .int .i16 0, .int .u64 a, .int .u64 b] w fun e w' => e = .returned (.tuple #[.int .u64 (IntKind.u64.wrap (a * b)), .int .i64 0]) ∧ ∃ n, w' = w.drewN n := by
  have a0 := ha.1
  have a1 := ha.2
  have b0 := hb.1
  have b1 := hb.2
  go_enter Tryz.func80, Tryz.ntmps80
  go_wp2_with fail
  refine (rcut64_any _ _).mono ?_
  rintro e w1 ⟨rfl, rfl⟩
  go_wp2_with fail
  refine (rcut64_any _ _).mono ?_
  rintro e w2 ⟨rfl, rfl⟩
  go_wp2_with fail
  refine (rcut64_any _ _).mono ?_
  rintro e w3 ⟨rfl, rfl⟩
  go_wp2_with fail
  go_ret2
  exact ⟨rfl, 0, rfl⟩
set_option maxRecDepth 100000 in
theorem rdo_mul32 (a b : Int) (ha : U64 a) (hb : U64 b) (w : World) : Calls Tryz.prog 80 #[.int .u8 32, .bool false, .int .i16 0, .int .u64 a, .int .u64 b] w fun e w' => e = .returned (.tuple #[.int .u64 ((IntKind.u64.wrap ((a % 4294967296) * (b % 4294967296))) % 4294967296), .int .i64 0]) ∧ ∃ n, w' = w.drewN n := by
  have a0 := ha.1
  have a1 := ha.2
  have b0 := hb.1
  have b1 := hb.2
  go_enter Tryz.func80, Tryz.ntmps80
  go_wp2_with fail
  refine (rcut32_any _ ha _).mono ?_
  rintro e w1 ⟨rfl, rfl⟩
  go_wp2_with fail
  refine (rcut32_any _ hb _).mono ?_
  rintro e w2 ⟨rfl, rfl⟩
  go_wp2_with fail
  refine (rcut32_any _ (u64_wrap _) _).mono ?_
  rintro e w3 ⟨rfl, rfl⟩
  go_wp2_with fail
  go_ret2
  exact ⟨rfl, 0, rfl⟩
set_option maxRecDepth 100000 in
theorem rdo_or64 (a b : Int) (ha : U64 a) (hb : U64 b) (w : World) : Calls Tryz.prog 80 #[.int .u8 64, .bool true, .int .i16 0, .int .u64 a, .int .u64 b] w fun e w' => e = .returned (.tuple #[.int .u64 (bits .or .u64 a b), .int .i64 0]) ∧ ∃ n, w' = w.drewN n := by
  have a0 := ha.1
  have a1 := ha.2
  have b0 := hb.1
  have b1 := hb.2
  go_enter Tryz.func80, Tryz.ntmps80
  go_wp2_with fail
  refine (rcut64_any _ _).mono ?_
  rintro e w1 ⟨rfl, rfl⟩
  go_wp2_with fail
  refine (rcut64_any _ _).mono ?_
  rintro e w2 ⟨rfl, rfl⟩
  go_wp2_with fail
  refine (rcut64_any _ _).mono ?_
  rintro e w3 ⟨rfl, rfl⟩
  go_wp2_with fail
  go_ret2
  exact ⟨rfl, 0, rfl⟩
set_option maxRecDepth 100000 in
theorem rdo_or32 (a b : Int) (ha : U64 a) (hb : U64 b) (w : World) : Calls Tryz.prog 80 #[.int .u8 64, .bool false, .int .i16 0, .int .u64 a, .int .u64 b] w fun e w' => e = .returned (.tuple #[.int .u64 ((bits .or .u64 (a % 4294967296) (b % 4294967296)) % 4294967296), .int .i64 0]) ∧ ∃ n, w' = w.drewN n := by
  have hu : U64 (bits .or .u64 (a % 4294967296) (b % 4294967296)) := u64_bits ⟨by have := ha.1; omega, by have := ha.1; omega⟩ ⟨by have := hb.1; omega, by have := hb.1; omega⟩ _ (by simp)
  have a0 := ha.1
  have a1 := ha.2
  have b0 := hb.1
  have b1 := hb.2
  go_enter Tryz.func80, Tryz.ntmps80
  go_wp2_with fail
  refine (rcut32_any _ ha _).mono ?_
  rintro e w1 ⟨rfl, rfl⟩
  go_wp2_with fail
  refine (rcut32_any _ hb _).mono ?_
  rintro e w2 ⟨rfl, rfl⟩
  go_wp2_with fail
  refine (rcut32_any _ hu _).mono ?_
  rintro e w3 ⟨rfl, rfl⟩
  go_wp2_with fail
  go_ret2
  exact ⟨rfl, 0, rfl⟩
set_option maxRecDepth 100000 in
theorem rdo_and64 (a b : Int) (ha : U64 a) (hb : U64 b) (w : World) : Calls Tryz.prog 80 #[.int .u8 80, .bool true, .int .i16 0, .int .u64 a, .int .u64 b] w fun e w' => e = .returned (.tuple #[.int .u64 (bits .and .u64 a b), .int .i64 0]) ∧ ∃ n, w' = w.drewN n := by
  have a0 := ha.1
  have a1 := ha.2
  have b0 := hb.1
  have b1 := hb.2
  go_enter Tryz.func80, Tryz.ntmps80
  go_wp2_with fail
  refine (rcut64_any _ _).mono ?_
  rintro e w1 ⟨rfl, rfl⟩
  go_wp2_with fail
  refine (rcut64_any _ _).mono ?_
  rintro e w2 ⟨rfl, rfl⟩
  go_wp2_with fail
  refine (rcut64_any _ _).mono ?_
  rintro e w3 ⟨rfl, rfl⟩
  go_wp2_with fail
  go_ret2
  exact ⟨rfl, 0, rfl⟩
set_option maxRecDepth 100000 in
theorem rdo_and32 (a b : Int) (ha : U64 a) (hb : U64 b) (w : World) : Calls Tryz.prog 80 #[.int .u8 80, .bool false, .int .i16 0, .int .u64 a, .int .u64 b] w fun e w' => e = .returned (.tuple #[.int .u64 ((bits .and .u64 (a % 4294967296) (b % 4294967296)) % 4294967296), .int .i64 0]) ∧ ∃ n, w' = w.drewN n := by
  have hu : U64 (bits .and .u64 (a % 4294967296) (b % 4294967296)) := u64_bits ⟨by have := ha.1; omega, by have := ha.1; omega⟩ ⟨by have := hb.1; omega, by have := hb.1; omega⟩ _ (by simp)
  have a0 := ha.1
  have a1 := ha.2
  have b0 := hb.1
  have b1 := hb.2
  go_enter Tryz.func80, Tryz.ntmps80
  go_wp2_with fail
  refine (rcut32_any _ ha _).mono ?_
  rintro e w1 ⟨rfl, rfl⟩
  go_wp2_with fail
  refine (rcut32_any _ hb _).mono ?_
  rintro e w2 ⟨rfl, rfl⟩
  go_wp2_with fail
  refine (rcut32_any _ hu _).mono ?_
  rintro e w3 ⟨rfl, rfl⟩
  go_wp2_with fail
  go_ret2
  exact ⟨rfl, 0, rfl⟩
set_option maxRecDepth 100000 in
theorem rdo_xor64 (a b : Int) (ha : U64 a) (hb : U64 b) (w : World) : Calls Tryz.prog 80 #[.int .u8 160, .bool true, .int .i16 0, .int .u64 a, .int .u64 b] w fun e w' => e = .returned (.tuple #[.int .u64 (bits .xor .u64 a b), .int .i64 0]) ∧ ∃ n, w' = w.drewN n := by
  have a0 := ha.1
  have a1 := ha.2
  have b0 := hb.1
  have b1 := hb.2
  go_enter Tryz.func80, Tryz.ntmps80
  go_wp2_with fail
  refine (rcut64_any _ _).mono ?_
  rintro e w1 ⟨rfl, rfl⟩
  go_wp2_with fail
  refine (rcut64_any _ _).mono ?_
  rintro e w2 ⟨rfl, rfl⟩
  go_wp2_with fail
  refine (rcut64_any _ _).mono ?_
  rintro e w3 ⟨rfl, rfl⟩
  go_wp2_with fail
  go_ret2
  exact ⟨rfl, 0, rfl⟩
set_option maxRecDepth 100000 in
theorem rdo_xor32 (a b : Int) (ha : U64 a) (hb : U64 b) (w : World) : Calls Tryz.prog 80 #[.int .u8 160, .bool false, .int .i16 0, .int .u64 a, .int .u64 b] w fun e w' => e = .returned (.tuple #[.int .u64 ((bits .xor .u64 (a % 4294967296) (b % 4294967296)) % 4294967296), .int .i64 0]) ∧ ∃ n, w' = w.drewN n := by
  have hu : U64 (bits .xor .u64 (a % 4294967296) (b % 4294967296)) := u64_bits ⟨by have := ha.1; omega, by have := ha.1; omega⟩ ⟨by have := hb.1; omega, by have := hb.1; omega⟩ _ (by simp)
  have a0 := ha.1
  have a1 := ha.2
  have b0 := hb.1
  have b1 := hb.2
  go_enter Tryz.func80, Tryz.ntmps80
  go_wp2_with fail
  refine (rcut32_any _ ha _).mono ?_
  rintro e w1 ⟨rfl, rfl⟩
  go_wp2_with fail
  refine (rcut32_any _ hb _).mono ?_
  rintro e w2 ⟨rfl, rfl⟩
  go_wp2_with fail
  refine (rcut32_any _ hu _).mono ?_
  rintro e w3 ⟨rfl, rfl⟩
  go_wp2_with fail
  go_ret2
  exact ⟨rfl, 0, rfl⟩
set_option maxRecDepth 100000 in
theorem rdo_lsh64 (a b : Int) (ha : U64 a) (hb : U64 b) (w : World) : Calls Tryz.prog 80 #[.int .u8 96, .bool true, .int .i16 0, .int .u64 a, .int .u64 b] w fun e w' => e = .returned (.tuple #[.int .u64 (IntKind.u64.wrap (a * 2 ^ (b % 64).toNat)), .int .i64 0]) ∧ ∃ n, w' = w.drewN n := by
  have a0 := ha.1
  have a1 := ha.2
  have b0 := hb.1
  have b1 := hb.2
  go_enter Tryz.func80, Tryz.ntmps80
  go_wp2_with fail
  refine (rcut64_any _ _).mono ?_
  rintro e w1 ⟨rfl, rfl⟩
  go_wp2_with fail
  refine (rcut64_any _ _).mono ?_
  rintro e w2 ⟨rfl, rfl⟩
  go_wp2_with fail
  refine (rcut64_any _ _).mono ?_
  rintro e w3 ⟨rfl, rfl⟩
  go_wp2_with fail
  go_ret2
  exact ⟨rfl, 0, rfl⟩
set_option maxRecDepth 100000 in
theorem rdo_lsh32 (a b : Int) (ha : U64 a) (hb : U64 b) (w : World) : Calls Tryz.prog 80 #[.int .u8 96, .bool false, .int .i16 0, .int .u64 a, .int .u64 b] w fun e w' => e = .returned (.tuple #[.int .u64 ((IntKind.u64.wrap ((a % 4294967296) * 2 ^ (b % 32).toNat)) % 4294967296), .int .i64 0]) ∧ ∃ n, w' = w.drewN n := by
  have a0 := ha.1
  have a1 := ha.2
  have b0 := hb.1
  have b1 := hb.2
  go_enter Tryz.func80, Tryz.ntmps80
  go_wp2_with fail
  refine (rcut32_any _ ha _).mono ?_
  rintro e w1 ⟨rfl, rfl⟩
  go_wp2_with fail
  refine (rcut32_any _ hb _).mono ?_
  rintro e w2 ⟨rfl, rfl⟩
  go_wp2_with fail
  refine (rcut32_any _ (u64_wrap _) _).mono ?_
  rintro e w3 ⟨rfl, rfl⟩
  go_wp2_with fail
  go_ret2
  exact ⟨rfl, 0, rfl⟩
set_option maxRecDepth 100000 in
theorem rdo_rsh64 (a b : Int) (ha : U64 a) (hb : U64 b) (w : World) : Calls Tryz.prog 80 #[.int .u8 112, .bool true, .int .i16 0, .int .u64 a, .int .u64 b] w fun e w' => e = .returned (.tuple #[.int .u64 (a / 2 ^ (b % 64).toNat), .int .i64 0]) ∧ ∃ n, w' = w.drewN n := by
  have a0 := ha.1
  have a1 := ha.2
  have b0 := hb.1
  have b1 := hb.2
  go_enter Tryz.func80, Tryz.ntmps80
  go_wp2_with fail
  refine (rcut64_any _ _).mono ?_
  rintro e w1 ⟨rfl, rfl⟩
  go_wp2_with fail
  refine (rcut64_any _ _).mono ?_
  rintro e w2 ⟨rfl, rfl⟩
  go_wp2_with fail
  refine (rcut64_any _ _).mono ?_
  rintro e w3 ⟨rfl, rfl⟩
  go_wp2_with fail
  go_ret2
  exact ⟨rfl, 0, rfl⟩
set_option maxRecDepth 100000 in
theorem rdo_rsh32 (a b : Int) (ha : U64 a) (hb : U64 b) (w : World) : Calls Tryz.prog 80 #[.int .u8 112, .bool false, .int .i16 0, .int .u64 a, .int .u64 b] w fun e w' => e = .returned (.tuple #[.int .u64 (((a % 4294967296) / 2 ^ (b % 32).toNat) % 4294967296), .int .i64 0]) ∧ ∃ n, w' = w.drewN n := by
  have hu : U64 (a % 4294967296 / 2 ^ (b % 32).toNat) := u64_div (by have := ha.1; omega) ⟨by have := ha.1; omega, by have := ha.1; omega⟩
  have a0 := ha.1
  have a1 := ha.2
  have b0 := hb.1
  have b1 := hb.2
  go_enter Tryz.func80, Tryz.ntmps80
  go_wp2_with fail
  refine (rcut32_any _ ha _).mono ?_
  rintro e w1 ⟨rfl, rfl⟩
  go_wp2_with fail
  refine (rcut32_any _ hb _).mono ?_
  rintro e w2 ⟨rfl, rfl⟩
  go_wp2_with fail
  refine (rcut32_any _ hu _).mono ?_
  rintro e w3 ⟨rfl, rfl⟩
  go_wp2_with fail
  go_ret2
  exact ⟨rfl, 0, rfl⟩
set_option maxRecDepth 100000 in
theorem rdo_arsh64y (a b : Int) (ha : U64 a) (hb : U64 b) (hg : (a / 9223372036854775808 == 1) = true) (w : World) : Calls Tryz.prog 80 #[.int .u8 192, .bool true, .int .i16 0, .int .u64 a, .int .u64 b] w fun e w' => e = .returned (.tuple #[.int .u64 (IntKind.u64.wrap (IntKind.u64.wrap (18446744073709551615 - 18446744073709551615 / 2 ^ (b % 64).toNat) + a / 2 ^ (b % 64).toNat)), .int .i64 0]) ∧ ∃ n, w' = w.drewN n := by
  have hn := fun w => rneg64 a ha w
  rw [hg] at hn
  clear hg
  have a0 := ha.1
  have a1 := ha.2
  have b0 := hb.1
  have b1 := hb.2
  go_enter Tryz.func80, Tryz.ntmps80
  go_wp2_with fail
  refine (rcut64_any _ _).mono ?_
  rintro e w1 ⟨rfl, rfl⟩
  go_wp2_with fail
  refine (rcut64_any _ _).mono ?_
  rintro e w2 ⟨rfl, rfl⟩
  go_wp2_with fail
  refine (hn _).mono ?_
  rintro e w3 ⟨rfl, rfl⟩
  go_wp2_with fail
  refine (rcut64_any _ _).mono ?_
  rintro e w4 ⟨rfl, rfl⟩
  go_wp2_with fail
  refine (rcut64_any _ _).mono ?_
  rintro e w5 ⟨rfl, rfl⟩
  go_wp2_with fail
  go_ret2
  exact ⟨rfl, 0, rfl⟩
set_option maxRecDepth 100000 in
theorem rdo_arsh32y (a b : Int) (ha : U64 a) (hb : U64 b) (hg : (a % 4294967296 / 2147483648 == 1) = true) (w : World) : Calls Tryz.prog 80 #[.int .u8 192, .bool false, .int .i16 0, .int .u64 a, .int .u64 b] w fun e w' => e = .returned (.tuple #[.int .u64 (IntKind.u64.wrap (IntKind.u64.wrap (4294967295 - 4294967295 / 2 ^ (b % 32).toNat) + a % 4294967296 / 2 ^ (b % 32).toNat) % 4294967296), .int .i64 0]) ∧ ∃ n, w' = w.drewN n := by
  have hn := fun w => rneg32 (a % 4294967296) ⟨by have := ha.1; omega, by have := ha.1; omega⟩ w
  rw [hg] at hn
  clear hg
  have hw := fun n => u64_wrap n
  have a0 := ha.1
  have a1 := ha.2
  have b0 := hb.1
  have b1 := hb.2
  go_enter Tryz.func80, Tryz.ntmps80
  go_wp2_with fail
  refine (rcut32_any _ ha _).mono ?_
  rintro e w1 ⟨rfl, rfl⟩
  go_wp2_with fail
  refine (rcut32_any _ hb _).mono ?_
  rintro e w2 ⟨rfl, rfl⟩
  go_wp2_with fail
  refine (hn _).mono ?_
  rintro e w3 ⟨rfl, rfl⟩
  go_wp2_with fail
  refine (rcut32_any _ ⟨by decide, by decide⟩ _).mono ?_
  rintro e w4 ⟨rfl, rfl⟩
  go_wp2_with fail
  refine (rcut32_any _ (u64_wrap _) _).mono ?_
  rintro e w5 ⟨rfl, rfl⟩
  go_wp2_with fail
  go_ret2
  exact ⟨rfl, 0, rfl⟩
set_option maxRecDepth 100000 in
theorem rdo_arsh64n (a b : Int) (ha : U64 a) (hb : U64 b) (hg : (a / 9223372036854775808 == 1) = false) (w : World) : Calls Tryz.prog 80 #[.int .u8 192, .bool true, .int .i16 0, .int .u64 a, .int .u64 b] w fun e w' => e = .returned (.tuple #[.int .u64 (a / 2 ^ (b % 64).toNat), .int .i64 0]) ∧ ∃ n, w' = w.drewN n := by
  have hn := fun w => rneg64 a ha w
  rw [hg] at hn
  clear hg
  have a0 := ha.1
  have a1 := ha.2
  have b0 := hb.1
  have b1 := hb.2
  go_enter Tryz.func80, Tryz.ntmps80
  go_wp2_with fail
  refine (rcut64_any _ _).mono ?_
  rintro e w1 ⟨rfl, rfl⟩
  go_wp2_with fail
  refine (rcut64_any _ _).mono ?_
  rintro e w2 ⟨rfl, rfl⟩
  go_wp2_with fail
  refine (hn _).mono ?_
  rintro e w3 ⟨rfl, rfl⟩
  go_wp2_with fail
  refine (rcut64_any _ _).mono ?_
  rintro e w5 ⟨rfl, rfl⟩
  go_wp2_with fail
  go_ret2
  exact ⟨rfl, 0, rfl⟩
set_option maxRecDepth 100000 in
theorem rdo_arsh32n (a b : Int) (ha : U64 a) (hb : U64 b) (hg : (a % 4294967296 / 2147483648 == 1) = false) (w : World) : Calls Tryz.prog 80 #[.int .u8 192, .bool false, .int .i16 0, .int .u64 a, .int .u64 b] w fun e w' => e = .returned (.tuple #[.int .u64 (a % 4294967296 / 2 ^ (b % 32).toNat % 4294967296), .int .i64 0]) ∧ ∃ n, w' = w.drewN n := by
  have hn := fun w => rneg32 (a % 4294967296) ⟨by have := ha.1; omega, by have := ha.1; omega⟩ w
  rw [hg] at hn
  clear hg
  have hu : U64 (a % 4294967296 / 2 ^ (b % 32).toNat) := u64_div (by have := ha.1; omega) ⟨by have := ha.1; omega, by have := ha.1; omega⟩
  have a0 := ha.1
  have a1 := ha.2
  have b0 := hb.1
  have b1 := hb.2
  go_enter Tryz.func80, Tryz.ntmps80
  go_wp2_with fail
  refine (rcut32_any _ ha _).mono ?_
  rintro e w1 ⟨rfl, rfl⟩
  go_wp2_with fail
  refine (rcut32_any _ hb _).mono ?_
  rintro e w2 ⟨rfl, rfl⟩
  go_wp2_with fail
  refine (hn _).mono ?_
  rintro e w3 ⟨rfl, rfl⟩
  go_wp2_with fail
  refine (rcut32_any _ hu _).mono ?_
  rintro e w5 ⟨rfl, rfl⟩
  go_wp2_with fail
  go_ret2
  exact ⟨rfl, 0, rfl⟩

end
section
set_option maxHeartbeats 1000000 in
theorem rdo_any (op : Int) (ho : OpOk op) (wide : Bool) (a b : Int) (ha : U64 a) (hb : U64 b) (w : World) : Calls Tryz.prog 80 #[.int .u8 op, .bool wide, .int .i16 0, .int .u64 a, .int .u64 b] w fun e w' => e = .returned (.tuple #[.int .u64 (doM op wide a b), .int .i64 0]) ∧ Below w.heap.size w w' := by
  have a0 := ha.1
  have b0 := hb.1
  rcases ho with rfl | rfl | rfl | rfl | rfl | rfl | rfl | rfl | rfl | rfl | rfl | rfl <;> cases wide
  · rw [doN_mov]
    refine (rdo_mov32 a b ha hb w).mono ?_
    rintro e w1 ⟨rfl, n, rfl⟩
    exact ⟨by simp, below_drewN (Below.refl _ _) n⟩
  · rw [doW_mov]
    refine (rdo_mov64 a b ha hb w).mono ?_
    rintro e w1 ⟨rfl, n, rfl⟩
    exact ⟨rfl, below_drewN (Below.refl _ _) n⟩
  · rw [doN_div]
    by_cases hz : b % 4294967296 = 0
    · refine (rdo_div32z a b ha hb hz w).mono ?_
      rintro e w1 ⟨rfl, n, rfl⟩
      exact ⟨by simp [hz], below_drewN (Below.refl _ _) n⟩
    · refine (rdo_div32n a b ha hb hz w).mono ?_
      rintro e w1 ⟨rfl, n, rfl⟩
      exact ⟨by simp [hz], below_drewN (Below.refl _ _) n⟩
  · rw [doW_div]
    by_cases hz : b = 0
    · refine (rdo_div64z a b ha hb hz w).mono ?_
      rintro e w1 ⟨rfl, n, rfl⟩
      exact ⟨by simp [hz], below_drewN (Below.refl _ _) n⟩
    · refine (rdo_div64n a b ha hb hz w).mono ?_
      rintro e w1 ⟨rfl, n, rfl⟩
      exact ⟨by simp [hz], below_drewN (Below.refl _ _) n⟩
  · rw [doN_mod]
    by_cases hz : b % 4294967296 = 0
    · refine (rdo_mod32z a b ha hb hz w).mono ?_
      rintro e w1 ⟨rfl, n, rfl⟩
      exact ⟨by simp [hz], below_drewN (Below.refl _ _) n⟩
    · refine (rdo_mod32n a b ha hb hz w).mono ?_
      rintro e w1 ⟨rfl, n, rfl⟩
      exact ⟨by simp [hz], below_drewN (Below.refl _ _) n⟩
  · rw [doW_mod]
    by_cases hz : b = 0
    · refine (rdo_mod64z a b ha hb hz w).mono ?_
      rintro e w1 ⟨rfl, n, rfl⟩
      exact ⟨by simp [hz], below_drewN (Below.refl _ _) n⟩
    · refine (rdo_mod64n a b ha hb hz w).mono ?_
      rintro e w1 ⟨rfl, n, rfl⟩
      exact ⟨by simp [hz], below_drewN (Below.refl _ _) n⟩
  · rw [doN_add]
    refine (rdo_add32 a b ha hb w).mono ?_
    rintro e w1 ⟨rfl, n, rfl⟩
    exact ⟨rfl, below_drewN (Below.refl _ _) n⟩
  · rw [doW_add]
    refine (rdo_add64 a b ha hb w).mono ?_
    rintro e w1 ⟨rfl, n, rfl⟩
    exact ⟨rfl, below_drewN (Below.refl _ _) n⟩
  · rw [doN_sub]
    refine (rdo_sub32 a b ha hb w).mono ?_
    rintro e w1 ⟨rfl, n, rfl⟩
    exact ⟨rfl, below_drewN (Below.refl _ _) n⟩
  · rw [doW_sub]
    refine (rdo_sub64 a b ha hb w).mono ?_
    rintro e w1 ⟨rfl, n, rfl⟩
    exact ⟨rfl, below_drewN (Below.refl _ _) n⟩
  · rw [doN_mul]
    refine (rdo_mul32 a b ha hb w).mono ?_
    rintro e w1 ⟨rfl, n, rfl⟩
    exact ⟨rfl, below_drewN (Below.refl _ _) n⟩
  · rw [doW_mul]
    refine (rdo_mul64 a b ha hb w).mono ?_
    rintro e w1 ⟨rfl, n, rfl⟩
    exact ⟨rfl, below_drewN (Below.refl _ _) n⟩
  · rw [doN_or]
    refine (rdo_or32 a b ha hb w).mono ?_
    rintro e w1 ⟨rfl, n, rfl⟩
    exact ⟨rfl, below_drewN (Below.refl _ _) n⟩
  · rw [doW_or]
    refine (rdo_or64 a b ha hb w).mono ?_
    rintro e w1 ⟨rfl, n, rfl⟩
    exact ⟨rfl, below_drewN (Below.refl _ _) n⟩
  · rw [doN_and]
    refine (rdo_and32 a b ha hb w).mono ?_
    rintro e w1 ⟨rfl, n, rfl⟩
    exact ⟨rfl, below_drewN (Below.refl _ _) n⟩
  · rw [doW_and]
    refine (rdo_and64 a b ha hb w).mono ?_
    rintro e w1 ⟨rfl, n, rfl⟩
    exact ⟨rfl, below_drewN (Below.refl _ _) n⟩
  · rw [doN_xor]
    refine (rdo_xor32 a b ha hb w).mono ?_
    rintro e w1 ⟨rfl, n, rfl⟩
    exact ⟨rfl, below_drewN (Below.refl _ _) n⟩
  · rw [doW_xor]
    refine (rdo_xor64 a b ha hb w).mono ?_
    rintro e w1 ⟨rfl, n, rfl⟩
    exact ⟨rfl, below_drewN (Below.refl _ _) n⟩
  · rw [doN_lsh]
    refine (rdo_lsh32 a b ha hb w).mono ?_
    rintro e w1 ⟨rfl, n, rfl⟩
    exact ⟨rfl, below_drewN (Below.refl _ _) n⟩
  · rw [doW_lsh]
    refine (rdo_lsh64 a b ha hb w).mono ?_
    rintro e w1 ⟨rfl, n, rfl⟩
    exact ⟨rfl, below_drewN (Below.refl _ _) n⟩
  · rw [doN_rsh]
    refine (rdo_rsh32 a b ha hb w).mono ?_
    rintro e w1 ⟨rfl, n, rfl⟩
    exact ⟨rfl, below_drewN (Below.refl _ _) n⟩
  · rw [doW_rsh]
    refine (rdo_rsh64 a b ha hb w).mono ?_
    rintro e w1 ⟨rfl, n, rfl⟩
    exact ⟨rfl, below_drewN (Below.refl _ _) n⟩
  · rw [doN_arsh]
    unfold arshN
    cases hg : (a % 4294967296 / 2147483648 == 1)
    · refine (rdo_arsh32n a b ha hb hg w).mono ?_
      rintro e w1 ⟨rfl, n, rfl⟩
      exact ⟨by simp, below_drewN (Below.refl _ _) n⟩
    · refine (rdo_arsh32y a b ha hb hg w).mono ?_
      rintro e w1 ⟨rfl, n, rfl⟩
      exact ⟨by simp, below_drewN (Below.refl _ _) n⟩
  · rw [doW_arsh]
    unfold arshW
    cases hg : (a / 9223372036854775808 == 1)
    · refine (rdo_arsh64n a b ha hb hg w).mono ?_
      rintro e w1 ⟨rfl, n, rfl⟩
      exact ⟨by simp, below_drewN (Below.refl _ _) n⟩
    · refine (rdo_arsh64y a b ha hb hg w).mono ?_
      rintro e w1 ⟨rfl, n, rfl⟩
      exact ⟨by simp, below_drewN (Below.refl _ _) n⟩

end
section
theorem u64_div' {a b : Int} (ha : U64 a) (h0 : 0 ≤ b) : U64 (a / b) := ⟨Int.ediv_nonneg ha.1 h0, Int.le_trans (Int.ediv_le_self _ ha.1) ha.2⟩
theorem u64_mod' {a b : Int} (ha : U64 a) (h0 : 0 ≤ b) (hb : ¬ b = 0) : U64 (a % b) := by
  have h1 := Int.emod_nonneg a hb
  have h2 : a % b ≤ a := by
    have e := Int.emod_add_mul_ediv a b
    have h3 : 0 ≤ b * (a / b) := Int.mul_nonneg h0 (Int.ediv_nonneg ha.1 h0)
    omega
  exact ⟨h1, Int.le_trans h2 ha.2⟩
theorem u64_z : U64 0 := ⟨by decide, by decide⟩
theorem u64_mod32 {n : Int} : U64 (n % 4294967296) := ⟨by omega, by omega⟩
theorem do_narrow {op : Int} (ho : OpOk op) {a b : Int} (ha : U64 a) (hb : U64 b) : 0 ≤ doM op false a b ∧ doM op false a b < 4294967296 := by
  rcases ho with rfl | rfl | rfl | rfl | rfl | rfl | rfl | rfl | rfl | rfl | rfl | rfl
  · rw [doN_mov]; omega
  · rw [doN_div]; split
    · omega
    · have h1 : 0 ≤ b % 4294967296 := by omega
      have h2 := Int.ediv_le_self (a := a % 4294967296) (b % 4294967296) (by omega)
      have h3 := Int.ediv_nonneg (a := a % 4294967296) (by omega) h1
      omega
  · rw [doN_mod]; split
    · omega
    · rename_i hz
      have h1 : 0 ≤ b % 4294967296 := by omega
      have h2 := Int.emod_nonneg (a % 4294967296) hz
      have h3 := Int.emod_lt_of_pos (a % 4294967296) (b := b % 4294967296) (by omega)
      omega
  · rw [doN_add]; omega
  · rw [doN_sub]; omega
  · rw [doN_mul]; omega
  · rw [doN_or]; omega
  · rw [doN_and]; omega
  · rw [doN_xor]; omega
  · rw [doN_lsh]; omega
  · rw [doN_rsh]; omega
  · rw [doN_arsh]; omega
theorem u64_do {op : Int} (ho : OpOk op) {wide : Bool} {a b : Int} (ha : U64 a) (hb : U64 b) : U64 (doM op wide a b) := by
  cases wide
  · have := do_narrow ho ha hb; exact ⟨this.1, by omega⟩
  · rcases ho with rfl | rfl | rfl | rfl | rfl | rfl | rfl | rfl | rfl | rfl | rfl | rfl
    · rw [doW_mov]; exact hb
    · rw [doW_div]; split
      · exact u64_z
      · exact u64_div' ha hb.1
    · rw [doW_mod]; split
      · exact ha
      · exact u64_mod' ha hb.1 (by assumption)
    · rw [doW_add]; exact u64_wrap _
    · rw [doW_sub]; exact u64_wrap _
    · rw [doW_mul]; exact u64_wrap _
    · rw [doW_or]; exact u64_bits ha hb _ (by simp)
    · rw [doW_and]; exact u64_bits ha hb _ (by simp)
    · rw [doW_xor]; exact u64_bits ha hb _ (by simp)
    · rw [doW_lsh]; exact u64_wrap _
    · rw [doW_rsh]; exact u64_div ha.1 ha
    · rw [doW_arsh]; unfold arshW; split
      · exact u64_wrap _
      · exact u64_div ha.1 ha
theorem do_cut {op : Int} (ho : OpOk op) (a b : Int) (ha : U64 a) (hb : U64 b) : doM op false (a % 4294967296) (b % 4294967296) % 4294967296 = doM op false a b := by
  have hn := do_narrow ho ha hb
  rw [Int.emod_eq_of_lt (do_narrow ho u64_mod32 u64_mod32).1 (do_narrow ho u64_mod32 u64_mod32).2]
  have e1 : a % 4294967296 % 4294967296 = a % 4294967296 := by omega
  have e2 : b % 4294967296 % 4294967296 = b % 4294967296 := by omega
  have e3 : b % 4294967296 % 32 = b % 32 := by omega
  rcases ho with rfl | rfl | rfl | rfl | rfl | rfl | rfl | rfl | rfl | rfl | rfl | rfl
  · rw [doN_mov, doN_mov, e2, e2]
  · rw [doN_div, doN_div, e1, e2]
  · rw [doN_mod, doN_mod, e1, e2]
  · rw [doN_add, doN_add]; omega
  · rw [doN_sub, doN_sub, e1, e2]
  · rw [doN_mul, doN_mul, e1, e2]
  · rw [doN_or, doN_or, e1, e2]
  · rw [doN_and, doN_and, e1, e2]
  · rw [doN_xor, doN_xor, e1, e2]
  · rw [doN_lsh, doN_lsh, e1, e3]
  · rw [doN_rsh, doN_rsh, e1, e3]
  · rw [doN_arsh, doN_arsh]; unfold arshN; rw [e1, e3]

end
end Go.Proofs.YtncogaikiceidaaGreat
