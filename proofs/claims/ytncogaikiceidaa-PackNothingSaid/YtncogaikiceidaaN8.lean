/- Layer 2, in part. No statement is proved here. -/
import Derived.Test.YtncogaikiceidaaN4
namespace Go.Proofs.Ytncogaikiceidaa
set_option maxRecDepth 100000
open Go.RowKit
set_option linter.unusedSimpArgs false
set_option linter.unusedVariables false
set_option linter.unnecessarySimpa false
section
theorem u64_div' {a b : Int} (ha : U64 a) (h0 : 0 ≤ b) : U64 (a / b) := ⟨Int.ediv_nonneg ha.1 h0, Int.le_trans (Int.ediv_le_self _ ha.1) ha.2⟩
theorem u64_mod' {a b : Int} (ha : U64 a) (h0 : 0 ≤ b) (hb : ¬ b = 0) : U64 (a % b) := by
  have h1 := Int.emod_nonneg a hb
  have h2 : a % b ≤ a := by
    have e := Int.emod_add_mul_ediv a b
    have h3 : 0 ≤ b * (a / b) := Int.mul_nonneg h0 (Int.ediv_nonneg ha.1 h0)
    omega
  exact ⟨h1, Int.le_trans h2 ha.2⟩
theorem u64_z : U64 0 := ⟨by decide, by decide⟩
theorem u64_mod32 {n : Int} : U64 (n % 4294967296) := ⟨by omega, by omega⟩
end
section
theorem u64_wrap (n : Int) : U64 (IntKind.u64.wrap n) := by rw [IntKind.wrap_u64]; exact ⟨by omega, by omega⟩
theorem u64_bits {a b : Int} (ha : U64 a) (hb : U64 b) (o : BinOp) (ho : o = .or ∨ o = .and ∨ o = .xor) : U64 (bits o .u64 a b) := by
  unfold bits; exact u64_wrap _
theorem u64_div {a : Int} {k : Nat} (h0 : 0 ≤ a) (h : U64 a) : U64 (a / 2 ^ k) := by
  have h1 : a / 2 ^ k ≤ a := Int.ediv_le_self _ h0
  exact ⟨Int.ediv_nonneg h0 (Int.pow_nonneg (by omega)), by have := h.2; omega⟩

theorem rparts0 (x : Int) (w : Int) (w0 : World) : Calls Try.prog 89 #[.int .u64 x, .int .u64 0, .int .i64 w, .bool false] w0 fun e w' => e = .returned (.tuple #[.int .u64 0, .int .u64 x]) ∧ w' = w0 := by
  go_enter Try.func89, Try.ntmps89
  go_wp2_with fail
  go_ret2
  exact ⟨rfl, rfl⟩
theorem rpartsz (x y : Int) (h : y = 0) (w : Int) (w0 : World) : Calls Try.prog 89 #[.int .u64 x, .int .u64 y, .int .i64 w, .bool false] w0 fun e w' => e = .returned (.tuple #[.int .u64 0, .int .u64 x]) ∧ w' = w0 := by
  subst h; exact rparts0 x w w0
theorem rparts1 (x y : Int) (hx : U64 x) (hy : U64 y) (h : ¬ y = 0) (w : Int) (w0 : World) : Calls Try.prog 89 #[.int .u64 x, .int .u64 y, .int .i64 w, .bool false] w0 fun e w' => e = .returned (.tuple #[.int .u64 (x / y), .int .u64 (x % y)]) ∧ ∃ n, w' = w0.drewN n := by
  have hq : (y == 0) = false := by simpa using h
  obtain ⟨x0, x1⟩ := hx
  obtain ⟨y0, y1⟩ := hy
  have yp : 0 < y := by omega
  go_enter Try.func89, Try.ntmps89
  go_upto_region 4 with fail
  go_quiet (fail)
  go_wp2_with fail
  go_ret2
  exact ⟨rfl, _, rfl⟩
theorem rneg64 (x : Int) (hx : U64 x) (w : World) : Calls Try.prog 90 #[.int .u64 x, .int .i64 64] w fun e w' => e = .returned (.bool (x / 9223372036854775808 == 1)) ∧ w' = w := by
  obtain ⟨x0, x1⟩ := hx
  go_enter Try.func90, Try.ntmps90
  go_wp2_with fail
  go_ret
  exact ⟨rfl, rfl⟩
theorem rneg32 (x : Int) (hx : U64 x) (w : World) : Calls Try.prog 90 #[.int .u64 x, .int .i64 32] w fun e w' => e = .returned (.bool (x / 2147483648 == 1)) ∧ w' = w := by
  obtain ⟨x0, x1⟩ := hx
  go_enter Try.func90, Try.ntmps90
  go_wp2_with fail
  go_ret
  exact ⟨rfl, rfl⟩
theorem rdo_mov64 (a b : Int) (ha : U64 a) (hb : U64 b) (w : World) : Calls Try.prog 77 #[.int .u8 176, .bool true, .int .i16 0, .int .u64 a, .int .u64 b] w fun e w' => e = .returned (.tuple #[.int .u64 (b), .int .i64 0]) ∧ ∃ n, w' = w.drewN n := by
  have a0 := ha.1
  have a1 := ha.2
  have b0 := hb.1
  have b1 := hb.2
  go_enter Try.func77, Try.ntmps77
  go_wp2_with fail
  refine (rcutG_64 _ _).mono ?_
  rintro e w1 ⟨rfl, rfl⟩
  go_wp2_with fail
  refine (rcutG_64 _ _).mono ?_
  rintro e w2 ⟨rfl, rfl⟩
  go_wp2_with fail
  refine (rcutG_64 _ _).mono ?_
  rintro e w3 ⟨rfl, rfl⟩
  go_wp2_with fail
  go_ret2
  exact ⟨rfl, 0, rfl⟩
theorem rdo_mov32 (a b : Int) (ha : U64 a) (hb : U64 b) (w : World) : Calls Try.prog 77 #[.int .u8 176, .bool false, .int .i16 0, .int .u64 a, .int .u64 b] w fun e w' => e = .returned (.tuple #[.int .u64 (b % 4294967296), .int .i64 0]) ∧ ∃ n, w' = w.drewN n := by
  have a0 := ha.1
  have a1 := ha.2
  have b0 := hb.1
  have b1 := hb.2
  go_enter Try.func77, Try.ntmps77
  go_wp2_with fail
  refine (rcutG_32 _ ha _).mono ?_
  rintro e w1 ⟨rfl, rfl⟩
  go_wp2_with fail
  refine (rcutG_32 _ hb _).mono ?_
  rintro e w2 ⟨rfl, rfl⟩
  go_wp2_with fail
  refine (rcutG_32 _ ⟨by omega, by omega⟩ _).mono ?_
  rintro e w3 ⟨rfl, rfl⟩
  go_wp2_with fail
  go_ret2
  exact ⟨rfl, 0, rfl⟩
theorem rdo_div64z (a b : Int) (ha : U64 a) (hb : U64 b) (hz : b = 0) (w : World) : Calls Try.prog 77 #[.int .u8 48, .bool true, .int .i16 0, .int .u64 a, .int .u64 b] w fun e w' => e = .returned (.tuple #[.int .u64 (0), .int .i64 0]) ∧ ∃ n, w' = w.drewN n := by
  subst hz
  have a0 := ha.1
  have a1 := ha.2
  have b0 := hb.1
  have b1 := hb.2
  go_enter Try.func77, Try.ntmps77
  go_wp2_with fail
  refine (rcutG_64 _ _).mono ?_
  rintro e w1 ⟨rfl, rfl⟩
  go_wp2_with fail
  refine (rcutG_64 _ _).mono ?_
  rintro e w2 ⟨rfl, rfl⟩
  go_wp2_with fail
  refine (rparts0 _ _ _).mono ?_
  rintro e w3 ⟨rfl, rfl⟩
  go_wp2_with fail
  go_ret2
  exact ⟨rfl, 0, rfl⟩
theorem rdo_div64n (a b : Int) (ha : U64 a) (hb : U64 b) (hz : ¬ b = 0) (w : World) : Calls Try.prog 77 #[.int .u8 48, .bool true, .int .i16 0, .int .u64 a, .int .u64 b] w fun e w' => e = .returned (.tuple #[.int .u64 (a / b), .int .i64 0]) ∧ ∃ n, w' = w.drewN n := by
  have hp := fun (wd : Int) w => rparts1 a b ha hb hz wd w
  clear hz
  have a0 := ha.1
  have a1 := ha.2
  have b0 := hb.1
  have b1 := hb.2
  go_enter Try.func77, Try.ntmps77
  go_wp2_with fail
  refine (rcutG_64 _ _).mono ?_
  rintro e w1 ⟨rfl, rfl⟩
  go_wp2_with fail
  refine (rcutG_64 _ _).mono ?_
  rintro e w2 ⟨rfl, rfl⟩
  go_wp2_with fail
  refine (hp _ _).mono ?_
  rintro e w3 ⟨rfl, n3, rfl⟩
  go_wp2_with fail
  go_ret2
  exact ⟨rfl, n3, rfl⟩
theorem rdo_div32z (a b : Int) (ha : U64 a) (hb : U64 b) (hz : b % 4294967296 = 0) (w : World) : Calls Try.prog 77 #[.int .u8 48, .bool false, .int .i16 0, .int .u64 a, .int .u64 b] w fun e w' => e = .returned (.tuple #[.int .u64 (0), .int .i64 0]) ∧ ∃ n, w' = w.drewN n := by
  have hp := fun (wd : Int) w => rpartsz (a % 4294967296) (b % 4294967296) hz wd w
  clear hz
  have a0 := ha.1
  have a1 := ha.2
  have b0 := hb.1
  have b1 := hb.2
  go_enter Try.func77, Try.ntmps77
  go_wp2_with fail
  refine (rcutG_32 _ ha _).mono ?_
  rintro e w1 ⟨rfl, rfl⟩
  go_wp2_with fail
  refine (rcutG_32 _ hb _).mono ?_
  rintro e w2 ⟨rfl, rfl⟩
  go_wp2_with fail
  refine (hp _ _).mono ?_
  rintro e w3 ⟨rfl, rfl⟩
  go_wp2_with fail
  go_ret2
  exact ⟨rfl, 0, rfl⟩
theorem rdo_div32n (a b : Int) (ha : U64 a) (hb : U64 b) (hz : ¬ b % 4294967296 = 0) (w : World) : Calls Try.prog 77 #[.int .u8 48, .bool false, .int .i16 0, .int .u64 a, .int .u64 b] w fun e w' => e = .returned (.tuple #[.int .u64 ((a % 4294967296) / (b % 4294967296)), .int .i64 0]) ∧ ∃ n, w' = w.drewN n := by
  have hp := fun (wd : Int) w => rparts1 (a % 4294967296) (b % 4294967296) ⟨by omega, by have := ha.1; omega⟩ ⟨by omega, by have := hb.1; omega⟩ hz wd w
  clear hz
  have a0 := ha.1
  have a1 := ha.2
  have b0 := hb.1
  have b1 := hb.2
  go_enter Try.func77, Try.ntmps77
  go_wp2_with fail
  refine (rcutG_32 _ ha _).mono ?_
  rintro e w1 ⟨rfl, rfl⟩
  go_wp2_with fail
  refine (rcutG_32 _ hb _).mono ?_
  rintro e w2 ⟨rfl, rfl⟩
  go_wp2_with fail
  refine (hp _ _).mono ?_
  rintro e w3 ⟨rfl, n3, rfl⟩
  go_wp2_with fail
  go_ret2
  exact ⟨rfl, n3, rfl⟩
theorem rdo_mod64z (a b : Int) (ha : U64 a) (hb : U64 b) (hz : b = 0) (w : World) : Calls Try.prog 77 #[.int .u8 144, .bool true, .int .i16 0, .int .u64 a, .int .u64 b] w fun e w' => e = .returned (.tuple #[.int .u64 (a), .int .i64 0]) ∧ ∃ n, w' = w.drewN n := by
  subst hz
  have a0 := ha.1
  have a1 := ha.2
  have b0 := hb.1
  have b1 := hb.2
  go_enter Try.func77, Try.ntmps77
  go_wp2_with fail
  refine (rcutG_64 _ _).mono ?_
  rintro e w1 ⟨rfl, rfl⟩
  go_wp2_with fail
  refine (rcutG_64 _ _).mono ?_
  rintro e w2 ⟨rfl, rfl⟩
  go_wp2_with fail
  refine (rparts0 _ _ _).mono ?_
  rintro e w3 ⟨rfl, rfl⟩
  go_wp2_with fail
  go_ret2
  exact ⟨rfl, 0, rfl⟩
theorem rdo_mod64n (a b : Int) (ha : U64 a) (hb : U64 b) (hz : ¬ b = 0) (w : World) : Calls Try.prog 77 #[.int .u8 144, .bool true, .int .i16 0, .int .u64 a, .int .u64 b] w fun e w' => e = .returned (.tuple #[.int .u64 (a % b), .int .i64 0]) ∧ ∃ n, w' = w.drewN n := by
  have hp := fun (wd : Int) w => rparts1 a b ha hb hz wd w
  clear hz
  have a0 := ha.1
  have a1 := ha.2
  have b0 := hb.1
  have b1 := hb.2
  go_enter Try.func77, Try.ntmps77
  go_wp2_with fail
  refine (rcutG_64 _ _).mono ?_
  rintro e w1 ⟨rfl, rfl⟩
  go_wp2_with fail
  refine (rcutG_64 _ _).mono ?_
  rintro e w2 ⟨rfl, rfl⟩
  go_wp2_with fail
  refine (hp _ _).mono ?_
  rintro e w3 ⟨rfl, n3, rfl⟩
  go_wp2_with fail
  go_ret2
  exact ⟨rfl, n3, rfl⟩
theorem rdo_mod32z (a b : Int) (ha : U64 a) (hb : U64 b) (hz : b % 4294967296 = 0) (w : World) : Calls Try.prog 77 #[.int .u8 144, .bool false, .int .i16 0, .int .u64 a, .int .u64 b] w fun e w' => e = .returned (.tuple #[.int .u64 ((a % 4294967296)), .int .i64 0]) ∧ ∃ n, w' = w.drewN n := by
  have hp := fun (wd : Int) w => rpartsz (a % 4294967296) (b % 4294967296) hz wd w
  clear hz
  have a0 := ha.1
  have a1 := ha.2
  have b0 := hb.1
  have b1 := hb.2
  go_enter Try.func77, Try.ntmps77
  go_wp2_with fail
  refine (rcutG_32 _ ha _).mono ?_
  rintro e w1 ⟨rfl, rfl⟩
  go_wp2_with fail
  refine (rcutG_32 _ hb _).mono ?_
  rintro e w2 ⟨rfl, rfl⟩
  go_wp2_with fail
  refine (hp _ _).mono ?_
  rintro e w3 ⟨rfl, rfl⟩
  go_wp2_with fail
  go_ret2
  exact ⟨rfl, 0, rfl⟩
theorem rdo_mod32n (a b : Int) (ha : U64 a) (hb : U64 b) (hz : ¬ b % 4294967296 = 0) (w : World) : Calls Try.prog 77 #[.int .u8 144, .bool false, .int .i16 0, .int .u64 a, .int .u64 b] w fun e w' => e = .returned (.tuple #[.int .u64 ((a % 4294967296) % (b % 4294967296)), .int .i64 0]) ∧ ∃ n, w' = w.drewN n := by
  have hp := fun (wd : Int) w => rparts1 (a % 4294967296) (b % 4294967296) ⟨by omega, by have := ha.1; omega⟩ ⟨by omega, by have := hb.1; omega⟩ hz wd w
  clear hz
  have a0 := ha.1
  have a1 := ha.2
  have b0 := hb.1
  have b1 := hb.2
  go_enter Try.func77, Try.ntmps77
  go_wp2_with fail
  refine (rcutG_32 _ ha _).mono ?_
  rintro e w1 ⟨rfl, rfl⟩
  go_wp2_with fail
  refine (rcutG_32 _ hb _).mono ?_
  rintro e w2 ⟨rfl, rfl⟩
  go_wp2_with fail
  refine (hp _ _).mono ?_
  rintro e w3 ⟨rfl, n3, rfl⟩
  go_wp2_with fail
  go_ret2
  exact ⟨rfl, n3, rfl⟩
theorem rdo_add64 (a b : Int) (ha : U64 a) (hb : U64 b) (w : World) : Calls Try.prog 77 #[.int .u8 0, .bool true, .int .i16 0, .int .u64 a, .int .u64 b] w fun e w' => e = .returned (.tuple #[.int .u64 (IntKind.u64.wrap (a + b)), .int .i64 0]) ∧ ∃ n, w' = w.drewN n := by
  have a0 := ha.1
  have a1 := ha.2
  have b0 := hb.1
  have b1 := hb.2
  go_enter Try.func77, Try.ntmps77
  go_wp2_with fail
  refine (rcutG_64 _ _).mono ?_
  rintro e w1 ⟨rfl, rfl⟩
  go_wp2_with fail
  refine (rcutG_64 _ _).mono ?_
  rintro e w2 ⟨rfl, rfl⟩
  go_wp2_with fail
  refine (rcutG_64 _ _).mono ?_
  rintro e w3 ⟨rfl, rfl⟩
  go_wp2_with fail
  go_ret2
  exact ⟨rfl, 0, rfl⟩
theorem rdo_add32 (a b : Int) (ha : U64 a) (hb : U64 b) (w : World) : Calls Try.prog 77 #[.int .u8 0, .bool false, .int .i16 0, .int .u64 a, .int .u64 b] w fun e w' => e = .returned (.tuple #[.int .u64 ((a + b) % 4294967296), .int .i64 0]) ∧ ∃ n, w' = w.drewN n := by
  have a0 := ha.1
  have a1 := ha.2
  have b0 := hb.1
  have b1 := hb.2
  go_enter Try.func77, Try.ntmps77
  go_wp2_with fail
  refine (rcutG_32 _ ha _).mono ?_
  rintro e w1 ⟨rfl, rfl⟩
  go_wp2_with fail
  refine (rcutG_32 _ hb _).mono ?_
  rintro e w2 ⟨rfl, rfl⟩
  go_wp2_with fail
  refine (rcutG_32 _ ⟨by omega, by omega⟩ _).mono ?_
  rintro e w3 ⟨rfl, rfl⟩
  go_wp2_with fail
  go_ret2
  exact ⟨rfl, 0, rfl⟩
theorem rdo_sub64 (a b : Int) (ha : U64 a) (hb : U64 b) (w : World) : Calls Try.prog 77 #[.int .u8 16, .bool true, .int .i16 0, .int .u64 a, .int .u64 b] w fun e w' => e = .returned (.tuple #[.int .u64 (IntKind.u64.wrap (a - b)), .int .i64 0]) ∧ ∃ n, w' = w.drewN n := by
  have a0 := ha.1
  have a1 := ha.2
  have b0 := hb.1
  have b1 := hb.2
  go_enter Try.func77, Try.ntmps77
  go_wp2_with fail
  refine (rcutG_64 _ _).mono ?_
  rintro e w1 ⟨rfl, rfl⟩
  go_wp2_with fail
  refine (rcutG_64 _ _).mono ?_
  rintro e w2 ⟨rfl, rfl⟩
  go_wp2_with fail
  refine (rcutG_64 _ _).mono ?_
  rintro e w3 ⟨rfl, rfl⟩
  go_wp2_with fail
  go_ret2
  exact ⟨rfl, 0, rfl⟩
theorem rdo_sub32 (a b : Int) (ha : U64 a) (hb : U64 b) (w : World) : Calls Try.prog 77 #[.int .u8 16, .bool false, .int .i16 0, .int .u64 a, .int .u64 b] w fun e w' => e = .returned (.tuple #[.int .u64 ((IntKind.u64.wrap ((a % 4294967296) - (b % 4294967296))) % 4294967296), .int .i64 0]) ∧ ∃ n, w' = w.drewN n := by
  have a0 := ha.1
  have a1 := ha.2
  have b0 := hb.1
  have b1 := hb.2
  go_enter Try.func77, Try.ntmps77
  go_wp2_with fail
  refine (rcutG_32 _ ha _).mono ?_
  rintro e w1 ⟨rfl, rfl⟩
  go_wp2_with fail
  refine (rcutG_32 _ hb _).mono ?_
  rintro e w2 ⟨rfl, rfl⟩
  go_wp2_with fail
  refine (rcutG_32 _ (u64_wrap _) _).mono ?_
  rintro e w3 ⟨rfl, rfl⟩
  go_wp2_with fail
  go_ret2
  exact ⟨rfl, 0, rfl⟩
theorem rdo_mul64 (a b : Int) (ha : U64 a) (hb : U64 b) (w : World) : Calls Try.prog 77 #[.int .u8 32, .bool true, .int .i16 0, .int .u64 a, .int .u64 b] w fun e w' => e = .returned (.tuple #[.int .u64 (IntKind.u64.wrap (a * b)), .int .i64 0]) ∧ ∃ n, w' = w.drewN n := by
  have a0 := ha.1
  have a1 := ha.2
  have b0 := hb.1
  have b1 := hb.2
  go_enter Try.func77, Try.ntmps77
  go_wp2_with fail
  refine (rcutG_64 _ _).mono ?_
  rintro e w1 ⟨rfl, rfl⟩
  go_wp2_with fail
  refine (rcutG_64 _ _).mono ?_
  rintro e w2 ⟨rfl, rfl⟩
  go_wp2_with fail
  refine (rcutG_64 _ _).mono ?_
  rintro e w3 ⟨rfl, rfl⟩
  go_wp2_with fail
  go_ret2
  exact ⟨rfl, 0, rfl⟩
theorem rdo_mul32 (a b : Int) (ha : U64 a) (hb : U64 b) (w : World) : Calls Try.prog 77 #[.int .u8 32, .bool false, .int .i16 0, .int .u64 a, .int .u64 b] w fun e w' => e = .returned (.tuple #[.int .u64 ((IntKind.u64.wrap ((a % 4294967296) * (b % 4294967296))) % 4294967296), .int .i64 0]) ∧ ∃ n, w' = w.drewN n := by
  have a0 := ha.1
  have a1 := ha.2
  have b0 := hb.1
  have b1 := hb.2
  go_enter Try.func77, Try.ntmps77
  go_wp2_with fail
  refine (rcutG_32 _ ha _).mono ?_
  rintro e w1 ⟨rfl, rfl⟩
  go_wp2_with fail
  refine (rcutG_32 _ hb _).mono ?_
  rintro e w2 ⟨rfl, rfl⟩
  go_wp2_with fail
  refine (rcutG_32 _ (u64_wrap _) _).mono ?_
  rintro e w3 ⟨rfl, rfl⟩
  go_wp2_with fail
  go_ret2
  exact ⟨rfl, 0, rfl⟩
theorem rdo_or64 (a b : Int) (ha : U64 a) (hb : U64 b) (w : World) : Calls Try.prog 77 #[.int .u8 64, .bool true, .int .i16 0, .int .u64 a, .int .u64 b] w fun e w' => e = .returned (.tuple #[.int .u64 (bits .or .u64 a b), .int .i64 0]) ∧ ∃ n, w' = w.drewN n := by
  have a0 := ha.1
  have a1 := ha.2
  have b0 := hb.1
  have b1 := hb.2
  go_enter Try.func77, Try.ntmps77
  go_wp2_with fail
  refine (rcutG_64 _ _).mono ?_
  rintro e w1 ⟨rfl, rfl⟩
  go_wp2_with fail
  refine (rcutG_64 _ _).mono ?_
  rintro e w2 ⟨rfl, rfl⟩
  go_wp2_with fail
  refine (rcutG_64 _ _).mono ?_
  rintro e w3 ⟨rfl, rfl⟩
  go_wp2_with fail
  go_ret2
  exact ⟨rfl, 0, rfl⟩
theorem rdo_or32 (a b : Int) (ha : U64 a) (hb : U64 b) (w : World) : Calls Try.prog 77 #[.int .u8 64, .bool false, .int .i16 0, .int .u64 a, .int .u64 b] w fun e w' => e = .returned (.tuple #[.int .u64 ((bits .or .u64 (a % 4294967296) (b % 4294967296)) % 4294967296), .int .i64 0]) ∧ ∃ n, w' = w.drewN n := by
  have hu : U64 (bits .or .u64 (a % 4294967296) (b % 4294967296)) := u64_bits ⟨by have := ha.1; omega, by have := ha.1; omega⟩ ⟨by have := hb.1; omega, by have := hb.1; omega⟩ _ (by simp)
  have a0 := ha.1
  have a1 := ha.2
  have b0 := hb.1
  have b1 := hb.2
  go_enter Try.func77, Try.ntmps77
  go_wp2_with fail
  refine (rcutG_32 _ ha _).mono ?_
  rintro e w1 ⟨rfl, rfl⟩
  go_wp2_with fail
  refine (rcutG_32 _ hb _).mono ?_
  rintro e w2 ⟨rfl, rfl⟩
  go_wp2_with fail
  refine (rcutG_32 _ hu _).mono ?_
  rintro e w3 ⟨rfl, rfl⟩
  go_wp2_with fail
  go_ret2
  exact ⟨rfl, 0, rfl⟩
theorem rdo_and64 (a b : Int) (ha : U64 a) (hb : U64 b) (w : World) : Calls Try.prog 77 #[.int .u8 80, .bool true, .int .i16 0, .int .u64 a, .int .u64 b] w fun e w' => e = .returned (.tuple #[.int .u64 (bits .and .u64 a b), .int .i64 0]) ∧ ∃ n, w' = w.drewN n := by
  have a0 := ha.1
  have a1 := ha.2
  have b0 := hb.1
  have b1 := hb.2
  go_enter Try.func77, Try.ntmps77
  go_wp2_with fail
  refine (rcutG_64 _ _).mono ?_
  rintro e w1 ⟨rfl, rfl⟩
  go_wp2_with fail
  refine (rcutG_64 _ _).mono ?_
  rintro e w2 ⟨rfl, rfl⟩
  go_wp2_with fail
  refine (rcutG_64 _ _).mono ?_
  rintro e w3 ⟨rfl, rfl⟩
  go_wp2_with fail
  go_ret2
  exact ⟨rfl, 0, rfl⟩
theorem rdo_and32 (a b : Int) (ha : U64 a) (hb : U64 b) (w : World) : Calls Try.prog 77 #[.int .u8 80, .bool false, .int .i16 0, .int .u64 a, .int .u64 b] w fun e w' => e = .returned (.tuple #[.int .u64 ((bits .and .u64 (a % 4294967296) (b % 4294967296)) % 4294967296), .int .i64 0]) ∧ ∃ n, w' = w.drewN n := by
  have hu : U64 (bits .and .u64 (a % 4294967296) (b % 4294967296)) := u64_bits ⟨by have := ha.1; omega, by have := ha.1; omega⟩ ⟨by have := hb.1; omega, by have := hb.1; omega⟩ _ (by simp)
  have a0 := ha.1
  have a1 := ha.2
  have b0 := hb.1
  have b1 := hb.2
  go_enter Try.func77, Try.ntmps77
  go_wp2_with fail
  refine (rcutG_32 _ ha _).mono ?_
  rintro e w1 ⟨rfl, rfl⟩
  go_wp2_with fail
  refine (rcutG_32 _ hb _).mono ?_
  rintro e w2 ⟨rfl, rfl⟩
  go_wp2_with fail
  refine (rcutG_32 _ hu _).mono ?_
  rintro e w3 ⟨rfl, rfl⟩
  go_wp2_with fail
  go_ret2
  exact ⟨rfl, 0, rfl⟩
theorem rdo_xor64 (a b : Int) (ha : U64 a) (hb : U64 b) (w : World) : Calls Try.prog 77 #[.int .u8 160, .bool true, .int .i16 0, .int .u64 a, .int .u64 b] w fun e w' => e = .returned (.tuple #[.int .u64 (bits .xor .u64 a b), .int .i64 0]) ∧ ∃ n, w' = w.drewN n := by
  have a0 := ha.1
  have a1 := ha.2
  have b0 := hb.1
  have b1 := hb.2
  go_enter Try.func77, Try.ntmps77
  go_wp2_with fail
  refine (rcutG_64 _ _).mono ?_
  rintro e w1 ⟨rfl, rfl⟩
  go_wp2_with fail
  refine (rcutG_64 _ _).mono ?_
  rintro e w2 ⟨rfl, rfl⟩
  go_wp2_with fail
  refine (rcutG_64 _ _).mono ?_
  rintro e w3 ⟨rfl, rfl⟩
  go_wp2_with fail
  go_ret2
  exact ⟨rfl, 0, rfl⟩
theorem rdo_xor32 (a b : Int) (ha : U64 a) (hb : U64 b) (w : World) : Calls Try.prog 77 #[.int .u8 160, .bool false, .int .i16 0, .int .u64 a, .int .u64 b] w fun e w' => e = .returned (.tuple #[.int .u64 ((bits .xor .u64 (a % 4294967296) (b % 4294967296)) % 4294967296), .int .i64 0]) ∧ ∃ n, w' = w.drewN n := by
  have hu : U64 (bits .xor .u64 (a % 4294967296) (b % 4294967296)) := u64_bits ⟨by have := ha.1; omega, by have := ha.1; omega⟩ ⟨by have := hb.1; omega, by have := hb.1; omega⟩ _ (by simp)
  have a0 := ha.1
  have a1 := ha.2
  have b0 := hb.1
  have b1 := hb.2
  go_enter Try.func77, Try.ntmps77
  go_wp2_with fail
  refine (rcutG_32 _ ha _).mono ?_
  rintro e w1 ⟨rfl, rfl⟩
  go_wp2_with fail
  refine (rcutG_32 _ hb _).mono ?_
  rintro e w2 ⟨rfl, rfl⟩
  go_wp2_with fail
  refine (rcutG_32 _ hu _).mono ?_
  rintro e w3 ⟨rfl, rfl⟩
  go_wp2_with fail
  go_ret2
  exact ⟨rfl, 0, rfl⟩
theorem rdo_lsh64 (a b : Int) (ha : U64 a) (hb : U64 b) (w : World) : Calls Try.prog 77 #[.int .u8 96, .bool true, .int .i16 0, .int .u64 a, .int .u64 b] w fun e w' => e = .returned (.tuple #[.int .u64 (IntKind.u64.wrap (a * 2 ^ (b % 64).toNat)), .int .i64 0]) ∧ ∃ n, w' = w.drewN n := by
  have a0 := ha.1
  have a1 := ha.2
  have b0 := hb.1
  have b1 := hb.2
  go_enter Try.func77, Try.ntmps77
  go_wp2_with fail
  refine (rcutG_64 _ _).mono ?_
  rintro e w1 ⟨rfl, rfl⟩
  go_wp2_with fail
  refine (rcutG_64 _ _).mono ?_
  rintro e w2 ⟨rfl, rfl⟩
  go_wp2_with fail
  refine (rcutG_64 _ _).mono ?_
  rintro e w3 ⟨rfl, rfl⟩
  go_wp2_with fail
  go_ret2
  exact ⟨rfl, 0, rfl⟩
theorem rdo_lsh32 (a b : Int) (ha : U64 a) (hb : U64 b) (w : World) : Calls Try.prog 77 #[.int .u8 96, .bool false, .int .i16 0, .int .u64 a, .int .u64 b] w fun e w' => e = .returned (.tuple #[.int .u64 ((IntKind.u64.wrap ((a % 4294967296) * 2 ^ (b % 32).toNat)) % 4294967296), .int .i64 0]) ∧ ∃ n, w' = w.drewN n := by
  have a0 := ha.1
  have a1 := ha.2
  have b0 := hb.1
  have b1 := hb.2
  go_enter Try.func77, Try.ntmps77
  go_wp2_with fail
  refine (rcutG_32 _ ha _).mono ?_
  rintro e w1 ⟨rfl, rfl⟩
  go_wp2_with fail
  refine (rcutG_32 _ hb _).mono ?_
  rintro e w2 ⟨rfl, rfl⟩
  go_wp2_with fail
  refine (rcutG_32 _ (u64_wrap _) _).mono ?_
  rintro e w3 ⟨rfl, rfl⟩
  go_wp2_with fail
  go_ret2
  exact ⟨rfl, 0, rfl⟩
theorem rdo_rsh64 (a b : Int) (ha : U64 a) (hb : U64 b) (w : World) : Calls Try.prog 77 #[.int .u8 112, .bool true, .int .i16 0, .int .u64 a, .int .u64 b] w fun e w' => e = .returned (.tuple #[.int .u64 (a / 2 ^ (b % 64).toNat), .int .i64 0]) ∧ ∃ n, w' = w.drewN n := by
  have a0 := ha.1
  have a1 := ha.2
  have b0 := hb.1
  have b1 := hb.2
  go_enter Try.func77, Try.ntmps77
  go_wp2_with fail
  refine (rcutG_64 _ _).mono ?_
  rintro e w1 ⟨rfl, rfl⟩
  go_wp2_with fail
  refine (rcutG_64 _ _).mono ?_
  rintro e w2 ⟨rfl, rfl⟩
  go_wp2_with fail
  refine (rcutG_64 _ _).mono ?_
  rintro e w3 ⟨rfl, rfl⟩
  go_wp2_with fail
  go_ret2
  exact ⟨rfl, 0, rfl⟩
theorem rdo_rsh32 (a b : Int) (ha : U64 a) (hb : U64 b) (w : World) : Calls Try.prog 77 #[.int .u8 112, .bool false, .int .i16 0, .int .u64 a, .int .u64 b] w fun e w' => e = .returned (.tuple #[.int .u64 (((a % 4294967296) / 2 ^ (b % 32).toNat) % 4294967296), .int .i64 0]) ∧ ∃ n, w' = w.drewN n := by
  have hu : U64 (a % 4294967296 / 2 ^ (b % 32).toNat) := u64_div (by have := ha.1; omega) ⟨by have := ha.1; omega, by have := ha.1; omega⟩
  have a0 := ha.1
  have a1 := ha.2
  have b0 := hb.1
  have b1 := hb.2
  go_enter Try.func77, Try.ntmps77
  go_wp2_with fail
  refine (rcutG_32 _ ha _).mono ?_
  rintro e w1 ⟨rfl, rfl⟩
  go_wp2_with fail
  refine (rcutG_32 _ hb _).mono ?_
  rintro e w2 ⟨rfl, rfl⟩
  go_wp2_with fail
  refine (rcutG_32 _ hu _).mono ?_
  rintro e w3 ⟨rfl, rfl⟩
  go_wp2_with fail
  go_ret2
  exact ⟨rfl, 0, rfl⟩
theorem rdo_arsh64y (a b : Int) (ha : U64 a) (hb : U64 b) (hg : (a / 9223372036854775808 == 1) = true) (w : World) : Calls Try.prog 77 #[.int .u8 192, .bool true, .int .i16 0, .int .u64 a, .int .u64 b] w fun e w' => e = .returned (.tuple #[.int .u64 (IntKind.u64.wrap (IntKind.u64.wrap (18446744073709551615 - 18446744073709551615 / 2 ^ (b % 64).toNat) + a / 2 ^ (b % 64).toNat)), .int .i64 0]) ∧ ∃ n, w' = w.drewN n := by
  have hn := fun w => rneg64 a ha w
  rw [hg] at hn
  clear hg
  have a0 := ha.1
  have a1 := ha.2
  have b0 := hb.1
  have b1 := hb.2
  go_enter Try.func77, Try.ntmps77
  go_wp2_with fail
  refine (rcutG_64 _ _).mono ?_
  rintro e w1 ⟨rfl, rfl⟩
  go_wp2_with fail
  refine (rcutG_64 _ _).mono ?_
  rintro e w2 ⟨rfl, rfl⟩
  go_wp2_with fail
  refine (hn _).mono ?_
  rintro e w3 ⟨rfl, rfl⟩
  go_wp2_with fail
  refine (rcutG_64 _ _).mono ?_
  rintro e w4 ⟨rfl, rfl⟩
  go_wp2_with fail
  refine (rcutG_64 _ _).mono ?_
  rintro e w5 ⟨rfl, rfl⟩
  go_wp2_with fail
  go_ret2
  exact ⟨rfl, 0, rfl⟩
theorem rdo_arsh32y (a b : Int) (ha : U64 a) (hb : U64 b) (hg : (a % 4294967296 / 2147483648 == 1) = true) (w : World) : Calls Try.prog 77 #[.int .u8 192, .bool false, .int .i16 0, .int .u64 a, .int .u64 b] w fun e w' => e = .returned (.tuple #[.int .u64 (IntKind.u64.wrap (IntKind.u64.wrap (4294967295 - 4294967295 / 2 ^ (b % 32).toNat) + a % 4294967296 / 2 ^ (b % 32).toNat) % 4294967296), .int .i64 0]) ∧ ∃ n, w' = w.drewN n := by
  have hn := fun w => rneg32 (a % 4294967296) ⟨by have := ha.1; omega, by have := ha.1; omega⟩ w
  rw [hg] at hn
  clear hg
  have hw := fun n => u64_wrap n
  have a0 := ha.1
  have a1 := ha.2
  have b0 := hb.1
  have b1 := hb.2
  go_enter Try.func77, Try.ntmps77
  go_wp2_with fail
  refine (rcutG_32 _ ha _).mono ?_
  rintro e w1 ⟨rfl, rfl⟩
  go_wp2_with fail
  refine (rcutG_32 _ hb _).mono ?_
  rintro e w2 ⟨rfl, rfl⟩
  go_wp2_with fail
  refine (hn _).mono ?_
  rintro e w3 ⟨rfl, rfl⟩
  go_wp2_with fail
  refine (rcutG_32 _ ⟨by decide, by decide⟩ _).mono ?_
  rintro e w4 ⟨rfl, rfl⟩
  go_wp2_with fail
  refine (rcutG_32 _ (u64_wrap _) _).mono ?_
  rintro e w5 ⟨rfl, rfl⟩
  go_wp2_with fail
  go_ret2
  exact ⟨rfl, 0, rfl⟩
theorem rdo_arsh64n (a b : Int) (ha : U64 a) (hb : U64 b) (hg : (a / 9223372036854775808 == 1) = false) (w : World) : Calls Try.prog 77 #[.int .u8 192, .bool true, .int .i16 0, .int .u64 a, .int .u64 b] w fun e w' => e = .returned (.tuple #[.int .u64 (a / 2 ^ (b % 64).toNat), .int .i64 0]) ∧ ∃ n, w' = w.drewN n := by
  have hn := fun w => rneg64 a ha w
  rw [hg] at hn
  clear hg
  have a0 := ha.1
  have a1 := ha.2
  have b0 := hb.1
  have b1 := hb.2
  go_enter Try.func77, Try.ntmps77
  go_wp2_with fail
  refine (rcutG_64 _ _).mono ?_
  rintro e w1 ⟨rfl, rfl⟩
  go_wp2_with fail
  refine (rcutG_64 _ _).mono ?_
  rintro e w2 ⟨rfl, rfl⟩
  go_wp2_with fail
  refine (hn _).mono ?_
  rintro e w3 ⟨rfl, rfl⟩
  go_wp2_with fail
  refine (rcutG_64 _ _).mono ?_
  rintro e w5 ⟨rfl, rfl⟩
  go_wp2_with fail
  go_ret2
  exact ⟨rfl, 0, rfl⟩
theorem rdo_arsh32n (a b : Int) (ha : U64 a) (hb : U64 b) (hg : (a % 4294967296 / 2147483648 == 1) = false) (w : World) : Calls Try.prog 77 #[.int .u8 192, .bool false, .int .i16 0, .int .u64 a, .int .u64 b] w fun e w' => e = .returned (.tuple #[.int .u64 (a % 4294967296 / 2 ^ (b % 32).toNat % 4294967296), .int .i64 0]) ∧ ∃ n, w' = w.drewN n := by
  have hn := fun w => rneg32 (a % 4294967296) ⟨by have := ha.1; omega, by have := ha.1; omega⟩ w
  rw [hg] at hn
  clear hg
  have hu : U64 (a % 4294967296 / 2 ^ (b % 32).toNat) := u64_div (by have := ha.1; omega) ⟨by have := ha.1; omega, by have := ha.1; omega⟩
  have a0 := ha.1
  have a1 := ha.2
  have b0 := hb.1
  have b1 := hb.2
  go_enter Try.func77, Try.ntmps77
  go_wp2_with fail
  refine (rcutG_32 _ ha _).mono ?_
  rintro e w1 ⟨rfl, rfl⟩
  go_wp2_with fail
  refine (rcutG_32 _ hb _).mono ?_
  rintro e w2 ⟨rfl, rfl⟩
  go_wp2_with fail
  refine (hn _).mono ?_
  rintro e w3 ⟨rfl, rfl⟩
  go_wp2_with fail
  refine (rcutG_32 _ hu _).mono ?_
  rintro e w5 ⟨rfl, rfl⟩
  go_wp2_with fail
  go_ret2
  exact ⟨rfl, 0, rfl⟩
end
section
def szW (x : Int) : Int := if (x / 9223372036854775808 == 1) = true then IntKind.u64.wrap (-x) else x
def szN (x : Int) : Int := if (x / 2147483648 == 1) = true then IntKind.u64.wrap (-x) % 4294967296 else x
theorem szW_u64 {x : Int} (hx : U64 x) : U64 (szW x) := by unfold szW; split; exact u64_wrap _; exact hx
theorem szN_u64 {x : Int} (hx : U64 x) : U64 (szN x) := by
  unfold szN; split
  · exact ⟨by omega, by omega⟩
  · exact hx
theorem szW_ne {x : Int} (hx : U64 x) (h : ¬ x = 0) : ¬ szW x = 0 := by
  unfold szW; split
  · rw [IntKind.wrap_u64]; obtain ⟨a, b⟩ := hx; omega
  · exact h
theorem szN_ne {x : Int} (hx : 0 ≤ x ∧ x < 4294967296) (h : ¬ x = 0) : ¬ szN x = 0 := by
  unfold szN; split
  · rw [IntKind.wrap_u64]; obtain ⟨a, b⟩ := hx; omega
  · exact h
set_option maxHeartbeats 2000000 in
theorem rsize64 (x : Int) (hx : U64 x) (w : World) : Calls Try.prog 93 #[.int .u64 x, .int .i64 64] w fun e w' => e = .returned (.int .u64 (szW x)) ∧ w' = w := by
  have hn := fun w => rneg64 x hx w
  have hc := fun w => rcutG_64 (IntKind.u64.wrap (-x)) w
  unfold szW
  cases hg : (x / 9223372036854775808 == 1)
  · rw [hg] at hn
    rw [if_neg (by decide)]
    clear hg
    obtain ⟨x0, x1⟩ := hx
    go_enter Try.func93, Try.ntmps93
    go_wp2_with fail
    refine (hn _).mono ?_
    rintro e w1 ⟨rfl, rfl⟩
    go_wp2_with fail
    go_ret
    exact ⟨rfl, rfl⟩
  · rw [hg] at hn
    rw [if_pos rfl]
    clear hg
    obtain ⟨x0, x1⟩ := hx
    go_enter Try.func93, Try.ntmps93
    go_wp2_with fail
    refine (hn _).mono ?_
    rintro e w1 ⟨rfl, rfl⟩
    go_wp2_with fail
    refine (hc _).mono ?_
    rintro e w2 ⟨rfl, rfl⟩
    go_wp2_with fail
    go_ret
    exact ⟨rfl, rfl⟩
set_option maxHeartbeats 2000000 in
theorem rparts64s (x y : Int) (hx : U64 x) (hy : U64 y) : ∃ q r, U64 q ∧ U64 r ∧ ∀ w0, Calls Try.prog 89 #[.int .u64 x, .int .u64 y, .int .i64 64, .bool true] w0 fun e w' => e = .returned (.tuple #[.int .u64 q, .int .u64 r]) ∧ ∃ n, w' = w0.drewN n := by
  by_cases hy0 : y = 0
  · subst hy0
    refine ⟨0, x, u64_z, hx, fun w => ?_⟩
    go_enter Try.func89, Try.ntmps89
    go_wp2_with fail
    go_ret2
    exact ⟨rfl, 0, rfl⟩
  have hq0 : (y == 0) = false := by simpa using hy0
  have hzx := fun w => rsize64 x hx w
  have hzy := fun w => rsize64 y hy w
  have hnx := fun w => rneg64 x hx w
  have hny := fun w => rneg64 y hy w
  have hu := szW_u64 hx
  have hsy := szW_ne hy hy0
  have hv : 0 < szW y := by have := (szW_u64 hy).1; omega
  generalize szW x = sx at *
  generalize szW y = sy at *
  have x0 := hx.1
  have y0 := hy.1
  have x1 : x ≤ 18446744073709551615 := hx.2
  have y1 : y ≤ 18446744073709551615 := hy.2
  clear hx hy
  cases hg : (x / 9223372036854775808 == 1)
  · rw [hg] at hnx
    cases hk : (y / 9223372036854775808 == 1)
    · rw [hk] at hny
      have hc1 := fun w => rcutG_64 (IntKind.u64.wrap (-(sx / sy))) w
      have hc2 := fun w => rcutG_64 (IntKind.u64.wrap (-(sx % sy))) w
      clear hg hk
      refine ⟨sx / sy, sx % sy, ?_, ?_, fun w => ?_⟩
      · exact u64_div' hu (Int.le_of_lt hv)
      · exact u64_mod' hu (Int.le_of_lt hv) hsy
      obtain ⟨hu0, hu1⟩ := hu
      have hq : (sy == 0) = false := by simpa using hsy
      have hdv : 0 ≤ sx / sy := Int.ediv_nonneg hu0 (Int.le_of_lt hv)
      have hmv : 0 ≤ sx % sy := Int.emod_nonneg _ hsy
      go_enter Try.func89, Try.ntmps89
      go_wp2_with fail
      refine (hzx _).mono ?_
      rintro e w1 ⟨rfl, rfl⟩
      go_wp2_with fail
      refine (hzy _).mono ?_
      rintro e w1 ⟨rfl, rfl⟩
      go_wp2_with fail
      refine (hzx _).mono ?_
      rintro e w1 ⟨rfl, rfl⟩
      go_wp2_with fail
      refine (hzy _).mono ?_
      rintro e w1 ⟨rfl, rfl⟩
      go_wp2_with fail
      refine (hnx _).mono ?_
      rintro e w1 ⟨rfl, rfl⟩
      go_wp2_with fail
      refine (hny _).mono ?_
      rintro e w1 ⟨rfl, rfl⟩
      go_wp2_with fail
      refine (hnx _).mono ?_
      rintro e w1 ⟨rfl, rfl⟩
      go_wp2_with fail
      go_ret2
      exact ⟨rfl, 0, rfl⟩
    · rw [hk] at hny
      have hc1 := fun w => rcutG_64 (IntKind.u64.wrap (-(sx / sy))) w
      have hc2 := fun w => rcutG_64 (IntKind.u64.wrap (-(sx % sy))) w
      clear hg hk
      refine ⟨IntKind.u64.wrap (-(sx / sy)), sx % sy, ?_, ?_, fun w => ?_⟩
      · exact u64_wrap _
      · exact u64_mod' hu (Int.le_of_lt hv) hsy
      obtain ⟨hu0, hu1⟩ := hu
      have hq : (sy == 0) = false := by simpa using hsy
      have hdv : 0 ≤ sx / sy := Int.ediv_nonneg hu0 (Int.le_of_lt hv)
      have hmv : 0 ≤ sx % sy := Int.emod_nonneg _ hsy
      go_enter Try.func89, Try.ntmps89
      go_wp2_with fail
      refine (hzx _).mono ?_
      rintro e w1 ⟨rfl, rfl⟩
      go_wp2_with fail
      refine (hzy _).mono ?_
      rintro e w1 ⟨rfl, rfl⟩
      go_wp2_with fail
      refine (hzx _).mono ?_
      rintro e w1 ⟨rfl, rfl⟩
      go_wp2_with fail
      refine (hzy _).mono ?_
      rintro e w1 ⟨rfl, rfl⟩
      go_wp2_with fail
      refine (hnx _).mono ?_
      rintro e w1 ⟨rfl, rfl⟩
      go_wp2_with fail
      refine (hny _).mono ?_
      rintro e w1 ⟨rfl, rfl⟩
      go_wp2_with fail
      refine (hc1 _).mono ?_
      rintro e w1 ⟨rfl, rfl⟩
      go_wp2_with fail
      refine (hnx _).mono ?_
      rintro e w1 ⟨rfl, rfl⟩
      go_wp2_with fail
      go_ret2
      exact ⟨rfl, 0, rfl⟩
  · rw [hg] at hnx
    cases hk : (y / 9223372036854775808 == 1)
    · rw [hk] at hny
      have hc1 := fun w => rcutG_64 (IntKind.u64.wrap (-(sx / sy))) w
      have hc2 := fun w => rcutG_64 (IntKind.u64.wrap (-(sx % sy))) w
      clear hg hk
      refine ⟨IntKind.u64.wrap (-(sx / sy)), IntKind.u64.wrap (-(sx % sy)), ?_, ?_, fun w => ?_⟩
      iterate 2
        · exact u64_wrap _
      obtain ⟨hu0, hu1⟩ := hu
      have hq : (sy == 0) = false := by simpa using hsy
      have hdv : 0 ≤ sx / sy := Int.ediv_nonneg hu0 (Int.le_of_lt hv)
      have hmv : 0 ≤ sx % sy := Int.emod_nonneg _ hsy
      go_enter Try.func89, Try.ntmps89
      go_wp2_with fail
      refine (hzx _).mono ?_
      rintro e w1 ⟨rfl, rfl⟩
      go_wp2_with fail
      refine (hzy _).mono ?_
      rintro e w1 ⟨rfl, rfl⟩
      go_wp2_with fail
      refine (hzx _).mono ?_
      rintro e w1 ⟨rfl, rfl⟩
      go_wp2_with fail
      refine (hzy _).mono ?_
      rintro e w1 ⟨rfl, rfl⟩
      go_wp2_with fail
      refine (hnx _).mono ?_
      rintro e w1 ⟨rfl, rfl⟩
      go_wp2_with fail
      refine (hny _).mono ?_
      rintro e w1 ⟨rfl, rfl⟩
      go_wp2_with fail
      refine (hc1 _).mono ?_
      rintro e w1 ⟨rfl, rfl⟩
      go_wp2_with fail
      refine (hnx _).mono ?_
      rintro e w1 ⟨rfl, rfl⟩
      go_wp2_with fail
      refine (hc2 _).mono ?_
      rintro e w1 ⟨rfl, rfl⟩
      go_wp2_with fail
      go_ret2
      exact ⟨rfl, 0, rfl⟩
    · rw [hk] at hny
      have hc1 := fun w => rcutG_64 (IntKind.u64.wrap (-(sx / sy))) w
      have hc2 := fun w => rcutG_64 (IntKind.u64.wrap (-(sx % sy))) w
      clear hg hk
      refine ⟨sx / sy, IntKind.u64.wrap (-(sx % sy)), ?_, ?_, fun w => ?_⟩
      · exact u64_div' hu (Int.le_of_lt hv)
      · exact u64_wrap _
      obtain ⟨hu0, hu1⟩ := hu
      have hq : (sy == 0) = false := by simpa using hsy
      have hdv : 0 ≤ sx / sy := Int.ediv_nonneg hu0 (Int.le_of_lt hv)
      have hmv : 0 ≤ sx % sy := Int.emod_nonneg _ hsy
      go_enter Try.func89, Try.ntmps89
      go_wp2_with fail
      refine (hzx _).mono ?_
      rintro e w1 ⟨rfl, rfl⟩
      go_wp2_with fail
      refine (hzy _).mono ?_
      rintro e w1 ⟨rfl, rfl⟩
      go_wp2_with fail
      refine (hzx _).mono ?_
      rintro e w1 ⟨rfl, rfl⟩
      go_wp2_with fail
      refine (hzy _).mono ?_
      rintro e w1 ⟨rfl, rfl⟩
      go_wp2_with fail
      refine (hnx _).mono ?_
      rintro e w1 ⟨rfl, rfl⟩
      go_wp2_with fail
      refine (hny _).mono ?_
      rintro e w1 ⟨rfl, rfl⟩
      go_wp2_with fail
      refine (hnx _).mono ?_
      rintro e w1 ⟨rfl, rfl⟩
      go_wp2_with fail
      refine (hc2 _).mono ?_
      rintro e w1 ⟨rfl, rfl⟩
      go_wp2_with fail
      go_ret2
      exact ⟨rfl, 0, rfl⟩
set_option maxHeartbeats 2000000 in
theorem rsize32 (x : Int) (hx : U64 x) (w : World) : Calls Try.prog 93 #[.int .u64 x, .int .i64 32] w fun e w' => e = .returned (.int .u64 (szN x)) ∧ w' = w := by
  have hn := fun w => rneg32 x hx w
  have hc := fun w => rcutG_32 (IntKind.u64.wrap (-x)) (u64_wrap _) w
  unfold szN
  cases hg : (x / 2147483648 == 1)
  · rw [hg] at hn
    rw [if_neg (by decide)]
    clear hg
    obtain ⟨x0, x1⟩ := hx
    go_enter Try.func93, Try.ntmps93
    go_wp2_with fail
    refine (hn _).mono ?_
    rintro e w1 ⟨rfl, rfl⟩
    go_wp2_with fail
    go_ret
    exact ⟨rfl, rfl⟩
  · rw [hg] at hn
    rw [if_pos rfl]
    clear hg
    obtain ⟨x0, x1⟩ := hx
    go_enter Try.func93, Try.ntmps93
    go_wp2_with fail
    refine (hn _).mono ?_
    rintro e w1 ⟨rfl, rfl⟩
    go_wp2_with fail
    refine (hc _).mono ?_
    rintro e w2 ⟨rfl, rfl⟩
    go_wp2_with fail
    go_ret
    exact ⟨rfl, rfl⟩
set_option maxHeartbeats 2000000 in
theorem rparts32s (x y : Int) (hx : 0 ≤ x ∧ x < 4294967296) (hy : 0 ≤ y ∧ y < 4294967296) : ∃ q r, U64 q ∧ U64 r ∧ ∀ w0, Calls Try.prog 89 #[.int .u64 x, .int .u64 y, .int .i64 32, .bool true] w0 fun e w' => e = .returned (.tuple #[.int .u64 q, .int .u64 r]) ∧ ∃ n, w' = w0.drewN n := by
  by_cases hy0 : y = 0
  · subst hy0
    refine ⟨0, x, u64_z, (⟨hx.1, by omega⟩ : U64 x), fun w => ?_⟩
    go_enter Try.func89, Try.ntmps89
    go_wp2_with fail
    go_ret2
    exact ⟨rfl, 0, rfl⟩
  have hq0 : (y == 0) = false := by simpa using hy0
  have hzx := fun w => rsize32 x (⟨hx.1, by omega⟩ : U64 x) w
  have hzy := fun w => rsize32 y (⟨hy.1, by omega⟩ : U64 y) w
  have hnx := fun w => rneg32 x (⟨hx.1, by omega⟩ : U64 x) w
  have hny := fun w => rneg32 y (⟨hy.1, by omega⟩ : U64 y) w
  have hu := szN_u64 (⟨hx.1, by omega⟩ : U64 x)
  have hsy := szN_ne hy hy0
  have hv : 0 < szN y := by have := (szN_u64 (⟨hy.1, by omega⟩ : U64 y)).1; omega
  generalize szN x = sx at *
  generalize szN y = sy at *
  have x0 := hx.1
  have y0 := hy.1
  have x1 : x ≤ 18446744073709551615 := (⟨hx.1, by omega⟩ : U64 x).2
  have y1 : y ≤ 18446744073709551615 := (⟨hy.1, by omega⟩ : U64 y).2
  clear hx hy
  cases hg : (x / 2147483648 == 1)
  · rw [hg] at hnx
    cases hk : (y / 2147483648 == 1)
    · rw [hk] at hny
      have hc1 := fun w => rcutG_32 (IntKind.u64.wrap (-(sx / sy))) (u64_wrap _) w
      have hc2 := fun w => rcutG_32 (IntKind.u64.wrap (-(sx % sy))) (u64_wrap _) w
      clear hg hk
      refine ⟨sx / sy, sx % sy, ?_, ?_, fun w => ?_⟩
      · exact u64_div' hu (Int.le_of_lt hv)
      · exact u64_mod' hu (Int.le_of_lt hv) hsy
      obtain ⟨hu0, hu1⟩ := hu
      have hq : (sy == 0) = false := by simpa using hsy
      have hdv : 0 ≤ sx / sy := Int.ediv_nonneg hu0 (Int.le_of_lt hv)
      have hmv : 0 ≤ sx % sy := Int.emod_nonneg _ hsy
      go_enter Try.func89, Try.ntmps89
      go_wp2_with fail
      refine (hzx _).mono ?_
      rintro e w1 ⟨rfl, rfl⟩
      go_wp2_with fail
      refine (hzy _).mono ?_
      rintro e w1 ⟨rfl, rfl⟩
      go_wp2_with fail
      refine (hzx _).mono ?_
      rintro e w1 ⟨rfl, rfl⟩
      go_wp2_with fail
      refine (hzy _).mono ?_
      rintro e w1 ⟨rfl, rfl⟩
      go_wp2_with fail
      refine (hnx _).mono ?_
      rintro e w1 ⟨rfl, rfl⟩
      go_wp2_with fail
      refine (hny _).mono ?_
      rintro e w1 ⟨rfl, rfl⟩
      go_wp2_with fail
      refine (hnx _).mono ?_
      rintro e w1 ⟨rfl, rfl⟩
      go_wp2_with fail
      go_ret2
      exact ⟨rfl, 0, rfl⟩
    · rw [hk] at hny
      have hc1 := fun w => rcutG_32 (IntKind.u64.wrap (-(sx / sy))) (u64_wrap _) w
      have hc2 := fun w => rcutG_32 (IntKind.u64.wrap (-(sx % sy))) (u64_wrap _) w
      clear hg hk
      refine ⟨IntKind.u64.wrap (-(sx / sy)) % 4294967296, sx % sy, ?_, ?_, fun w => ?_⟩
      · exact u64_mod32
      · exact u64_mod' hu (Int.le_of_lt hv) hsy
      obtain ⟨hu0, hu1⟩ := hu
      have hq : (sy == 0) = false := by simpa using hsy
      have hdv : 0 ≤ sx / sy := Int.ediv_nonneg hu0 (Int.le_of_lt hv)
      have hmv : 0 ≤ sx % sy := Int.emod_nonneg _ hsy
      go_enter Try.func89, Try.ntmps89
      go_wp2_with fail
      refine (hzx _).mono ?_
      rintro e w1 ⟨rfl, rfl⟩
      go_wp2_with fail
      refine (hzy _).mono ?_
      rintro e w1 ⟨rfl, rfl⟩
      go_wp2_with fail
      refine (hzx _).mono ?_
      rintro e w1 ⟨rfl, rfl⟩
      go_wp2_with fail
      refine (hzy _).mono ?_
      rintro e w1 ⟨rfl, rfl⟩
      go_wp2_with fail
      refine (hnx _).mono ?_
      rintro e w1 ⟨rfl, rfl⟩
      go_wp2_with fail
      refine (hny _).mono ?_
      rintro e w1 ⟨rfl, rfl⟩
      go_wp2_with fail
      refine (hc1 _).mono ?_
      rintro e w1 ⟨rfl, rfl⟩
      go_wp2_with fail
      refine (hnx _).mono ?_
      rintro e w1 ⟨rfl, rfl⟩
      go_wp2_with fail
      go_ret2
      exact ⟨rfl, 0, rfl⟩
  · rw [hg] at hnx
    cases hk : (y / 2147483648 == 1)
    · rw [hk] at hny
      have hc1 := fun w => rcutG_32 (IntKind.u64.wrap (-(sx / sy))) (u64_wrap _) w
      have hc2 := fun w => rcutG_32 (IntKind.u64.wrap (-(sx % sy))) (u64_wrap _) w
      clear hg hk
      refine ⟨IntKind.u64.wrap (-(sx / sy)) % 4294967296, IntKind.u64.wrap (-(sx % sy)) % 4294967296, ?_, ?_, fun w => ?_⟩
      iterate 2
        · exact u64_mod32
      obtain ⟨hu0, hu1⟩ := hu
      have hq : (sy == 0) = false := by simpa using hsy
      have hdv : 0 ≤ sx / sy := Int.ediv_nonneg hu0 (Int.le_of_lt hv)
      have hmv : 0 ≤ sx % sy := Int.emod_nonneg _ hsy
      go_enter Try.func89, Try.ntmps89
      go_wp2_with fail
      refine (hzx _).mono ?_
      rintro e w1 ⟨rfl, rfl⟩
      go_wp2_with fail
      refine (hzy _).mono ?_
      rintro e w1 ⟨rfl, rfl⟩
      go_wp2_with fail
      refine (hzx _).mono ?_
      rintro e w1 ⟨rfl, rfl⟩
      go_wp2_with fail
      refine (hzy _).mono ?_
      rintro e w1 ⟨rfl, rfl⟩
      go_wp2_with fail
      refine (hnx _).mono ?_
      rintro e w1 ⟨rfl, rfl⟩
      go_wp2_with fail
      refine (hny _).mono ?_
      rintro e w1 ⟨rfl, rfl⟩
      go_wp2_with fail
      refine (hc1 _).mono ?_
      rintro e w1 ⟨rfl, rfl⟩
      go_wp2_with fail
      refine (hnx _).mono ?_
      rintro e w1 ⟨rfl, rfl⟩
      go_wp2_with fail
      refine (hc2 _).mono ?_
      rintro e w1 ⟨rfl, rfl⟩
      go_wp2_with fail
      go_ret2
      exact ⟨rfl, 0, rfl⟩
    · rw [hk] at hny
      have hc1 := fun w => rcutG_32 (IntKind.u64.wrap (-(sx / sy))) (u64_wrap _) w
      have hc2 := fun w => rcutG_32 (IntKind.u64.wrap (-(sx % sy))) (u64_wrap _) w
      clear hg hk
      refine ⟨sx / sy, IntKind.u64.wrap (-(sx % sy)) % 4294967296, ?_, ?_, fun w => ?_⟩
      · exact u64_div' hu (Int.le_of_lt hv)
      · exact u64_mod32
      obtain ⟨hu0, hu1⟩ := hu
      have hq : (sy == 0) = false := by simpa using hsy
      have hdv : 0 ≤ sx / sy := Int.ediv_nonneg hu0 (Int.le_of_lt hv)
      have hmv : 0 ≤ sx % sy := Int.emod_nonneg _ hsy
      go_enter Try.func89, Try.ntmps89
      go_wp2_with fail
      refine (hzx _).mono ?_
      rintro e w1 ⟨rfl, rfl⟩
      go_wp2_with fail
      refine (hzy _).mono ?_
      rintro e w1 ⟨rfl, rfl⟩
      go_wp2_with fail
      refine (hzx _).mono ?_
      rintro e w1 ⟨rfl, rfl⟩
      go_wp2_with fail
      refine (hzy _).mono ?_
      rintro e w1 ⟨rfl, rfl⟩
      go_wp2_with fail
      refine (hnx _).mono ?_
      rintro e w1 ⟨rfl, rfl⟩
      go_wp2_with fail
      refine (hny _).mono ?_
      rintro e w1 ⟨rfl, rfl⟩
      go_wp2_with fail
      refine (hnx _).mono ?_
      rintro e w1 ⟨rfl, rfl⟩
      go_wp2_with fail
      refine (hc2 _).mono ?_
      rintro e w1 ⟨rfl, rfl⟩
      go_wp2_with fail
      go_ret2
      exact ⟨rfl, 0, rfl⟩
end
end Go.Proofs.Ytncogaikiceidaa
