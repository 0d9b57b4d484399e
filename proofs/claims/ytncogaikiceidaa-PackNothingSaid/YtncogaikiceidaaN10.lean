/- Layer 3, Is. No statement is proved here. -/
import Derived.Test.YtncogaikiceidaaN8
namespace Go.Proofs.Ytncogaikiceidaa
set_option maxRecDepth 100000
open Go.RowKit
set_option linter.unusedSimpArgs false
set_option linter.unusedVariables false
set_option linter.unnecessarySimpa false
section
theorem ris_64_0 (a b : Int) (ha : U64 a) (hb : U64 b) : ∃ r, IsOk 0 true a b r := by
  have hs := fun w => rsignG_64 a ha w
  have ht := fun w => rsignG_64 b hb w
  generalize signG a 64 = s at *
  generalize signG b 64 = t at *
  refine ⟨(true), 0, fun w => ?_⟩
  obtain ⟨a0, a1⟩ := ha
  obtain ⟨b0, b1⟩ := hb
  go_enter Try.func70, Try.ntmps70
  go_wp2_with fail
  refine (hs _).mono ?_
  rintro e w1 ⟨rfl, rfl⟩
  go_wp2_with fail
  refine (ht _).mono ?_
  rintro e w2 ⟨rfl, rfl⟩
  go_wp2_with fail
  go_ret2
  exact ⟨rfl, rfl⟩
theorem ris_64_16 (a b : Int) (ha : U64 a) (hb : U64 b) : ∃ r, IsOk 16 true a b r := by
  have hs := fun w => rsignG_64 a ha w
  have ht := fun w => rsignG_64 b hb w
  generalize signG a 64 = s at *
  generalize signG b 64 = t at *
  refine ⟨(a == b), 0, fun w => ?_⟩
  obtain ⟨a0, a1⟩ := ha
  obtain ⟨b0, b1⟩ := hb
  go_enter Try.func70, Try.ntmps70
  go_wp2_with fail
  refine (hs _).mono ?_
  rintro e w1 ⟨rfl, rfl⟩
  go_wp2_with fail
  refine (ht _).mono ?_
  rintro e w2 ⟨rfl, rfl⟩
  go_wp2_with fail
  go_ret2
  exact ⟨rfl, rfl⟩
theorem ris_64_80 (a b : Int) (ha : U64 a) (hb : U64 b) : ∃ r, IsOk 80 true a b r := by
  have hs := fun w => rsignG_64 a ha w
  have ht := fun w => rsignG_64 b hb w
  generalize signG a 64 = s at *
  generalize signG b 64 = t at *
  refine ⟨(a != b), 0, fun w => ?_⟩
  obtain ⟨a0, a1⟩ := ha
  obtain ⟨b0, b1⟩ := hb
  go_enter Try.func70, Try.ntmps70
  go_wp2_with fail
  refine (hs _).mono ?_
  rintro e w1 ⟨rfl, rfl⟩
  go_wp2_with fail
  refine (ht _).mono ?_
  rintro e w2 ⟨rfl, rfl⟩
  go_wp2_with fail
  go_ret2
  exact ⟨rfl, rfl⟩
theorem ris_64_32 (a b : Int) (ha : U64 a) (hb : U64 b) : ∃ r, IsOk 32 true a b r := by
  have hs := fun w => rsignG_64 a ha w
  have ht := fun w => rsignG_64 b hb w
  generalize signG a 64 = s at *
  generalize signG b 64 = t at *
  refine ⟨(decide (b < a)), 0, fun w => ?_⟩
  obtain ⟨a0, a1⟩ := ha
  obtain ⟨b0, b1⟩ := hb
  go_enter Try.func70, Try.ntmps70
  go_wp2_with fail
  refine (hs _).mono ?_
  rintro e w1 ⟨rfl, rfl⟩
  go_wp2_with fail
  refine (ht _).mono ?_
  rintro e w2 ⟨rfl, rfl⟩
  go_wp2_with fail
  go_ret2
  exact ⟨rfl, rfl⟩
theorem ris_64_48 (a b : Int) (ha : U64 a) (hb : U64 b) : ∃ r, IsOk 48 true a b r := by
  have hs := fun w => rsignG_64 a ha w
  have ht := fun w => rsignG_64 b hb w
  generalize signG a 64 = s at *
  generalize signG b 64 = t at *
  refine ⟨(decide (b ≤ a)), 0, fun w => ?_⟩
  obtain ⟨a0, a1⟩ := ha
  obtain ⟨b0, b1⟩ := hb
  go_enter Try.func70, Try.ntmps70
  go_wp2_with fail
  refine (hs _).mono ?_
  rintro e w1 ⟨rfl, rfl⟩
  go_wp2_with fail
  refine (ht _).mono ?_
  rintro e w2 ⟨rfl, rfl⟩
  go_wp2_with fail
  go_ret2
  exact ⟨rfl, rfl⟩
theorem ris_64_160 (a b : Int) (ha : U64 a) (hb : U64 b) : ∃ r, IsOk 160 true a b r := by
  have hs := fun w => rsignG_64 a ha w
  have ht := fun w => rsignG_64 b hb w
  generalize signG a 64 = s at *
  generalize signG b 64 = t at *
  refine ⟨(decide (a < b)), 0, fun w => ?_⟩
  obtain ⟨a0, a1⟩ := ha
  obtain ⟨b0, b1⟩ := hb
  go_enter Try.func70, Try.ntmps70
  go_wp2_with fail
  refine (hs _).mono ?_
  rintro e w1 ⟨rfl, rfl⟩
  go_wp2_with fail
  refine (ht _).mono ?_
  rintro e w2 ⟨rfl, rfl⟩
  go_wp2_with fail
  go_ret2
  exact ⟨rfl, rfl⟩
theorem ris_64_176 (a b : Int) (ha : U64 a) (hb : U64 b) : ∃ r, IsOk 176 true a b r := by
  have hs := fun w => rsignG_64 a ha w
  have ht := fun w => rsignG_64 b hb w
  generalize signG a 64 = s at *
  generalize signG b 64 = t at *
  refine ⟨(decide (a ≤ b)), 0, fun w => ?_⟩
  obtain ⟨a0, a1⟩ := ha
  obtain ⟨b0, b1⟩ := hb
  go_enter Try.func70, Try.ntmps70
  go_wp2_with fail
  refine (hs _).mono ?_
  rintro e w1 ⟨rfl, rfl⟩
  go_wp2_with fail
  refine (ht _).mono ?_
  rintro e w2 ⟨rfl, rfl⟩
  go_wp2_with fail
  go_ret2
  exact ⟨rfl, rfl⟩
theorem ris_64_96 (a b : Int) (ha : U64 a) (hb : U64 b) : ∃ r, IsOk 96 true a b r := by
  have hs := fun w => rsignG_64 a ha w
  have ht := fun w => rsignG_64 b hb w
  generalize signG a 64 = s at *
  generalize signG b 64 = t at *
  refine ⟨(decide (IntKind.u64.wrap (t + 9223372036854775808) < IntKind.u64.wrap (s + 9223372036854775808))), 0, fun w => ?_⟩
  obtain ⟨a0, a1⟩ := ha
  obtain ⟨b0, b1⟩ := hb
  go_enter Try.func70, Try.ntmps70
  go_wp2_with fail
  refine (hs _).mono ?_
  rintro e w1 ⟨rfl, rfl⟩
  go_wp2_with fail
  refine (ht _).mono ?_
  rintro e w2 ⟨rfl, rfl⟩
  go_wp2_with fail
  go_ret2
  exact ⟨rfl, rfl⟩
theorem ris_64_112 (a b : Int) (ha : U64 a) (hb : U64 b) : ∃ r, IsOk 112 true a b r := by
  have hs := fun w => rsignG_64 a ha w
  have ht := fun w => rsignG_64 b hb w
  generalize signG a 64 = s at *
  generalize signG b 64 = t at *
  refine ⟨(decide (IntKind.u64.wrap (t + 9223372036854775808) ≤ IntKind.u64.wrap (s + 9223372036854775808))), 0, fun w => ?_⟩
  obtain ⟨a0, a1⟩ := ha
  obtain ⟨b0, b1⟩ := hb
  go_enter Try.func70, Try.ntmps70
  go_wp2_with fail
  refine (hs _).mono ?_
  rintro e w1 ⟨rfl, rfl⟩
  go_wp2_with fail
  refine (ht _).mono ?_
  rintro e w2 ⟨rfl, rfl⟩
  go_wp2_with fail
  go_ret2
  exact ⟨rfl, rfl⟩
theorem ris_64_192 (a b : Int) (ha : U64 a) (hb : U64 b) : ∃ r, IsOk 192 true a b r := by
  have hs := fun w => rsignG_64 a ha w
  have ht := fun w => rsignG_64 b hb w
  generalize signG a 64 = s at *
  generalize signG b 64 = t at *
  refine ⟨(decide (IntKind.u64.wrap (s + 9223372036854775808) < IntKind.u64.wrap (t + 9223372036854775808))), 0, fun w => ?_⟩
  obtain ⟨a0, a1⟩ := ha
  obtain ⟨b0, b1⟩ := hb
  go_enter Try.func70, Try.ntmps70
  go_wp2_with fail
  refine (hs _).mono ?_
  rintro e w1 ⟨rfl, rfl⟩
  go_wp2_with fail
  refine (ht _).mono ?_
  rintro e w2 ⟨rfl, rfl⟩
  go_wp2_with fail
  go_ret2
  exact ⟨rfl, rfl⟩
theorem ris_64_208 (a b : Int) (ha : U64 a) (hb : U64 b) : ∃ r, IsOk 208 true a b r := by
  have hs := fun w => rsignG_64 a ha w
  have ht := fun w => rsignG_64 b hb w
  generalize signG a 64 = s at *
  generalize signG b 64 = t at *
  refine ⟨(decide (IntKind.u64.wrap (s + 9223372036854775808) ≤ IntKind.u64.wrap (t + 9223372036854775808))), 0, fun w => ?_⟩
  obtain ⟨a0, a1⟩ := ha
  obtain ⟨b0, b1⟩ := hb
  go_enter Try.func70, Try.ntmps70
  go_wp2_with fail
  refine (hs _).mono ?_
  rintro e w1 ⟨rfl, rfl⟩
  go_wp2_with fail
  refine (ht _).mono ?_
  rintro e w2 ⟨rfl, rfl⟩
  go_wp2_with fail
  go_ret2
  exact ⟨rfl, rfl⟩
theorem ris_64_64 (a b : Int) (ha : U64 a) (hb : U64 b) : ∃ r, IsOk 64 true a b r := by
  have hs := fun w => rsignG_64 a ha w
  have ht := fun w => rsignG_64 b hb w
  generalize signG a 64 = s at *
  generalize signG b 64 = t at *
  refine ⟨(bits .and .u64 a b != 0), 0, fun w => ?_⟩
  obtain ⟨a0, a1⟩ := ha
  obtain ⟨b0, b1⟩ := hb
  go_enter Try.func70, Try.ntmps70
  go_wp2_with fail
  refine (hs _).mono ?_
  rintro e w1 ⟨rfl, rfl⟩
  go_wp2_with fail
  refine (ht _).mono ?_
  rintro e w2 ⟨rfl, rfl⟩
  go_wp2_with fail
  go_ret2
  exact ⟨rfl, rfl⟩
theorem ris_64_u (a b : Int) (ha : U64 a) (hb : U64 b) (op : Int) (h0 : ¬ op = 0) (h16 : ¬ op = 16) (h80 : ¬ op = 80) (h32 : ¬ op = 32) (h48 : ¬ op = 48) (h160 : ¬ op = 160) (h176 : ¬ op = 176) (h96 : ¬ op = 96) (h112 : ¬ op = 112) (h192 : ¬ op = 192) (h208 : ¬ op = 208) (h64 : ¬ op = 64) : ∃ r, IsOk op true a b r := by
  have hs := fun w => rsignG_64 a ha w
  have ht := fun w => rsignG_64 b hb w
  generalize signG a 64 = s at *
  generalize signG b 64 = t at *
  refine ⟨(false), 1, fun w => ?_⟩
  obtain ⟨a0, a1⟩ := ha
  obtain ⟨b0, b1⟩ := hb
  go_enter Try.func70, Try.ntmps70
  go_wp2_with fail
  refine (hs _).mono ?_
  rintro e w1 ⟨rfl, rfl⟩
  go_wp2_with fail
  refine (ht _).mono ?_
  rintro e w2 ⟨rfl, rfl⟩
  go_wp2_with fail
  go_ret2
  exact ⟨rfl, rfl⟩
theorem ris_all64 (op a b : Int) (ha : U64 a) (hb : U64 b) : ∃ r, IsOk op true a b r := by
  by_cases k0 : op = 0
  · subst k0; exact ris_64_0 a b ha hb
  by_cases k16 : op = 16
  · subst k16; exact ris_64_16 a b ha hb
  by_cases k80 : op = 80
  · subst k80; exact ris_64_80 a b ha hb
  by_cases k32 : op = 32
  · subst k32; exact ris_64_32 a b ha hb
  by_cases k48 : op = 48
  · subst k48; exact ris_64_48 a b ha hb
  by_cases k160 : op = 160
  · subst k160; exact ris_64_160 a b ha hb
  by_cases k176 : op = 176
  · subst k176; exact ris_64_176 a b ha hb
  by_cases k96 : op = 96
  · subst k96; exact ris_64_96 a b ha hb
  by_cases k112 : op = 112
  · subst k112; exact ris_64_112 a b ha hb
  by_cases k192 : op = 192
  · subst k192; exact ris_64_192 a b ha hb
  by_cases k208 : op = 208
  · subst k208; exact ris_64_208 a b ha hb
  by_cases k64 : op = 64
  · subst k64; exact ris_64_64 a b ha hb
  exact ris_64_u a b ha hb op k0 k16 k80 k32 k48 k160 k176 k96 k112 k192 k208 k64
theorem ris_32_0 (a b : Int) (ha : U64 a) (hb : U64 b) : ∃ r, IsOk 0 false a b r := by
  have hs := fun w => rsignG_32 (a % 4294967296) u64_mod32 w
  have ht := fun w => rsignG_32 (b % 4294967296) u64_mod32 w
  generalize signG (a % 4294967296) 32 = s at *
  generalize signG (b % 4294967296) 32 = t at *
  refine ⟨(true), 0, fun w => ?_⟩
  obtain ⟨a0, a1⟩ := ha
  obtain ⟨b0, b1⟩ := hb
  go_enter Try.func70, Try.ntmps70
  go_wp2_with fail
  refine (hs _).mono ?_
  rintro e w1 ⟨rfl, rfl⟩
  go_wp2_with fail
  refine (ht _).mono ?_
  rintro e w2 ⟨rfl, rfl⟩
  go_wp2_with fail
  go_ret2
  exact ⟨rfl, rfl⟩
theorem ris_32_16 (a b : Int) (ha : U64 a) (hb : U64 b) : ∃ r, IsOk 16 false a b r := by
  have hs := fun w => rsignG_32 (a % 4294967296) u64_mod32 w
  have ht := fun w => rsignG_32 (b % 4294967296) u64_mod32 w
  generalize signG (a % 4294967296) 32 = s at *
  generalize signG (b % 4294967296) 32 = t at *
  refine ⟨((a % 4294967296) == (b % 4294967296)), 0, fun w => ?_⟩
  obtain ⟨a0, a1⟩ := ha
  obtain ⟨b0, b1⟩ := hb
  go_enter Try.func70, Try.ntmps70
  go_wp2_with fail
  refine (hs _).mono ?_
  rintro e w1 ⟨rfl, rfl⟩
  go_wp2_with fail
  refine (ht _).mono ?_
  rintro e w2 ⟨rfl, rfl⟩
  go_wp2_with fail
  go_ret2
  exact ⟨rfl, rfl⟩
theorem ris_32_80 (a b : Int) (ha : U64 a) (hb : U64 b) : ∃ r, IsOk 80 false a b r := by
  have hs := fun w => rsignG_32 (a % 4294967296) u64_mod32 w
  have ht := fun w => rsignG_32 (b % 4294967296) u64_mod32 w
  generalize signG (a % 4294967296) 32 = s at *
  generalize signG (b % 4294967296) 32 = t at *
  refine ⟨((a % 4294967296) != (b % 4294967296)), 0, fun w => ?_⟩
  obtain ⟨a0, a1⟩ := ha
  obtain ⟨b0, b1⟩ := hb
  go_enter Try.func70, Try.ntmps70
  go_wp2_with fail
  refine (hs _).mono ?_
  rintro e w1 ⟨rfl, rfl⟩
  go_wp2_with fail
  refine (ht _).mono ?_
  rintro e w2 ⟨rfl, rfl⟩
  go_wp2_with fail
  go_ret2
  exact ⟨rfl, rfl⟩
theorem ris_32_32 (a b : Int) (ha : U64 a) (hb : U64 b) : ∃ r, IsOk 32 false a b r := by
  have hs := fun w => rsignG_32 (a % 4294967296) u64_mod32 w
  have ht := fun w => rsignG_32 (b % 4294967296) u64_mod32 w
  generalize signG (a % 4294967296) 32 = s at *
  generalize signG (b % 4294967296) 32 = t at *
  refine ⟨(decide ((b % 4294967296) < (a % 4294967296))), 0, fun w => ?_⟩
  obtain ⟨a0, a1⟩ := ha
  obtain ⟨b0, b1⟩ := hb
  go_enter Try.func70, Try.ntmps70
  go_wp2_with fail
  refine (hs _).mono ?_
  rintro e w1 ⟨rfl, rfl⟩
  go_wp2_with fail
  refine (ht _).mono ?_
  rintro e w2 ⟨rfl, rfl⟩
  go_wp2_with fail
  go_ret2
  exact ⟨rfl, rfl⟩
theorem ris_32_48 (a b : Int) (ha : U64 a) (hb : U64 b) : ∃ r, IsOk 48 false a b r := by
  have hs := fun w => rsignG_32 (a % 4294967296) u64_mod32 w
  have ht := fun w => rsignG_32 (b % 4294967296) u64_mod32 w
  generalize signG (a % 4294967296) 32 = s at *
  generalize signG (b % 4294967296) 32 = t at *
  refine ⟨(decide ((b % 4294967296) ≤ (a % 4294967296))), 0, fun w => ?_⟩
  obtain ⟨a0, a1⟩ := ha
  obtain ⟨b0, b1⟩ := hb
  go_enter Try.func70, Try.ntmps70
  go_wp2_with fail
  refine (hs _).mono ?_
  rintro e w1 ⟨rfl, rfl⟩
  go_wp2_with fail
  refine (ht _).mono ?_
  rintro e w2 ⟨rfl, rfl⟩
  go_wp2_with fail
  go_ret2
  exact ⟨rfl, rfl⟩
theorem ris_32_160 (a b : Int) (ha : U64 a) (hb : U64 b) : ∃ r, IsOk 160 false a b r := by
  have hs := fun w => rsignG_32 (a % 4294967296) u64_mod32 w
  have ht := fun w => rsignG_32 (b % 4294967296) u64_mod32 w
  generalize signG (a % 4294967296) 32 = s at *
  generalize signG (b % 4294967296) 32 = t at *
  refine ⟨(decide ((a % 4294967296) < (b % 4294967296))), 0, fun w => ?_⟩
  obtain ⟨a0, a1⟩ := ha
  obtain ⟨b0, b1⟩ := hb
  go_enter Try.func70, Try.ntmps70
  go_wp2_with fail
  refine (hs _).mono ?_
  rintro e w1 ⟨rfl, rfl⟩
  go_wp2_with fail
  refine (ht _).mono ?_
  rintro e w2 ⟨rfl, rfl⟩
  go_wp2_with fail
  go_ret2
  exact ⟨rfl, rfl⟩
theorem ris_32_176 (a b : Int) (ha : U64 a) (hb : U64 b) : ∃ r, IsOk 176 false a b r := by
  have hs := fun w => rsignG_32 (a % 4294967296) u64_mod32 w
  have ht := fun w => rsignG_32 (b % 4294967296) u64_mod32 w
  generalize signG (a % 4294967296) 32 = s at *
  generalize signG (b % 4294967296) 32 = t at *
  refine ⟨(decide ((a % 4294967296) ≤ (b % 4294967296))), 0, fun w => ?_⟩
  obtain ⟨a0, a1⟩ := ha
  obtain ⟨b0, b1⟩ := hb
  go_enter Try.func70, Try.ntmps70
  go_wp2_with fail
  refine (hs _).mono ?_
  rintro e w1 ⟨rfl, rfl⟩
  go_wp2_with fail
  refine (ht _).mono ?_
  rintro e w2 ⟨rfl, rfl⟩
  go_wp2_with fail
  go_ret2
  exact ⟨rfl, rfl⟩
theorem ris_32_96 (a b : Int) (ha : U64 a) (hb : U64 b) : ∃ r, IsOk 96 false a b r := by
  have hs := fun w => rsignG_32 (a % 4294967296) u64_mod32 w
  have ht := fun w => rsignG_32 (b % 4294967296) u64_mod32 w
  generalize signG (a % 4294967296) 32 = s at *
  generalize signG (b % 4294967296) 32 = t at *
  refine ⟨(decide (IntKind.u64.wrap (t + 9223372036854775808) < IntKind.u64.wrap (s + 9223372036854775808))), 0, fun w => ?_⟩
  obtain ⟨a0, a1⟩ := ha
  obtain ⟨b0, b1⟩ := hb
  go_enter Try.func70, Try.ntmps70
  go_wp2_with fail
  refine (hs _).mono ?_
  rintro e w1 ⟨rfl, rfl⟩
  go_wp2_with fail
  refine (ht _).mono ?_
  rintro e w2 ⟨rfl, rfl⟩
  go_wp2_with fail
  go_ret2
  exact ⟨rfl, rfl⟩
theorem ris_32_112 (a b : Int) (ha : U64 a) (hb : U64 b) : ∃ r, IsOk 112 false a b r := by
  have hs := fun w => rsignG_32 (a % 4294967296) u64_mod32 w
  have ht := fun w => rsignG_32 (b % 4294967296) u64_mod32 w
  generalize signG (a % 4294967296) 32 = s at *
  generalize signG (b % 4294967296) 32 = t at *
  refine ⟨(decide (IntKind.u64.wrap (t + 9223372036854775808) ≤ IntKind.u64.wrap (s + 9223372036854775808))), 0, fun w => ?_⟩
  obtain ⟨a0, a1⟩ := ha
  obtain ⟨b0, b1⟩ := hb
  go_enter Try.func70, Try.ntmps70
  go_wp2_with fail
  refine (hs _).mono ?_
  rintro e w1 ⟨rfl, rfl⟩
  go_wp2_with fail
  refine (ht _).mono ?_
  rintro e w2 ⟨rfl, rfl⟩
  go_wp2_with fail
  go_ret2
  exact ⟨rfl, rfl⟩
theorem ris_32_192 (a b : Int) (ha : U64 a) (hb : U64 b) : ∃ r, IsOk 192 false a b r := by
  have hs := fun w => rsignG_32 (a % 4294967296) u64_mod32 w
  have ht := fun w => rsignG_32 (b % 4294967296) u64_mod32 w
  generalize signG (a % 4294967296) 32 = s at *
  generalize signG (b % 4294967296) 32 = t at *
  refine ⟨(decide (IntKind.u64.wrap (s + 9223372036854775808) < IntKind.u64.wrap (t + 9223372036854775808))), 0, fun w => ?_⟩
  obtain ⟨a0, a1⟩ := ha
  obtain ⟨b0, b1⟩ := hb
  go_enter Try.func70, Try.ntmps70
  go_wp2_with fail
  refine (hs _).mono ?_
  rintro e w1 ⟨rfl, rfl⟩
  go_wp2_with fail
  refine (ht _).mono ?_
  rintro e w2 ⟨rfl, rfl⟩
  go_wp2_with fail
  go_ret2
  exact ⟨rfl, rfl⟩
theorem ris_32_208 (a b : Int) (ha : U64 a) (hb : U64 b) : ∃ r, IsOk 208 false a b r := by
  have hs := fun w => rsignG_32 (a % 4294967296) u64_mod32 w
  have ht := fun w => rsignG_32 (b % 4294967296) u64_mod32 w
  generalize signG (a % 4294967296) 32 = s at *
  generalize signG (b % 4294967296) 32 = t at *
  refine ⟨(decide (IntKind.u64.wrap (s + 9223372036854775808) ≤ IntKind.u64.wrap (t + 9223372036854775808))), 0, fun w => ?_⟩
  obtain ⟨a0, a1⟩ := ha
  obtain ⟨b0, b1⟩ := hb
  go_enter Try.func70, Try.ntmps70
  go_wp2_with fail
  refine (hs _).mono ?_
  rintro e w1 ⟨rfl, rfl⟩
  go_wp2_with fail
  refine (ht _).mono ?_
  rintro e w2 ⟨rfl, rfl⟩
  go_wp2_with fail
  go_ret2
  exact ⟨rfl, rfl⟩
theorem ris_32_64 (a b : Int) (ha : U64 a) (hb : U64 b) : ∃ r, IsOk 64 false a b r := by
  have hs := fun w => rsignG_32 (a % 4294967296) u64_mod32 w
  have ht := fun w => rsignG_32 (b % 4294967296) u64_mod32 w
  generalize signG (a % 4294967296) 32 = s at *
  generalize signG (b % 4294967296) 32 = t at *
  refine ⟨(bits .and .u64 (a % 4294967296) (b % 4294967296) != 0), 0, fun w => ?_⟩
  obtain ⟨a0, a1⟩ := ha
  obtain ⟨b0, b1⟩ := hb
  go_enter Try.func70, Try.ntmps70
  go_wp2_with fail
  refine (hs _).mono ?_
  rintro e w1 ⟨rfl, rfl⟩
  go_wp2_with fail
  refine (ht _).mono ?_
  rintro e w2 ⟨rfl, rfl⟩
  go_wp2_with fail
  go_ret2
  exact ⟨rfl, rfl⟩
theorem ris_32_u (a b : Int) (ha : U64 a) (hb : U64 b) (op : Int) (h0 : ¬ op = 0) (h16 : ¬ op = 16) (h80 : ¬ op = 80) (h32 : ¬ op = 32) (h48 : ¬ op = 48) (h160 : ¬ op = 160) (h176 : ¬ op = 176) (h96 : ¬ op = 96) (h112 : ¬ op = 112) (h192 : ¬ op = 192) (h208 : ¬ op = 208) (h64 : ¬ op = 64) : ∃ r, IsOk op false a b r := by
  have hs := fun w => rsignG_32 (a % 4294967296) u64_mod32 w
  have ht := fun w => rsignG_32 (b % 4294967296) u64_mod32 w
  generalize signG (a % 4294967296) 32 = s at *
  generalize signG (b % 4294967296) 32 = t at *
  refine ⟨(false), 1, fun w => ?_⟩
  obtain ⟨a0, a1⟩ := ha
  obtain ⟨b0, b1⟩ := hb
  go_enter Try.func70, Try.ntmps70
  go_wp2_with fail
  refine (hs _).mono ?_
  rintro e w1 ⟨rfl, rfl⟩
  go_wp2_with fail
  refine (ht _).mono ?_
  rintro e w2 ⟨rfl, rfl⟩
  go_wp2_with fail
  go_ret2
  exact ⟨rfl, rfl⟩
theorem ris_all32 (op a b : Int) (ha : U64 a) (hb : U64 b) : ∃ r, IsOk op false a b r := by
  by_cases k0 : op = 0
  · subst k0; exact ris_32_0 a b ha hb
  by_cases k16 : op = 16
  · subst k16; exact ris_32_16 a b ha hb
  by_cases k80 : op = 80
  · subst k80; exact ris_32_80 a b ha hb
  by_cases k32 : op = 32
  · subst k32; exact ris_32_32 a b ha hb
  by_cases k48 : op = 48
  · subst k48; exact ris_32_48 a b ha hb
  by_cases k160 : op = 160
  · subst k160; exact ris_32_160 a b ha hb
  by_cases k176 : op = 176
  · subst k176; exact ris_32_176 a b ha hb
  by_cases k96 : op = 96
  · subst k96; exact ris_32_96 a b ha hb
  by_cases k112 : op = 112
  · subst k112; exact ris_32_112 a b ha hb
  by_cases k192 : op = 192
  · subst k192; exact ris_32_192 a b ha hb
  by_cases k208 : op = 208
  · subst k208; exact ris_32_208 a b ha hb
  by_cases k64 : op = 64
  · subst k64; exact ris_32_64 a b ha hb
  exact ris_32_u a b ha hb op k0 k16 k80 k32 k48 k160 k176 k96 k112 k192 k208 k64
theorem ris_ok (op : Int) (wide : Bool) (a b : Int) (ha : U64 a) (hb : U64 b) : ∃ r, IsOk op wide a b r := by
  cases wide
  · exact ris_all32 op a b ha hb
  · exact ris_all64 op a b ha hb
def revW : Nat → Int → Int → Int
  | 0, _, out => out
  | k + 1, x, out => revW k (x / 256) (IntKind.u64.wrap (IntKind.u64.wrap (out * 256) + x % 256))
theorem revW_u64 : ∀ (k : Nat) (x out : Int), U64 out → U64 (revW k x out)
  | 0, _, _, h => h
  | k + 1, x, _, _ => revW_u64 k (x / 256) _ (u64_wrap _)
theorem rswap_u (turn : Bool) (width a : Int) (h16 : ¬ width = 16) (h32 : ¬ width = 32) (h64 : ¬ width = 64) : ∃ n, SwapOk turn width a n := by
  refine ⟨0, u64_z, 1, fun w => ?_⟩
  have e16 : (width == 16) = false := by simpa using h16
  have e32 : (width == 32) = false := by simpa using h32
  have e64 : (width == 64) = false := by simpa using h64
  have f16 : (width != 16) = true := by simpa using h16
  have f32 : (width != 32) = true := by simpa using h32
  have f64 : (width != 64) = true := by simpa using h64
  go_enter Try.func64, Try.ntmps64
  go_wp2_with fail
  all_goals
    go_ret2
    exact ⟨rfl, rfl⟩
theorem rswap_16f (a : Int) (ha : U64 a) : ∃ n, SwapOk false 16 a n := by
  have hc := fun w => rcutG_16 a ha w
  refine ⟨(a % 65536), ⟨by omega, by omega⟩, 0, fun w => ?_⟩
  go_enter Try.func64, Try.ntmps64
  go_wp2_with fail
  refine (hc _).mono ?_
  rintro e w1 ⟨rfl, rfl⟩
  go_wp2_with fail
  go_ret2
  exact ⟨rfl, rfl⟩
theorem rswap_16t (a : Int) (ha : U64 a) : ∃ n, SwapOk true 16 a n := by
  have hc := fun w => rcutG_16 a ha w
  have hu : U64 (a % 65536) := ⟨by omega, by omega⟩
  refine ⟨revW 2 (a % 65536) 0, revW_u64 _ _ _ u64_z, 0, fun w => ?_⟩
  generalize (a % 65536) = x at *
  clear ha
  go_enter Try.func64, Try.ntmps64
  go_wp2_with fail
  refine (hc _).mono ?_
  rintro e w1 ⟨rfl, rfl⟩
  go_wp2_with fail
  have HR := Lib.hid (show ∃ R, R = revW 2 x 0 from ⟨_, rfl⟩)
  go_loopw [8, 9, 10] (fun q1 q2 q3 wr => ∃ (j : Nat) (y out : Int), j ≤ 2 ∧ q3 = .int .i64 j ∧ q1 = .int .u64 y ∧ q2 = .int .u64 out ∧ U64 y ∧ U64 out ∧ revW 2 x 0 = revW (2 - j) y out ∧ wr = w1) (fun _ _ q3 _ => 2 - (intOf q3).toNat)
  case atStart => exact ⟨0, x, 0, by omega, rfl, rfl, rfl, hu, u64_z, rfl, rfl⟩
  case round =>
    obtain ⟨j, y, out, hj, rfl, rfl, rfl, hy, ho, he, rfl⟩ := hrel
    rcases Nat.lt_or_ge j 2 with hlt | hge
    · have he2 : revW 2 x 0 = revW (2 - (j + 1)) (y / 256) (IntKind.u64.wrap (IntKind.u64.wrap (out * 256) + y % 256)) := by
        rw [he, show 2 - j = (2 - (j + 1)) + 1 by omega, revW]
      have HE := Lib.hid he2
      clear he he2 HR
      have hlti : (j : Int) < 2 := by omega
      have hyd : U64 (y / 256) := u64_div' hy (by decide)
      obtain ⟨y0, y1⟩ := hy
      obtain ⟨o0, o1⟩ := ho
      go_wp2_with fail
      go_roundw
      case rel => exact ⟨j + 1, _, _, by omega, by go_num, rfl, rfl, hyd, u64_wrap _, HE.out, trivial⟩
      all_goals (simp [intOf]; omega)
    · have he2 : revW 2 x 0 = out := by rw [he, show 2 - j = 0 by omega]; rfl
      have HE := Lib.hid he2
      clear he he2 HR
      have hgei : ¬ (j : Int) < 2 := by omega
      go_wp2_with fail
      go_ret2
      rw [HE.out]
      exact ⟨rfl, rfl⟩
theorem rswap_32f (a : Int) (ha : U64 a) : ∃ n, SwapOk false 32 a n := by
  have hc := fun w => rcutG_32 a ha w
  refine ⟨(a % 4294967296), ⟨by omega, by omega⟩, 0, fun w => ?_⟩
  go_enter Try.func64, Try.ntmps64
  go_wp2_with fail
  refine (hc _).mono ?_
  rintro e w1 ⟨rfl, rfl⟩
  go_wp2_with fail
  go_ret2
  exact ⟨rfl, rfl⟩
theorem rswap_32t (a : Int) (ha : U64 a) : ∃ n, SwapOk true 32 a n := by
  have hc := fun w => rcutG_32 a ha w
  have hu : U64 (a % 4294967296) := ⟨by omega, by omega⟩
  refine ⟨revW 4 (a % 4294967296) 0, revW_u64 _ _ _ u64_z, 0, fun w => ?_⟩
  generalize (a % 4294967296) = x at *
  clear ha
  go_enter Try.func64, Try.ntmps64
  go_wp2_with fail
  refine (hc _).mono ?_
  rintro e w1 ⟨rfl, rfl⟩
  go_wp2_with fail
  have HR := Lib.hid (show ∃ R, R = revW 4 x 0 from ⟨_, rfl⟩)
  go_loopw [8, 9, 10] (fun q1 q2 q3 wr => ∃ (j : Nat) (y out : Int), j ≤ 4 ∧ q3 = .int .i64 j ∧ q1 = .int .u64 y ∧ q2 = .int .u64 out ∧ U64 y ∧ U64 out ∧ revW 4 x 0 = revW (4 - j) y out ∧ wr = w1) (fun _ _ q3 _ => 4 - (intOf q3).toNat)
  case atStart => exact ⟨0, x, 0, by omega, rfl, rfl, rfl, hu, u64_z, rfl, rfl⟩
  case round =>
    obtain ⟨j, y, out, hj, rfl, rfl, rfl, hy, ho, he, rfl⟩ := hrel
    rcases Nat.lt_or_ge j 4 with hlt | hge
    · have he2 : revW 4 x 0 = revW (4 - (j + 1)) (y / 256) (IntKind.u64.wrap (IntKind.u64.wrap (out * 256) + y % 256)) := by
        rw [he, show 4 - j = (4 - (j + 1)) + 1 by omega, revW]
      have HE := Lib.hid he2
      clear he he2 HR
      have hlti : (j : Int) < 4 := by omega
      have hyd : U64 (y / 256) := u64_div' hy (by decide)
      obtain ⟨y0, y1⟩ := hy
      obtain ⟨o0, o1⟩ := ho
      go_wp2_with fail
      go_roundw
      case rel => exact ⟨j + 1, _, _, by omega, by go_num, rfl, rfl, hyd, u64_wrap _, HE.out, trivial⟩
      all_goals (simp [intOf]; omega)
    · have he2 : revW 4 x 0 = out := by rw [he, show 4 - j = 0 by omega]; rfl
      have HE := Lib.hid he2
      clear he he2 HR
      have hgei : ¬ (j : Int) < 4 := by omega
      go_wp2_with fail
      go_ret2
      rw [HE.out]
      exact ⟨rfl, rfl⟩
theorem rswap_64f (a : Int) (ha : U64 a) : ∃ n, SwapOk false 64 a n := by
  have hc := fun w => rcutG_64 a w
  refine ⟨a, ha, 0, fun w => ?_⟩
  go_enter Try.func64, Try.ntmps64
  go_wp2_with fail
  refine (hc _).mono ?_
  rintro e w1 ⟨rfl, rfl⟩
  go_wp2_with fail
  go_ret2
  exact ⟨rfl, rfl⟩
theorem rswap_64t (a : Int) (ha : U64 a) : ∃ n, SwapOk true 64 a n := by
  have hc := fun w => rcutG_64 a w
  have hu : U64 a := ha
  refine ⟨revW 8 a 0, revW_u64 _ _ _ u64_z, 0, fun w => ?_⟩
  generalize a = x at *
  clear ha
  go_enter Try.func64, Try.ntmps64
  go_wp2_with fail
  refine (hc _).mono ?_
  rintro e w1 ⟨rfl, rfl⟩
  go_wp2_with fail
  have HR := Lib.hid (show ∃ R, R = revW 8 x 0 from ⟨_, rfl⟩)
  go_loopw [8, 9, 10] (fun q1 q2 q3 wr => ∃ (j : Nat) (y out : Int), j ≤ 8 ∧ q3 = .int .i64 j ∧ q1 = .int .u64 y ∧ q2 = .int .u64 out ∧ U64 y ∧ U64 out ∧ revW 8 x 0 = revW (8 - j) y out ∧ wr = w1) (fun _ _ q3 _ => 8 - (intOf q3).toNat)
  case atStart => exact ⟨0, x, 0, by omega, rfl, rfl, rfl, hu, u64_z, rfl, rfl⟩
  case round =>
    obtain ⟨j, y, out, hj, rfl, rfl, rfl, hy, ho, he, rfl⟩ := hrel
    rcases Nat.lt_or_ge j 8 with hlt | hge
    · have he2 : revW 8 x 0 = revW (8 - (j + 1)) (y / 256) (IntKind.u64.wrap (IntKind.u64.wrap (out * 256) + y % 256)) := by
        rw [he, show 8 - j = (8 - (j + 1)) + 1 by omega, revW]
      have HE := Lib.hid he2
      clear he he2 HR
      have hlti : (j : Int) < 8 := by omega
      have hyd : U64 (y / 256) := u64_div' hy (by decide)
      obtain ⟨y0, y1⟩ := hy
      obtain ⟨o0, o1⟩ := ho
      go_wp2_with fail
      go_roundw
      case rel => exact ⟨j + 1, _, _, by omega, by go_num, rfl, rfl, hyd, u64_wrap _, HE.out, trivial⟩
      all_goals (simp [intOf]; omega)
    · have he2 : revW 8 x 0 = out := by rw [he, show 8 - j = 0 by omega]; rfl
      have HE := Lib.hid he2
      clear he he2 HR
      have hgei : ¬ (j : Int) < 8 := by omega
      go_wp2_with fail
      go_ret2
      rw [HE.out]
      exact ⟨rfl, rfl⟩
theorem rswap_ok (turn : Bool) (width a : Int) (ha : U64 a) : ∃ n, SwapOk turn width a n := by
  by_cases h16 : width = 16
  · subst h16; cases turn; exact rswap_16f a ha; exact rswap_16t a ha
  by_cases h32 : width = 32
  · subst h32; cases turn; exact rswap_32f a ha; exact rswap_32t a ha
  by_cases h64 : width = 64
  · subst h64; cases turn; exact rswap_64f a ha; exact rswap_64t a ha
  exact rswap_u turn width a h16 h32 h64
end
end Go.Proofs.Ytncogaikiceidaa
