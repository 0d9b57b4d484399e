/- Layer 2, Do. No statement is proved here. -/
import Derived.Test.YtncogaikiceidaaN8
namespace Go.Proofs.Ytncogaikiceidaa
set_option maxRecDepth 100000
open Go.RowKit
set_option linter.unusedSimpArgs false
set_option linter.unusedVariables false
set_option linter.unnecessarySimpa false
section
theorem rdoN64 (a b : Int) (ha : U64 a) (hb : U64 b) : ∃ n, DoOk 128 true 0 a b n := by
  have hc := fun w => rcutG_64 (IntKind.u64.wrap (-a)) w
  refine ⟨IntKind.u64.wrap (-a), u64_wrap _, 0, fun w => ?_⟩
  have a0 := ha.1
  have a1 := ha.2
  have b0 := hb.1
  have b1 := hb.2
  go_enter Try.func77, Try.ntmps77
  go_wp2_with fail
  refine (rcutG_64 _ _).mono ?_
  rintro e w1 ⟨rfl, rfl⟩
  go_wp2_with fail
  refine (rcutG_64 _ _).mono ?_
  rintro e w2 ⟨rfl, rfl⟩
  go_wp2_with fail
  refine (hc _).mono ?_
  rintro e w4 ⟨rfl, rfl⟩
  go_wp2_with fail
  all_goals
    go_ret2
    exact ⟨rfl, 0, rfl⟩
theorem rdoX64_8 (a b : Int) (ha : U64 a) (hb : U64 b) : ∃ n, DoOk 176 true 8 a b n := by
  have hs := fun w => rsignG_8 b hb w
  have hsu := signG_u64 b hb 8 (by unfold Wide; omega)
  generalize signG b 8 = q at *
  have hc := fun w => rcutG_64 (q) w
  refine ⟨q, hsu, 0, fun w => ?_⟩
  have a0 := ha.1
  have a1 := ha.2
  have b0 := hb.1
  have b1 := hb.2
  go_enter Try.func77, Try.ntmps77
  go_wp2_with fail
  refine (rcutG_64 _ _).mono ?_
  rintro e w1 ⟨rfl, rfl⟩
  go_wp2_with fail
  refine (rcutG_64 _ _).mono ?_
  rintro e w2 ⟨rfl, rfl⟩
  go_wp2_with fail
  refine (hs _).mono ?_
  rintro e w4 ⟨rfl, rfl⟩
  go_wp2_with fail
  refine (hc _).mono ?_
  rintro e w4 ⟨rfl, rfl⟩
  go_wp2_with fail
  all_goals
    go_ret2
    exact ⟨rfl, 0, rfl⟩
theorem rdoX64_16 (a b : Int) (ha : U64 a) (hb : U64 b) : ∃ n, DoOk 176 true 16 a b n := by
  have hs := fun w => rsignG_16 b hb w
  have hsu := signG_u64 b hb 16 (by unfold Wide; omega)
  generalize signG b 16 = q at *
  have hc := fun w => rcutG_64 (q) w
  refine ⟨q, hsu, 0, fun w => ?_⟩
  have a0 := ha.1
  have a1 := ha.2
  have b0 := hb.1
  have b1 := hb.2
  go_enter Try.func77, Try.ntmps77
  go_wp2_with fail
  refine (rcutG_64 _ _).mono ?_
  rintro e w1 ⟨rfl, rfl⟩
  go_wp2_with fail
  refine (rcutG_64 _ _).mono ?_
  rintro e w2 ⟨rfl, rfl⟩
  go_wp2_with fail
  refine (hs _).mono ?_
  rintro e w4 ⟨rfl, rfl⟩
  go_wp2_with fail
  refine (hc _).mono ?_
  rintro e w4 ⟨rfl, rfl⟩
  go_wp2_with fail
  all_goals
    go_ret2
    exact ⟨rfl, 0, rfl⟩
theorem rdoX64_32 (a b : Int) (ha : U64 a) (hb : U64 b) : ∃ n, DoOk 176 true 32 a b n := by
  have hs := fun w => rsignG_32 b hb w
  have hsu := signG_u64 b hb 32 (by unfold Wide; omega)
  generalize signG b 32 = q at *
  have hc := fun w => rcutG_64 (q) w
  refine ⟨q, hsu, 0, fun w => ?_⟩
  have a0 := ha.1
  have a1 := ha.2
  have b0 := hb.1
  have b1 := hb.2
  go_enter Try.func77, Try.ntmps77
  go_wp2_with fail
  refine (rcutG_64 _ _).mono ?_
  rintro e w1 ⟨rfl, rfl⟩
  go_wp2_with fail
  refine (rcutG_64 _ _).mono ?_
  rintro e w2 ⟨rfl, rfl⟩
  go_wp2_with fail
  refine (hs _).mono ?_
  rintro e w4 ⟨rfl, rfl⟩
  go_wp2_with fail
  refine (hc _).mono ?_
  rintro e w4 ⟨rfl, rfl⟩
  go_wp2_with fail
  all_goals
    go_ret2
    exact ⟨rfl, 0, rfl⟩
theorem rdoXe64 (a b : Int) (ha : U64 a) (hb : U64 b) (off : Int) (h0 : ¬ off = 0) (h1 : ¬ off = 8) (h2 : ¬ off = 16) (h3 : ¬ off = 32) : ∃ n, DoOk 176 true off a b n := by
  refine ⟨0, u64_z, 1, fun w => ?_⟩
  have e0 : (off == 0) = false := by simpa using h0
  have f0 : (off != 0) = true := by simpa using h0
  have e1 : (off == 8) = false := by simpa using h1
  have f1 : (off != 8) = true := by simpa using h1
  have e2 : (off == 16) = false := by simpa using h2
  have f2 : (off != 16) = true := by simpa using h2
  have e3 : (off == 32) = false := by simpa using h3
  have f3 : (off != 32) = true := by simpa using h3
  have a0 := ha.1
  have a1 := ha.2
  have b0 := hb.1
  have b1 := hb.2
  go_enter Try.func77, Try.ntmps77
  go_wp2_with fail
  refine (rcutG_64 _ _).mono ?_
  rintro e w1 ⟨rfl, rfl⟩
  go_wp2_with fail
  refine (rcutG_64 _ _).mono ?_
  rintro e w2 ⟨rfl, rfl⟩
  go_wp2_with fail
  all_goals
    go_ret2
    exact ⟨rfl, 0, rfl⟩
theorem rdoE64_0 (a b : Int) (ha : U64 a) (hb : U64 b) (off : Int) (h0 : ¬ off = 0) : ∃ n, DoOk 0 true off a b n := by
  refine ⟨0, u64_z, 1, fun w => ?_⟩
  have e0 : (off == 0) = false := by simpa using h0
  have f0 : (off != 0) = true := by simpa using h0
  have a0 := ha.1
  have a1 := ha.2
  have b0 := hb.1
  have b1 := hb.2
  go_enter Try.func77, Try.ntmps77
  go_wp2_with fail
  refine (rcutG_64 _ _).mono ?_
  rintro e w1 ⟨rfl, rfl⟩
  go_wp2_with fail
  refine (rcutG_64 _ _).mono ?_
  rintro e w2 ⟨rfl, rfl⟩
  go_wp2_with fail
  all_goals
    go_ret2
    exact ⟨rfl, 0, rfl⟩
theorem rdoE64_16 (a b : Int) (ha : U64 a) (hb : U64 b) (off : Int) (h0 : ¬ off = 0) : ∃ n, DoOk 16 true off a b n := by
  refine ⟨0, u64_z, 1, fun w => ?_⟩
  have e0 : (off == 0) = false := by simpa using h0
  have f0 : (off != 0) = true := by simpa using h0
  have a0 := ha.1
  have a1 := ha.2
  have b0 := hb.1
  have b1 := hb.2
  go_enter Try.func77, Try.ntmps77
  go_wp2_with fail
  refine (rcutG_64 _ _).mono ?_
  rintro e w1 ⟨rfl, rfl⟩
  go_wp2_with fail
  refine (rcutG_64 _ _).mono ?_
  rintro e w2 ⟨rfl, rfl⟩
  go_wp2_with fail
  all_goals
    go_ret2
    exact ⟨rfl, 0, rfl⟩
theorem rdoE64_32 (a b : Int) (ha : U64 a) (hb : U64 b) (off : Int) (h0 : ¬ off = 0) : ∃ n, DoOk 32 true off a b n := by
  refine ⟨0, u64_z, 1, fun w => ?_⟩
  have e0 : (off == 0) = false := by simpa using h0
  have f0 : (off != 0) = true := by simpa using h0
  have a0 := ha.1
  have a1 := ha.2
  have b0 := hb.1
  have b1 := hb.2
  go_enter Try.func77, Try.ntmps77
  go_wp2_with fail
  refine (rcutG_64 _ _).mono ?_
  rintro e w1 ⟨rfl, rfl⟩
  go_wp2_with fail
  refine (rcutG_64 _ _).mono ?_
  rintro e w2 ⟨rfl, rfl⟩
  go_wp2_with fail
  all_goals
    go_ret2
    exact ⟨rfl, 0, rfl⟩
theorem rdoE64_64 (a b : Int) (ha : U64 a) (hb : U64 b) (off : Int) (h0 : ¬ off = 0) : ∃ n, DoOk 64 true off a b n := by
  refine ⟨0, u64_z, 1, fun w => ?_⟩
  have e0 : (off == 0) = false := by simpa using h0
  have f0 : (off != 0) = true := by simpa using h0
  have a0 := ha.1
  have a1 := ha.2
  have b0 := hb.1
  have b1 := hb.2
  go_enter Try.func77, Try.ntmps77
  go_wp2_with fail
  refine (rcutG_64 _ _).mono ?_
  rintro e w1 ⟨rfl, rfl⟩
  go_wp2_with fail
  refine (rcutG_64 _ _).mono ?_
  rintro e w2 ⟨rfl, rfl⟩
  go_wp2_with fail
  all_goals
    go_ret2
    exact ⟨rfl, 0, rfl⟩
theorem rdoE64_80 (a b : Int) (ha : U64 a) (hb : U64 b) (off : Int) (h0 : ¬ off = 0) : ∃ n, DoOk 80 true off a b n := by
  refine ⟨0, u64_z, 1, fun w => ?_⟩
  have e0 : (off == 0) = false := by simpa using h0
  have f0 : (off != 0) = true := by simpa using h0
  have a0 := ha.1
  have a1 := ha.2
  have b0 := hb.1
  have b1 := hb.2
  go_enter Try.func77, Try.ntmps77
  go_wp2_with fail
  refine (rcutG_64 _ _).mono ?_
  rintro e w1 ⟨rfl, rfl⟩
  go_wp2_with fail
  refine (rcutG_64 _ _).mono ?_
  rintro e w2 ⟨rfl, rfl⟩
  go_wp2_with fail
  all_goals
    go_ret2
    exact ⟨rfl, 0, rfl⟩
theorem rdoE64_160 (a b : Int) (ha : U64 a) (hb : U64 b) (off : Int) (h0 : ¬ off = 0) : ∃ n, DoOk 160 true off a b n := by
  refine ⟨0, u64_z, 1, fun w => ?_⟩
  have e0 : (off == 0) = false := by simpa using h0
  have f0 : (off != 0) = true := by simpa using h0
  have a0 := ha.1
  have a1 := ha.2
  have b0 := hb.1
  have b1 := hb.2
  go_enter Try.func77, Try.ntmps77
  go_wp2_with fail
  refine (rcutG_64 _ _).mono ?_
  rintro e w1 ⟨rfl, rfl⟩
  go_wp2_with fail
  refine (rcutG_64 _ _).mono ?_
  rintro e w2 ⟨rfl, rfl⟩
  go_wp2_with fail
  all_goals
    go_ret2
    exact ⟨rfl, 0, rfl⟩
theorem rdoE64_128 (a b : Int) (ha : U64 a) (hb : U64 b) (off : Int) (h0 : ¬ off = 0) : ∃ n, DoOk 128 true off a b n := by
  refine ⟨0, u64_z, 1, fun w => ?_⟩
  have e0 : (off == 0) = false := by simpa using h0
  have f0 : (off != 0) = true := by simpa using h0
  have a0 := ha.1
  have a1 := ha.2
  have b0 := hb.1
  have b1 := hb.2
  go_enter Try.func77, Try.ntmps77
  go_wp2_with fail
  refine (rcutG_64 _ _).mono ?_
  rintro e w1 ⟨rfl, rfl⟩
  go_wp2_with fail
  refine (rcutG_64 _ _).mono ?_
  rintro e w2 ⟨rfl, rfl⟩
  go_wp2_with fail
  all_goals
    go_ret2
    exact ⟨rfl, 0, rfl⟩
theorem rdoE64_96 (a b : Int) (ha : U64 a) (hb : U64 b) (off : Int) (h0 : ¬ off = 0) : ∃ n, DoOk 96 true off a b n := by
  refine ⟨0, u64_z, 1, fun w => ?_⟩
  have e0 : (off == 0) = false := by simpa using h0
  have f0 : (off != 0) = true := by simpa using h0
  have a0 := ha.1
  have a1 := ha.2
  have b0 := hb.1
  have b1 := hb.2
  go_enter Try.func77, Try.ntmps77
  go_wp2_with fail
  refine (rcutG_64 _ _).mono ?_
  rintro e w1 ⟨rfl, rfl⟩
  go_wp2_with fail
  refine (rcutG_64 _ _).mono ?_
  rintro e w2 ⟨rfl, rfl⟩
  go_wp2_with fail
  all_goals
    go_ret2
    exact ⟨rfl, 0, rfl⟩
theorem rdoE64_112 (a b : Int) (ha : U64 a) (hb : U64 b) (off : Int) (h0 : ¬ off = 0) : ∃ n, DoOk 112 true off a b n := by
  refine ⟨0, u64_z, 1, fun w => ?_⟩
  have e0 : (off == 0) = false := by simpa using h0
  have f0 : (off != 0) = true := by simpa using h0
  have a0 := ha.1
  have a1 := ha.2
  have b0 := hb.1
  have b1 := hb.2
  go_enter Try.func77, Try.ntmps77
  go_wp2_with fail
  refine (rcutG_64 _ _).mono ?_
  rintro e w1 ⟨rfl, rfl⟩
  go_wp2_with fail
  refine (rcutG_64 _ _).mono ?_
  rintro e w2 ⟨rfl, rfl⟩
  go_wp2_with fail
  all_goals
    go_ret2
    exact ⟨rfl, 0, rfl⟩
theorem rdoE64_192y (a b : Int) (ha : U64 a) (hb : U64 b) (off : Int) (h0 : ¬ off = 0) (hg : (a / 9223372036854775808 == 1) = true) : ∃ n, DoOk 192 true off a b n := by
  have hn := fun w => rneg64 a ha w
  rw [hg] at hn
  clear hg
  have hc := fun w => rcutG_64 (18446744073709551615) w
  refine ⟨0, u64_z, 1, fun w => ?_⟩
  have e0 : (off == 0) = false := by simpa using h0
  have f0 : (off != 0) = true := by simpa using h0
  have a0 := ha.1
  have a1 := ha.2
  have b0 := hb.1
  have b1 := hb.2
  go_enter Try.func77, Try.ntmps77
  go_wp2_with fail
  refine (rcutG_64 _ _).mono ?_
  rintro e w1 ⟨rfl, rfl⟩
  go_wp2_with fail
  refine (rcutG_64 _ _).mono ?_
  rintro e w2 ⟨rfl, rfl⟩
  go_wp2_with fail
  refine (hn _).mono ?_
  rintro e w4 ⟨rfl, rfl⟩
  go_wp2_with fail
  refine (hc _).mono ?_
  rintro e w4 ⟨rfl, rfl⟩
  go_wp2_with fail
  all_goals
    go_ret2
    exact ⟨rfl, 0, rfl⟩
theorem rdoE64_192n (a b : Int) (ha : U64 a) (hb : U64 b) (off : Int) (h0 : ¬ off = 0) (hg : (a / 9223372036854775808 == 1) = false) : ∃ n, DoOk 192 true off a b n := by
  have hn := fun w => rneg64 a ha w
  rw [hg] at hn
  clear hg
  refine ⟨0, u64_z, 1, fun w => ?_⟩
  have e0 : (off == 0) = false := by simpa using h0
  have f0 : (off != 0) = true := by simpa using h0
  have a0 := ha.1
  have a1 := ha.2
  have b0 := hb.1
  have b1 := hb.2
  go_enter Try.func77, Try.ntmps77
  go_wp2_with fail
  refine (rcutG_64 _ _).mono ?_
  rintro e w1 ⟨rfl, rfl⟩
  go_wp2_with fail
  refine (rcutG_64 _ _).mono ?_
  rintro e w2 ⟨rfl, rfl⟩
  go_wp2_with fail
  refine (hn _).mono ?_
  rintro e w4 ⟨rfl, rfl⟩
  go_wp2_with fail
  all_goals
    go_ret2
    exact ⟨rfl, 0, rfl⟩
theorem rdoE64_48 (a b : Int) (ha : U64 a) (hb : U64 b) (off : Int) (h0 : ¬ off = 0) (h1 : ¬ off = 1) : ∃ n, DoOk 48 true off a b n := by
  refine ⟨0, u64_z, 1, fun w => ?_⟩
  have e0 : (off == 0) = false := by simpa using h0
  have f0 : (off != 0) = true := by simpa using h0
  have e1 : (off == 1) = false := by simpa using h1
  have f1 : (off != 1) = true := by simpa using h1
  have a0 := ha.1
  have a1 := ha.2
  have b0 := hb.1
  have b1 := hb.2
  go_enter Try.func77, Try.ntmps77
  go_wp2_with fail
  refine (rcutG_64 _ _).mono ?_
  rintro e w1 ⟨rfl, rfl⟩
  go_wp2_with fail
  refine (rcutG_64 _ _).mono ?_
  rintro e w2 ⟨rfl, rfl⟩
  go_wp2_with fail
  all_goals
    go_ret2
    exact ⟨rfl, 0, rfl⟩
theorem rdoS64_48 (a b : Int) (ha : U64 a) (hb : U64 b) : ∃ n, DoOk 48 true 1 a b n := by
  obtain ⟨q, r, hqu, hru, hp⟩ := rparts64s a b ha hb
  refine ⟨q, hqu, 0, fun w => ?_⟩
  have a0 := ha.1
  have a1 := ha.2
  have b0 := hb.1
  have b1 := hb.2
  go_enter Try.func77, Try.ntmps77
  go_wp2_with fail
  refine (rcutG_64 _ _).mono ?_
  rintro e w1 ⟨rfl, rfl⟩
  go_wp2_with fail
  refine (rcutG_64 _ _).mono ?_
  rintro e w2 ⟨rfl, rfl⟩
  go_wp2_with fail
  refine (hp _).mono ?_
  rintro e w3 ⟨rfl, n3, rfl⟩
  go_wp2_with fail
  all_goals
    go_ret2
    exact ⟨rfl, n3, rfl⟩
theorem rdoE64_144 (a b : Int) (ha : U64 a) (hb : U64 b) (off : Int) (h0 : ¬ off = 0) (h1 : ¬ off = 1) : ∃ n, DoOk 144 true off a b n := by
  refine ⟨0, u64_z, 1, fun w => ?_⟩
  have e0 : (off == 0) = false := by simpa using h0
  have f0 : (off != 0) = true := by simpa using h0
  have e1 : (off == 1) = false := by simpa using h1
  have f1 : (off != 1) = true := by simpa using h1
  have a0 := ha.1
  have a1 := ha.2
  have b0 := hb.1
  have b1 := hb.2
  go_enter Try.func77, Try.ntmps77
  go_wp2_with fail
  refine (rcutG_64 _ _).mono ?_
  rintro e w1 ⟨rfl, rfl⟩
  go_wp2_with fail
  refine (rcutG_64 _ _).mono ?_
  rintro e w2 ⟨rfl, rfl⟩
  go_wp2_with fail
  all_goals
    go_ret2
    exact ⟨rfl, 0, rfl⟩
theorem rdoS64_144 (a b : Int) (ha : U64 a) (hb : U64 b) : ∃ n, DoOk 144 true 1 a b n := by
  obtain ⟨q, r, hqu, hru, hp⟩ := rparts64s a b ha hb
  refine ⟨r, hru, 0, fun w => ?_⟩
  have a0 := ha.1
  have a1 := ha.2
  have b0 := hb.1
  have b1 := hb.2
  go_enter Try.func77, Try.ntmps77
  go_wp2_with fail
  refine (rcutG_64 _ _).mono ?_
  rintro e w1 ⟨rfl, rfl⟩
  go_wp2_with fail
  refine (rcutG_64 _ _).mono ?_
  rintro e w2 ⟨rfl, rfl⟩
  go_wp2_with fail
  refine (hp _).mono ?_
  rintro e w3 ⟨rfl, n3, rfl⟩
  go_wp2_with fail
  all_goals
    go_ret2
    exact ⟨rfl, n3, rfl⟩
theorem rdoU64 (a b : Int) (ha : U64 a) (hb : U64 b) (op off : Int) (h176 : ¬ op = 176) (h48 : ¬ op = 48) (h144 : ¬ op = 144) (h0 : ¬ op = 0) (h16 : ¬ op = 16) (h32 : ¬ op = 32) (h64 : ¬ op = 64) (h80 : ¬ op = 80) (h160 : ¬ op = 160) (h128 : ¬ op = 128) (h96 : ¬ op = 96) (h112 : ¬ op = 112) (h192 : ¬ op = 192) : ∃ n, DoOk op true off a b n := by
  refine ⟨0, u64_z, 1, fun w => ?_⟩
  have a0 := ha.1
  have a1 := ha.2
  have b0 := hb.1
  have b1 := hb.2
  go_enter Try.func77, Try.ntmps77
  go_wp2_with fail
  refine (rcutG_64 _ _).mono ?_
  rintro e w1 ⟨rfl, rfl⟩
  go_wp2_with fail
  refine (rcutG_64 _ _).mono ?_
  rintro e w2 ⟨rfl, rfl⟩
  go_wp2_with fail
  all_goals
    go_ret2
    exact ⟨rfl, 0, rfl⟩
theorem rdoN32 (a b : Int) (ha : U64 a) (hb : U64 b) : ∃ n, DoOk 128 false 0 a b n := by
  have hc := fun w => rcutG_32 (IntKind.u64.wrap (-(a % 4294967296))) (u64_wrap _) w
  refine ⟨IntKind.u64.wrap (-(a % 4294967296)) % 4294967296, u64_mod32, 0, fun w => ?_⟩
  have a0 := ha.1
  have a1 := ha.2
  have b0 := hb.1
  have b1 := hb.2
  go_enter Try.func77, Try.ntmps77
  go_wp2_with fail
  refine (rcutG_32 _ ha _).mono ?_
  rintro e w1 ⟨rfl, rfl⟩
  go_wp2_with fail
  refine (rcutG_32 _ hb _).mono ?_
  rintro e w2 ⟨rfl, rfl⟩
  go_wp2_with fail
  refine (hc _).mono ?_
  rintro e w4 ⟨rfl, rfl⟩
  go_wp2_with fail
  all_goals
    go_ret2
    exact ⟨rfl, 0, rfl⟩
theorem rdoX32_8 (a b : Int) (ha : U64 a) (hb : U64 b) : ∃ n, DoOk 176 false 8 a b n := by
  have hs := fun w => rsignG_8 (b % 4294967296) u64_mod32 w
  have hsu := signG_u64 (b % 4294967296) u64_mod32 8 (by unfold Wide; omega)
  generalize signG (b % 4294967296) 8 = q at *
  have hc := fun w => rcutG_32 (q) hsu w
  refine ⟨q % 4294967296, u64_mod32, 0, fun w => ?_⟩
  have a0 := ha.1
  have a1 := ha.2
  have b0 := hb.1
  have b1 := hb.2
  go_enter Try.func77, Try.ntmps77
  go_wp2_with fail
  refine (rcutG_32 _ ha _).mono ?_
  rintro e w1 ⟨rfl, rfl⟩
  go_wp2_with fail
  refine (rcutG_32 _ hb _).mono ?_
  rintro e w2 ⟨rfl, rfl⟩
  go_wp2_with fail
  refine (hs _).mono ?_
  rintro e w4 ⟨rfl, rfl⟩
  go_wp2_with fail
  refine (hc _).mono ?_
  rintro e w4 ⟨rfl, rfl⟩
  go_wp2_with fail
  all_goals
    go_ret2
    exact ⟨rfl, 0, rfl⟩
theorem rdoX32_16 (a b : Int) (ha : U64 a) (hb : U64 b) : ∃ n, DoOk 176 false 16 a b n := by
  have hs := fun w => rsignG_16 (b % 4294967296) u64_mod32 w
  have hsu := signG_u64 (b % 4294967296) u64_mod32 16 (by unfold Wide; omega)
  generalize signG (b % 4294967296) 16 = q at *
  have hc := fun w => rcutG_32 (q) hsu w
  refine ⟨q % 4294967296, u64_mod32, 0, fun w => ?_⟩
  have a0 := ha.1
  have a1 := ha.2
  have b0 := hb.1
  have b1 := hb.2
  go_enter Try.func77, Try.ntmps77
  go_wp2_with fail
  refine (rcutG_32 _ ha _).mono ?_
  rintro e w1 ⟨rfl, rfl⟩
  go_wp2_with fail
  refine (rcutG_32 _ hb _).mono ?_
  rintro e w2 ⟨rfl, rfl⟩
  go_wp2_with fail
  refine (hs _).mono ?_
  rintro e w4 ⟨rfl, rfl⟩
  go_wp2_with fail
  refine (hc _).mono ?_
  rintro e w4 ⟨rfl, rfl⟩
  go_wp2_with fail
  all_goals
    go_ret2
    exact ⟨rfl, 0, rfl⟩
theorem rdoXe32 (a b : Int) (ha : U64 a) (hb : U64 b) (off : Int) (h0 : ¬ off = 0) (h1 : ¬ off = 8) (h2 : ¬ off = 16) : ∃ n, DoOk 176 false off a b n := by
  refine ⟨0, u64_z, 1, fun w => ?_⟩
  have e0 : (off == 0) = false := by simpa using h0
  have f0 : (off != 0) = true := by simpa using h0
  have e1 : (off == 8) = false := by simpa using h1
  have f1 : (off != 8) = true := by simpa using h1
  have e2 : (off == 16) = false := by simpa using h2
  have f2 : (off != 16) = true := by simpa using h2
  have a0 := ha.1
  have a1 := ha.2
  have b0 := hb.1
  have b1 := hb.2
  go_enter Try.func77, Try.ntmps77
  go_wp2_with fail
  refine (rcutG_32 _ ha _).mono ?_
  rintro e w1 ⟨rfl, rfl⟩
  go_wp2_with fail
  refine (rcutG_32 _ hb _).mono ?_
  rintro e w2 ⟨rfl, rfl⟩
  go_wp2_with fail
  all_goals
    go_ret2
    exact ⟨rfl, 0, rfl⟩
theorem rdoE32_0 (a b : Int) (ha : U64 a) (hb : U64 b) (off : Int) (h0 : ¬ off = 0) : ∃ n, DoOk 0 false off a b n := by
  refine ⟨0, u64_z, 1, fun w => ?_⟩
  have e0 : (off == 0) = false := by simpa using h0
  have f0 : (off != 0) = true := by simpa using h0
  have a0 := ha.1
  have a1 := ha.2
  have b0 := hb.1
  have b1 := hb.2
  go_enter Try.func77, Try.ntmps77
  go_wp2_with fail
  refine (rcutG_32 _ ha _).mono ?_
  rintro e w1 ⟨rfl, rfl⟩
  go_wp2_with fail
  refine (rcutG_32 _ hb _).mono ?_
  rintro e w2 ⟨rfl, rfl⟩
  go_wp2_with fail
  all_goals
    go_ret2
    exact ⟨rfl, 0, rfl⟩
theorem rdoE32_16 (a b : Int) (ha : U64 a) (hb : U64 b) (off : Int) (h0 : ¬ off = 0) : ∃ n, DoOk 16 false off a b n := by
  refine ⟨0, u64_z, 1, fun w => ?_⟩
  have e0 : (off == 0) = false := by simpa using h0
  have f0 : (off != 0) = true := by simpa using h0
  have a0 := ha.1
  have a1 := ha.2
  have b0 := hb.1
  have b1 := hb.2
  go_enter Try.func77, Try.ntmps77
  go_wp2_with fail
  refine (rcutG_32 _ ha _).mono ?_
  rintro e w1 ⟨rfl, rfl⟩
  go_wp2_with fail
  refine (rcutG_32 _ hb _).mono ?_
  rintro e w2 ⟨rfl, rfl⟩
  go_wp2_with fail
  all_goals
    go_ret2
    exact ⟨rfl, 0, rfl⟩
theorem rdoE32_32 (a b : Int) (ha : U64 a) (hb : U64 b) (off : Int) (h0 : ¬ off = 0) : ∃ n, DoOk 32 false off a b n := by
  refine ⟨0, u64_z, 1, fun w => ?_⟩
  have e0 : (off == 0) = false := by simpa using h0
  have f0 : (off != 0) = true := by simpa using h0
  have a0 := ha.1
  have a1 := ha.2
  have b0 := hb.1
  have b1 := hb.2
  go_enter Try.func77, Try.ntmps77
  go_wp2_with fail
  refine (rcutG_32 _ ha _).mono ?_
  rintro e w1 ⟨rfl, rfl⟩
  go_wp2_with fail
  refine (rcutG_32 _ hb _).mono ?_
  rintro e w2 ⟨rfl, rfl⟩
  go_wp2_with fail
  all_goals
    go_ret2
    exact ⟨rfl, 0, rfl⟩
theorem rdoE32_64 (a b : Int) (ha : U64 a) (hb : U64 b) (off : Int) (h0 : ¬ off = 0) : ∃ n, DoOk 64 false off a b n := by
  refine ⟨0, u64_z, 1, fun w => ?_⟩
  have e0 : (off == 0) = false := by simpa using h0
  have f0 : (off != 0) = true := by simpa using h0
  have a0 := ha.1
  have a1 := ha.2
  have b0 := hb.1
  have b1 := hb.2
  go_enter Try.func77, Try.ntmps77
  go_wp2_with fail
  refine (rcutG_32 _ ha _).mono ?_
  rintro e w1 ⟨rfl, rfl⟩
  go_wp2_with fail
  refine (rcutG_32 _ hb _).mono ?_
  rintro e w2 ⟨rfl, rfl⟩
  go_wp2_with fail
  all_goals
    go_ret2
    exact ⟨rfl, 0, rfl⟩
theorem rdoE32_80 (a b : Int) (ha : U64 a) (hb : U64 b) (off : Int) (h0 : ¬ off = 0) : ∃ n, DoOk 80 false off a b n := by
  refine ⟨0, u64_z, 1, fun w => ?_⟩
  have e0 : (off == 0) = false := by simpa using h0
  have f0 : (off != 0) = true := by simpa using h0
  have a0 := ha.1
  have a1 := ha.2
  have b0 := hb.1
  have b1 := hb.2
  go_enter Try.func77, Try.ntmps77
  go_wp2_with fail
  refine (rcutG_32 _ ha _).mono ?_
  rintro e w1 ⟨rfl, rfl⟩
  go_wp2_with fail
  refine (rcutG_32 _ hb _).mono ?_
  rintro e w2 ⟨rfl, rfl⟩
  go_wp2_with fail
  all_goals
    go_ret2
    exact ⟨rfl, 0, rfl⟩
theorem rdoE32_160 (a b : Int) (ha : U64 a) (hb : U64 b) (off : Int) (h0 : ¬ off = 0) : ∃ n, DoOk 160 false off a b n := by
  refine ⟨0, u64_z, 1, fun w => ?_⟩
  have e0 : (off == 0) = false := by simpa using h0
  have f0 : (off != 0) = true := by simpa using h0
  have a0 := ha.1
  have a1 := ha.2
  have b0 := hb.1
  have b1 := hb.2
  go_enter Try.func77, Try.ntmps77
  go_wp2_with fail
  refine (rcutG_32 _ ha _).mono ?_
  rintro e w1 ⟨rfl, rfl⟩
  go_wp2_with fail
  refine (rcutG_32 _ hb _).mono ?_
  rintro e w2 ⟨rfl, rfl⟩
  go_wp2_with fail
  all_goals
    go_ret2
    exact ⟨rfl, 0, rfl⟩
theorem rdoE32_128 (a b : Int) (ha : U64 a) (hb : U64 b) (off : Int) (h0 : ¬ off = 0) : ∃ n, DoOk 128 false off a b n := by
  refine ⟨0, u64_z, 1, fun w => ?_⟩
  have e0 : (off == 0) = false := by simpa using h0
  have f0 : (off != 0) = true := by simpa using h0
  have a0 := ha.1
  have a1 := ha.2
  have b0 := hb.1
  have b1 := hb.2
  go_enter Try.func77, Try.ntmps77
  go_wp2_with fail
  refine (rcutG_32 _ ha _).mono ?_
  rintro e w1 ⟨rfl, rfl⟩
  go_wp2_with fail
  refine (rcutG_32 _ hb _).mono ?_
  rintro e w2 ⟨rfl, rfl⟩
  go_wp2_with fail
  all_goals
    go_ret2
    exact ⟨rfl, 0, rfl⟩
theorem rdoE32_96 (a b : Int) (ha : U64 a) (hb : U64 b) (off : Int) (h0 : ¬ off = 0) : ∃ n, DoOk 96 false off a b n := by
  refine ⟨0, u64_z, 1, fun w => ?_⟩
  have e0 : (off == 0) = false := by simpa using h0
  have f0 : (off != 0) = true := by simpa using h0
  have a0 := ha.1
  have a1 := ha.2
  have b0 := hb.1
  have b1 := hb.2
  go_enter Try.func77, Try.ntmps77
  go_wp2_with fail
  refine (rcutG_32 _ ha _).mono ?_
  rintro e w1 ⟨rfl, rfl⟩
  go_wp2_with fail
  refine (rcutG_32 _ hb _).mono ?_
  rintro e w2 ⟨rfl, rfl⟩
  go_wp2_with fail
  all_goals
    go_ret2
    exact ⟨rfl, 0, rfl⟩
theorem rdoE32_112 (a b : Int) (ha : U64 a) (hb : U64 b) (off : Int) (h0 : ¬ off = 0) : ∃ n, DoOk 112 false off a b n := by
  refine ⟨0, u64_z, 1, fun w => ?_⟩
  have e0 : (off == 0) = false := by simpa using h0
  have f0 : (off != 0) = true := by simpa using h0
  have a0 := ha.1
  have a1 := ha.2
  have b0 := hb.1
  have b1 := hb.2
  go_enter Try.func77, Try.ntmps77
  go_wp2_with fail
  refine (rcutG_32 _ ha _).mono ?_
  rintro e w1 ⟨rfl, rfl⟩
  go_wp2_with fail
  refine (rcutG_32 _ hb _).mono ?_
  rintro e w2 ⟨rfl, rfl⟩
  go_wp2_with fail
  all_goals
    go_ret2
    exact ⟨rfl, 0, rfl⟩
theorem rdoE32_192y (a b : Int) (ha : U64 a) (hb : U64 b) (off : Int) (h0 : ¬ off = 0) (hg : ((a % 4294967296) / 2147483648 == 1) = true) : ∃ n, DoOk 192 false off a b n := by
  have hn := fun w => rneg32 (a % 4294967296) u64_mod32 w
  rw [hg] at hn
  clear hg
  have hc := fun w => rcutG_32 (18446744073709551615) ⟨by decide, by decide⟩ w
  refine ⟨0, u64_z, 1, fun w => ?_⟩
  have e0 : (off == 0) = false := by simpa using h0
  have f0 : (off != 0) = true := by simpa using h0
  have a0 := ha.1
  have a1 := ha.2
  have b0 := hb.1
  have b1 := hb.2
  go_enter Try.func77, Try.ntmps77
  go_wp2_with fail
  refine (rcutG_32 _ ha _).mono ?_
  rintro e w1 ⟨rfl, rfl⟩
  go_wp2_with fail
  refine (rcutG_32 _ hb _).mono ?_
  rintro e w2 ⟨rfl, rfl⟩
  go_wp2_with fail
  refine (hn _).mono ?_
  rintro e w4 ⟨rfl, rfl⟩
  go_wp2_with fail
  refine (hc _).mono ?_
  rintro e w4 ⟨rfl, rfl⟩
  go_wp2_with fail
  all_goals
    go_ret2
    exact ⟨rfl, 0, rfl⟩
theorem rdoE32_192n (a b : Int) (ha : U64 a) (hb : U64 b) (off : Int) (h0 : ¬ off = 0) (hg : ((a % 4294967296) / 2147483648 == 1) = false) : ∃ n, DoOk 192 false off a b n := by
  have hn := fun w => rneg32 (a % 4294967296) u64_mod32 w
  rw [hg] at hn
  clear hg
  refine ⟨0, u64_z, 1, fun w => ?_⟩
  have e0 : (off == 0) = false := by simpa using h0
  have f0 : (off != 0) = true := by simpa using h0
  have a0 := ha.1
  have a1 := ha.2
  have b0 := hb.1
  have b1 := hb.2
  go_enter Try.func77, Try.ntmps77
  go_wp2_with fail
  refine (rcutG_32 _ ha _).mono ?_
  rintro e w1 ⟨rfl, rfl⟩
  go_wp2_with fail
  refine (rcutG_32 _ hb _).mono ?_
  rintro e w2 ⟨rfl, rfl⟩
  go_wp2_with fail
  refine (hn _).mono ?_
  rintro e w4 ⟨rfl, rfl⟩
  go_wp2_with fail
  all_goals
    go_ret2
    exact ⟨rfl, 0, rfl⟩
theorem rdoE32_48 (a b : Int) (ha : U64 a) (hb : U64 b) (off : Int) (h0 : ¬ off = 0) (h1 : ¬ off = 1) : ∃ n, DoOk 48 false off a b n := by
  refine ⟨0, u64_z, 1, fun w => ?_⟩
  have e0 : (off == 0) = false := by simpa using h0
  have f0 : (off != 0) = true := by simpa using h0
  have e1 : (off == 1) = false := by simpa using h1
  have f1 : (off != 1) = true := by simpa using h1
  have a0 := ha.1
  have a1 := ha.2
  have b0 := hb.1
  have b1 := hb.2
  go_enter Try.func77, Try.ntmps77
  go_wp2_with fail
  refine (rcutG_32 _ ha _).mono ?_
  rintro e w1 ⟨rfl, rfl⟩
  go_wp2_with fail
  refine (rcutG_32 _ hb _).mono ?_
  rintro e w2 ⟨rfl, rfl⟩
  go_wp2_with fail
  all_goals
    go_ret2
    exact ⟨rfl, 0, rfl⟩
theorem rdoS32_48 (a b : Int) (ha : U64 a) (hb : U64 b) : ∃ n, DoOk 48 false 1 a b n := by
  obtain ⟨q, r, hqu, hru, hp⟩ := rparts32s (a % 4294967296) (b % 4294967296) (by omega) (by omega)
  refine ⟨q, hqu, 0, fun w => ?_⟩
  have a0 := ha.1
  have a1 := ha.2
  have b0 := hb.1
  have b1 := hb.2
  go_enter Try.func77, Try.ntmps77
  go_wp2_with fail
  refine (rcutG_32 _ ha _).mono ?_
  rintro e w1 ⟨rfl, rfl⟩
  go_wp2_with fail
  refine (rcutG_32 _ hb _).mono ?_
  rintro e w2 ⟨rfl, rfl⟩
  go_wp2_with fail
  refine (hp _).mono ?_
  rintro e w3 ⟨rfl, n3, rfl⟩
  go_wp2_with fail
  all_goals
    go_ret2
    exact ⟨rfl, n3, rfl⟩
theorem rdoE32_144 (a b : Int) (ha : U64 a) (hb : U64 b) (off : Int) (h0 : ¬ off = 0) (h1 : ¬ off = 1) : ∃ n, DoOk 144 false off a b n := by
  refine ⟨0, u64_z, 1, fun w => ?_⟩
  have e0 : (off == 0) = false := by simpa using h0
  have f0 : (off != 0) = true := by simpa using h0
  have e1 : (off == 1) = false := by simpa using h1
  have f1 : (off != 1) = true := by simpa using h1
  have a0 := ha.1
  have a1 := ha.2
  have b0 := hb.1
  have b1 := hb.2
  go_enter Try.func77, Try.ntmps77
  go_wp2_with fail
  refine (rcutG_32 _ ha _).mono ?_
  rintro e w1 ⟨rfl, rfl⟩
  go_wp2_with fail
  refine (rcutG_32 _ hb _).mono ?_
  rintro e w2 ⟨rfl, rfl⟩
  go_wp2_with fail
  all_goals
    go_ret2
    exact ⟨rfl, 0, rfl⟩
theorem rdoS32_144 (a b : Int) (ha : U64 a) (hb : U64 b) : ∃ n, DoOk 144 false 1 a b n := by
  obtain ⟨q, r, hqu, hru, hp⟩ := rparts32s (a % 4294967296) (b % 4294967296) (by omega) (by omega)
  refine ⟨r, hru, 0, fun w => ?_⟩
  have a0 := ha.1
  have a1 := ha.2
  have b0 := hb.1
  have b1 := hb.2
  go_enter Try.func77, Try.ntmps77
  go_wp2_with fail
  refine (rcutG_32 _ ha _).mono ?_
  rintro e w1 ⟨rfl, rfl⟩
  go_wp2_with fail
  refine (rcutG_32 _ hb _).mono ?_
  rintro e w2 ⟨rfl, rfl⟩
  go_wp2_with fail
  refine (hp _).mono ?_
  rintro e w3 ⟨rfl, n3, rfl⟩
  go_wp2_with fail
  all_goals
    go_ret2
    exact ⟨rfl, n3, rfl⟩
theorem rdoU32 (a b : Int) (ha : U64 a) (hb : U64 b) (op off : Int) (h176 : ¬ op = 176) (h48 : ¬ op = 48) (h144 : ¬ op = 144) (h0 : ¬ op = 0) (h16 : ¬ op = 16) (h32 : ¬ op = 32) (h64 : ¬ op = 64) (h80 : ¬ op = 80) (h160 : ¬ op = 160) (h128 : ¬ op = 128) (h96 : ¬ op = 96) (h112 : ¬ op = 112) (h192 : ¬ op = 192) : ∃ n, DoOk op false off a b n := by
  refine ⟨0, u64_z, 1, fun w => ?_⟩
  have a0 := ha.1
  have a1 := ha.2
  have b0 := hb.1
  have b1 := hb.2
  go_enter Try.func77, Try.ntmps77
  go_wp2_with fail
  refine (rcutG_32 _ ha _).mono ?_
  rintro e w1 ⟨rfl, rfl⟩
  go_wp2_with fail
  refine (rcutG_32 _ hb _).mono ?_
  rintro e w2 ⟨rfl, rfl⟩
  go_wp2_with fail
  all_goals
    go_ret2
    exact ⟨rfl, 0, rfl⟩
theorem do_of {op : Int} {wide : Bool} {a b n : Int} (h : ∀ w, Calls Try.prog 77 #[.int .u8 op, .bool wide, .int .i16 0, .int .u64 a, .int .u64 b] w fun e w' => e = .returned (.tuple #[.int .u64 n, .int .i64 0]) ∧ ∃ k, w' = w.drewN k) (hn : U64 n) : ∃ n, DoOk op wide 0 a b n := ⟨n, hn, 0, h⟩
theorem rdo_all64 (op off a b : Int) (ha : U64 a) (hb : U64 b) : ∃ n, DoOk op true off a b n := by
  by_cases k176 : op = 176
  · subst k176
    by_cases h0 : off = 0
    · subst h0
      exact do_of (fun w => rdo_mov64 a b ha hb w) (by first | exact hb | exact ha | exact u64_z | exact u64_wrap _ | exact u64_mod32 | exact u64_bits ha hb _ (by simp) | exact u64_div ha.1 ha | exact u64_div' ha hb.1 | exact u64_mod' ha hb.1 hz)
    by_cases h8 : off = 8
    · subst h8; exact rdoX64_8 a b ha hb
    by_cases h16 : off = 16
    · subst h16; exact rdoX64_16 a b ha hb
    by_cases h32 : off = 32
    · subst h32; exact rdoX64_32 a b ha hb
    exact rdoXe64 a b ha hb off h0 h8 h16 h32
  by_cases k48 : op = 48
  · subst k48
    by_cases h0 : off = 0
    · subst h0
      by_cases hz : b = 0
      · exact do_of (fun w => rdo_div64z a b ha hb hz w) (by first | exact hb | exact ha | exact u64_z | exact u64_wrap _ | exact u64_mod32 | exact u64_bits ha hb _ (by simp) | exact u64_div ha.1 ha | exact u64_div' ha hb.1 | exact u64_mod' ha hb.1 hz)
      · exact do_of (fun w => rdo_div64n a b ha hb hz w) (by first | exact hb | exact ha | exact u64_z | exact u64_wrap _ | exact u64_mod32 | exact u64_bits ha hb _ (by simp) | exact u64_div ha.1 ha | exact u64_div' ha hb.1 | exact u64_mod' ha hb.1 hz)
    by_cases h1 : off = 1
    · subst h1; exact rdoS64_48 a b ha hb
    · exact rdoE64_48 a b ha hb off h0 h1
  by_cases k144 : op = 144
  · subst k144
    by_cases h0 : off = 0
    · subst h0
      by_cases hz : b = 0
      · exact do_of (fun w => rdo_mod64z a b ha hb hz w) (by first | exact hb | exact ha | exact u64_z | exact u64_wrap _ | exact u64_mod32 | exact u64_bits ha hb _ (by simp) | exact u64_div ha.1 ha | exact u64_div' ha hb.1 | exact u64_mod' ha hb.1 hz)
      · exact do_of (fun w => rdo_mod64n a b ha hb hz w) (by first | exact hb | exact ha | exact u64_z | exact u64_wrap _ | exact u64_mod32 | exact u64_bits ha hb _ (by simp) | exact u64_div ha.1 ha | exact u64_div' ha hb.1 | exact u64_mod' ha hb.1 hz)
    by_cases h1 : off = 1
    · subst h1; exact rdoS64_144 a b ha hb
    · exact rdoE64_144 a b ha hb off h0 h1
  by_cases k0 : op = 0
  · subst k0
    by_cases h0 : off = 0
    · subst h0
      exact do_of (fun w => rdo_add64 a b ha hb w) (by first | exact hb | exact ha | exact u64_z | exact u64_wrap _ | exact u64_mod32 | exact u64_bits ha hb _ (by simp) | exact u64_div ha.1 ha | exact u64_div' ha hb.1 | exact u64_mod' ha hb.1 hz)
    exact rdoE64_0 a b ha hb off h0
  by_cases k16 : op = 16
  · subst k16
    by_cases h0 : off = 0
    · subst h0
      exact do_of (fun w => rdo_sub64 a b ha hb w) (by first | exact hb | exact ha | exact u64_z | exact u64_wrap _ | exact u64_mod32 | exact u64_bits ha hb _ (by simp) | exact u64_div ha.1 ha | exact u64_div' ha hb.1 | exact u64_mod' ha hb.1 hz)
    exact rdoE64_16 a b ha hb off h0
  by_cases k32 : op = 32
  · subst k32
    by_cases h0 : off = 0
    · subst h0
      exact do_of (fun w => rdo_mul64 a b ha hb w) (by first | exact hb | exact ha | exact u64_z | exact u64_wrap _ | exact u64_mod32 | exact u64_bits ha hb _ (by simp) | exact u64_div ha.1 ha | exact u64_div' ha hb.1 | exact u64_mod' ha hb.1 hz)
    exact rdoE64_32 a b ha hb off h0
  by_cases k64 : op = 64
  · subst k64
    by_cases h0 : off = 0
    · subst h0
      exact do_of (fun w => rdo_or64 a b ha hb w) (by first | exact hb | exact ha | exact u64_z | exact u64_wrap _ | exact u64_mod32 | exact u64_bits ha hb _ (by simp) | exact u64_div ha.1 ha | exact u64_div' ha hb.1 | exact u64_mod' ha hb.1 hz)
    exact rdoE64_64 a b ha hb off h0
  by_cases k80 : op = 80
  · subst k80
    by_cases h0 : off = 0
    · subst h0
      exact do_of (fun w => rdo_and64 a b ha hb w) (by first | exact hb | exact ha | exact u64_z | exact u64_wrap _ | exact u64_mod32 | exact u64_bits ha hb _ (by simp) | exact u64_div ha.1 ha | exact u64_div' ha hb.1 | exact u64_mod' ha hb.1 hz)
    exact rdoE64_80 a b ha hb off h0
  by_cases k160 : op = 160
  · subst k160
    by_cases h0 : off = 0
    · subst h0
      exact do_of (fun w => rdo_xor64 a b ha hb w) (by first | exact hb | exact ha | exact u64_z | exact u64_wrap _ | exact u64_mod32 | exact u64_bits ha hb _ (by simp) | exact u64_div ha.1 ha | exact u64_div' ha hb.1 | exact u64_mod' ha hb.1 hz)
    exact rdoE64_160 a b ha hb off h0
  by_cases k128 : op = 128
  · subst k128
    by_cases h0 : off = 0
    · subst h0
      exact rdoN64 a b ha hb
    exact rdoE64_128 a b ha hb off h0
  by_cases k96 : op = 96
  · subst k96
    by_cases h0 : off = 0
    · subst h0
      exact do_of (fun w => rdo_lsh64 a b ha hb w) (by first | exact hb | exact ha | exact u64_z | exact u64_wrap _ | exact u64_mod32 | exact u64_bits ha hb _ (by simp) | exact u64_div ha.1 ha | exact u64_div' ha hb.1 | exact u64_mod' ha hb.1 hz)
    exact rdoE64_96 a b ha hb off h0
  by_cases k112 : op = 112
  · subst k112
    by_cases h0 : off = 0
    · subst h0
      exact do_of (fun w => rdo_rsh64 a b ha hb w) (by first | exact hb | exact ha | exact u64_z | exact u64_wrap _ | exact u64_mod32 | exact u64_bits ha hb _ (by simp) | exact u64_div ha.1 ha | exact u64_div' ha hb.1 | exact u64_mod' ha hb.1 hz)
    exact rdoE64_112 a b ha hb off h0
  by_cases k192 : op = 192
  · subst k192
    by_cases h0 : off = 0
    · subst h0
      cases hg : (a / 9223372036854775808 == 1)
      · exact do_of (fun w => rdo_arsh64n a b ha hb hg w) (by first | exact hb | exact ha | exact u64_z | exact u64_wrap _ | exact u64_mod32 | exact u64_bits ha hb _ (by simp) | exact u64_div ha.1 ha | exact u64_div' ha hb.1 | exact u64_mod' ha hb.1 hz)
      · exact do_of (fun w => rdo_arsh64y a b ha hb hg w) (by first | exact hb | exact ha | exact u64_z | exact u64_wrap _ | exact u64_mod32 | exact u64_bits ha hb _ (by simp) | exact u64_div ha.1 ha | exact u64_div' ha hb.1 | exact u64_mod' ha hb.1 hz)
    cases hg : (a / 9223372036854775808 == 1)
    · exact rdoE64_192n a b ha hb off h0 hg
    · exact rdoE64_192y a b ha hb off h0 hg
  exact rdoU64 a b ha hb op off k176 k48 k144 k0 k16 k32 k64 k80 k160 k128 k96 k112 k192
theorem rdo_all32 (op off a b : Int) (ha : U64 a) (hb : U64 b) : ∃ n, DoOk op false off a b n := by
  by_cases k176 : op = 176
  · subst k176
    by_cases h0 : off = 0
    · subst h0
      exact do_of (fun w => rdo_mov32 a b ha hb w) (by first | exact u64_z | exact u64_mod32 | exact u64_div' u64_mod32 (by omega) | exact u64_mod' u64_mod32 (by omega) hz)
    by_cases h8 : off = 8
    · subst h8; exact rdoX32_8 a b ha hb
    by_cases h16 : off = 16
    · subst h16; exact rdoX32_16 a b ha hb
    exact rdoXe32 a b ha hb off h0 h8 h16
  by_cases k48 : op = 48
  · subst k48
    by_cases h0 : off = 0
    · subst h0
      by_cases hz : b % 4294967296 = 0
      · exact do_of (fun w => rdo_div32z a b ha hb hz w) (by first | exact u64_z | exact u64_mod32 | exact u64_div' u64_mod32 (by omega) | exact u64_mod' u64_mod32 (by omega) hz)
      · exact do_of (fun w => rdo_div32n a b ha hb hz w) (by first | exact u64_z | exact u64_mod32 | exact u64_div' u64_mod32 (by omega) | exact u64_mod' u64_mod32 (by omega) hz)
    by_cases h1 : off = 1
    · subst h1; exact rdoS32_48 a b ha hb
    · exact rdoE32_48 a b ha hb off h0 h1
  by_cases k144 : op = 144
  · subst k144
    by_cases h0 : off = 0
    · subst h0
      by_cases hz : b % 4294967296 = 0
      · exact do_of (fun w => rdo_mod32z a b ha hb hz w) (by first | exact u64_z | exact u64_mod32 | exact u64_div' u64_mod32 (by omega) | exact u64_mod' u64_mod32 (by omega) hz)
      · exact do_of (fun w => rdo_mod32n a b ha hb hz w) (by first | exact u64_z | exact u64_mod32 | exact u64_div' u64_mod32 (by omega) | exact u64_mod' u64_mod32 (by omega) hz)
    by_cases h1 : off = 1
    · subst h1; exact rdoS32_144 a b ha hb
    · exact rdoE32_144 a b ha hb off h0 h1
  by_cases k0 : op = 0
  · subst k0
    by_cases h0 : off = 0
    · subst h0
      exact do_of (fun w => rdo_add32 a b ha hb w) (by first | exact u64_z | exact u64_mod32 | exact u64_div' u64_mod32 (by omega) | exact u64_mod' u64_mod32 (by omega) hz)
    exact rdoE32_0 a b ha hb off h0
  by_cases k16 : op = 16
  · subst k16
    by_cases h0 : off = 0
    · subst h0
      exact do_of (fun w => rdo_sub32 a b ha hb w) (by first | exact u64_z | exact u64_mod32 | exact u64_div' u64_mod32 (by omega) | exact u64_mod' u64_mod32 (by omega) hz)
    exact rdoE32_16 a b ha hb off h0
  by_cases k32 : op = 32
  · subst k32
    by_cases h0 : off = 0
    · subst h0
      exact do_of (fun w => rdo_mul32 a b ha hb w) (by first | exact u64_z | exact u64_mod32 | exact u64_div' u64_mod32 (by omega) | exact u64_mod' u64_mod32 (by omega) hz)
    exact rdoE32_32 a b ha hb off h0
  by_cases k64 : op = 64
  · subst k64
    by_cases h0 : off = 0
    · subst h0
      exact do_of (fun w => rdo_or32 a b ha hb w) (by first | exact u64_z | exact u64_mod32 | exact u64_div' u64_mod32 (by omega) | exact u64_mod' u64_mod32 (by omega) hz)
    exact rdoE32_64 a b ha hb off h0
  by_cases k80 : op = 80
  · subst k80
    by_cases h0 : off = 0
    · subst h0
      exact do_of (fun w => rdo_and32 a b ha hb w) (by first | exact u64_z | exact u64_mod32 | exact u64_div' u64_mod32 (by omega) | exact u64_mod' u64_mod32 (by omega) hz)
    exact rdoE32_80 a b ha hb off h0
  by_cases k160 : op = 160
  · subst k160
    by_cases h0 : off = 0
    · subst h0
      exact do_of (fun w => rdo_xor32 a b ha hb w) (by first | exact u64_z | exact u64_mod32 | exact u64_div' u64_mod32 (by omega) | exact u64_mod' u64_mod32 (by omega) hz)
    exact rdoE32_160 a b ha hb off h0
  by_cases k128 : op = 128
  · subst k128
    by_cases h0 : off = 0
    · subst h0
      exact rdoN32 a b ha hb
    exact rdoE32_128 a b ha hb off h0
  by_cases k96 : op = 96
  · subst k96
    by_cases h0 : off = 0
    · subst h0
      exact do_of (fun w => rdo_lsh32 a b ha hb w) (by first | exact u64_z | exact u64_mod32 | exact u64_div' u64_mod32 (by omega) | exact u64_mod' u64_mod32 (by omega) hz)
    exact rdoE32_96 a b ha hb off h0
  by_cases k112 : op = 112
  · subst k112
    by_cases h0 : off = 0
    · subst h0
      exact do_of (fun w => rdo_rsh32 a b ha hb w) (by first | exact u64_z | exact u64_mod32 | exact u64_div' u64_mod32 (by omega) | exact u64_mod' u64_mod32 (by omega) hz)
    exact rdoE32_112 a b ha hb off h0
  by_cases k192 : op = 192
  · subst k192
    by_cases h0 : off = 0
    · subst h0
      cases hg : ((a % 4294967296) / 2147483648 == 1)
      · exact do_of (fun w => rdo_arsh32n a b ha hb hg w) (by first | exact u64_z | exact u64_mod32 | exact u64_div' u64_mod32 (by omega) | exact u64_mod' u64_mod32 (by omega) hz)
      · exact do_of (fun w => rdo_arsh32y a b ha hb hg w) (by first | exact u64_z | exact u64_mod32 | exact u64_div' u64_mod32 (by omega) | exact u64_mod' u64_mod32 (by omega) hz)
    cases hg : ((a % 4294967296) / 2147483648 == 1)
    · exact rdoE32_192n a b ha hb off h0 hg
    · exact rdoE32_192y a b ha hb off h0 hg
  exact rdoU32 a b ha hb op off k176 k48 k144 k0 k16 k32 k64 k80 k160 k128 k96 k112 k192
theorem rdo_ok (op : Int) (wide : Bool) (off a b : Int) (ha : U64 a) (hb : U64 b) : ∃ n, DoOk op wide off a b n := by
  cases wide
  · exact rdo_all32 op off a b ha hb
  · exact rdo_all64 op off a b ha hb
end
end Go.Proofs.Ytncogaikiceidaa
