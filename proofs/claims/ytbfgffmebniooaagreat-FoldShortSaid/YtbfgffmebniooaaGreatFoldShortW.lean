/- The law FoldShort, walked. No statement is proved here. -/
import Derived.Test.YtbfgffmebniooaaGreatFoldEx
namespace Go.Proofs.YtbfgffmebniooaaGreat
open Go.RowKit
set_option linter.unusedSimpArgs false
set_option linter.unusedVariables false
set_option linter.unnecessarySimpa false
set_option maxRecDepth 100000 in
set_option maxHeartbeats 8000000 in
theorem foldShort_walk (n : Int) (hn : U64 n) (w : World) :
    Calls Tryz.prog 4 #[.int .u64 n] w fun e w' => e = .returned (.bool true) ∧ Below w.heap.size w w' := by
  have h1 := fun w => short_any n hn w
  have h2 := fun w => rsign32_any n hn w
  have h3 := sign_short hn
  generalize shortB n = b at *
  generalize sign32 n = s at *
  go_enter Tryz.func4, Tryz.ntmps4
  go_wp2_with fail
  refine (shown19_any _).mono ?_
  rintro e w1 ⟨rfl, hb1⟩
  go_wp2_with fail
  refine (h1 _).mono ?_
  rintro e w2 ⟨rfl, rfl⟩
  go_wp2_with fail
  refine (h2 _).mono ?_
  rintro e w3 ⟨rfl, rfl⟩
  clear h1 h2
  go_wp2_with fail
  go_ret
  exact ⟨by simp, hb1⟩
end Go.Proofs.YtbfgffmebniooaaGreat
