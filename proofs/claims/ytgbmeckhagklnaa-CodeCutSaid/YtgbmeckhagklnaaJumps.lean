/- The program's jumps, at every instruction. No statement is proved here. -/
import Derived.Test.YtgbmeckhagklnaaJumpsA
import Derived.Test.YtgbmeckhagklnaaJumpsB
namespace Go.Proofs.Ytgbmeckhagklnaa
open Go.RowKit
set_option linter.unusedSimpArgs false
set_option linter.unusedVariables false
theorem jumps_any (x : Insn) (hx : x.Ok) (w : World) : Calls Try.prog 100 #[x.val] w (WhatAnd w (jumpsM x)) := by
  have h0 := hx.op0
  have h1 := hx.op1
  cases h5 : (x.op == 5)
  · cases h6 : (x.op == 6)
    · cases h7 : (x.op == 133)
      · cases h8 : (x.op == 149)
        · have hn : x.op ≠ 5 ∧ x.op ≠ 6 ∧ x.op ≠ 133 ∧ x.op ≠ 149 := ⟨by simpa using h5, by simpa using h6, by simpa using h7, by simpa using h8⟩
          by_cases g0 : x.op / 16 = 0 ∨ x.op / 16 = 8 ∨ x.op / 16 = 9 ∨ x.op / 16 = 14 ∨ x.op / 16 = 15
          · exact jumps_none x hx w ⟨g0, hn⟩
          by_cases g1 : x.op / 16 = 1 ∨ x.op / 16 = 2 ∨ x.op / 16 = 3 ∨ x.op / 16 = 4 ∨ x.op / 16 = 5 ∨ x.op / 16 = 6
          · exact jumps_yesA x hx w ⟨g1, hn⟩
          · exact jumps_yesB x hx w ⟨by omega, hn⟩
        · exact jumps_j149 x hx w ⟨h5, h6, h7, h8⟩
      · exact jumps_j133 x hx w ⟨h5, h6, h7⟩
    · exact jumps_j6 x hx w ⟨h5, h6⟩
  · exact jumps_j5 x hx w h5
end Go.Proofs.Ytgbmeckhagklnaa
