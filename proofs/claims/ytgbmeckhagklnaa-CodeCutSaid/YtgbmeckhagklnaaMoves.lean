/- The program's moves, at every instruction. No statement is proved here. -/
import Derived.Test.YtgbmeckhagklnaaMovesA
import Derived.Test.YtgbmeckhagklnaaMovesB
namespace Go.Proofs.Ytgbmeckhagklnaa
open Go.RowKit
set_option linter.unusedSimpArgs false
set_option linter.unusedVariables false
theorem moves_any (x : Insn) (hx : x.Ok) (w : World) : Calls Try.prog 101 #[x.val] w (WhatAnd w (movesM x)) := by
  by_cases c1 : x.op % 8 = 1
  · cases hd : (x.dst != 10)
    · cases h8 : (x.op / 32 * 32 == 128)
      · exact moves_l10b x hx w ⟨c1, hd, h8⟩
      · exact moves_l10 x hx w ⟨c1, hd, h8⟩
    · cases hi : (x.imm == 0)
      · cases h8 : (x.op / 32 * 32 == 128)
        · exact moves_lib x hx w ⟨c1, hd, hi, h8⟩
        · exact moves_li x hx w ⟨c1, hd, hi, h8⟩
      · cases h6 : (x.op / 32 * 32 == 96)
        · cases h8 : (x.op / 32 * 32 == 128)
          · exact moves_lno x hx w ⟨c1, hd, hi, h6, h8⟩
          · by_cases hz : sizeM x.op < 8
            · exact moves_l128y x hx w ⟨c1, hd, hi, h6, h8, hz⟩
            · exact moves_l128n x hx w ⟨c1, hd, hi, h6, h8, hz⟩
        · cases h8 : (x.op / 32 * 32 == 128)
          · exact moves_l96 x hx w ⟨c1, hd, hi, h6, h8⟩
          · simp at h6 h8; omega
  by_cases c2 : x.op % 8 = 2
  · cases h6 : (x.op / 32 * 32 == 96)
    · exact moves_sno x hx w ⟨c2, h6⟩
    · exact moves_s96 x hx w ⟨c2, h6⟩
  by_cases c3 : x.op % 8 = 3
  · cases h6 : (x.op / 32 * 32 == 96)
    · cases h9 : (x.op / 32 * 32 == 192)
      · exact moves_ano x hx w ⟨c3, h6, h9⟩
      · by_cases hz : 4 ≤ sizeM x.op
        · exact moves_at x hx w ⟨c3, h6, h9, hz⟩
        · exact moves_asz x hx w ⟨c3, h6, h9, hz⟩
    · exact moves_p96 x hx w ⟨c3, h6⟩
  · exact moves_none x hx w ⟨c1, c2, c3⟩
end Go.Proofs.Ytgbmeckhagklnaa
