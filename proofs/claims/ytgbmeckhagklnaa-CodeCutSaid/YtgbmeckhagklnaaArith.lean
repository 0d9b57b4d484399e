/- The program's arith, at every instruction. No statement is proved here. -/
import Derived.Test.YtgbmeckhagklnaaArithA
import Derived.Test.YtgbmeckhagklnaaArithB
import Derived.Test.YtgbmeckhagklnaaArithC
namespace Go.Proofs.Ytgbmeckhagklnaa
open Go.RowKit
set_option linter.unusedSimpArgs false
set_option linter.unusedVariables false
theorem arith_any (x : Insn) (hx : x.Ok) (w : World) : Calls Try.prog 99 #[x.val] w (WhatAnd w (arithM x)) := by
  have h0 := hx.op0
  have h1 := hx.op1
  by_cases h11 : x.op / 16 = 11
  · exact arith_mov x hx w h11
  by_cases h8 : x.op / 16 = 8
  · exact arith_neg x hx w h8
  by_cases h3 : x.op / 16 = 3 ∨ x.op / 16 = 9
  · exact arith_div x hx w h3
  by_cases h13 : x.op / 16 = 13 ∨ x.op / 16 = 14 ∨ x.op / 16 = 15
  · exact arith_none x hx w h13
  · exact arith_plain x hx w (by omega)
end Go.Proofs.Ytgbmeckhagklnaa
