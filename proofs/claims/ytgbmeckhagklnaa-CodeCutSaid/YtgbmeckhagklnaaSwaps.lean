/- The program's swaps, at every instruction. No statement is proved here. -/
import Derived.Test.YtgbmeckhagklnaaSwapsA
import Derived.Test.YtgbmeckhagklnaaSwapsB
import Derived.Test.YtgbmeckhagklnaaSwapsC
namespace Go.Proofs.Ytgbmeckhagklnaa
open Go.RowKit
set_option linter.unusedSimpArgs false
set_option linter.unusedVariables false
theorem swaps_any (x : Insn) (hx : x.Ok) (w : World) : Calls Try.prog 98 #[x.val] w (WhatAnd w (swapsM x)) := by
  by_cases hd : x.dst = 10
  · exact swaps_ten x hx w hd
  cases hz : zerosB x true true false
  · exact swaps_no x hx w ⟨hd, hz⟩
  cases h16 : (x.imm == 16)
  · cases h32 : (x.imm == 32)
    · cases h64 : (x.imm == 64)
      · exact swaps_other x hx w ⟨hd, hz, h16, h32, h64⟩
      · exact swaps_i64 x hx w ⟨hd, hz, h16, h32, h64⟩
    · exact swaps_i32 x hx w ⟨hd, hz, h16, h32⟩
  · exact swaps_i16 x hx w ⟨hd, hz, h16⟩
end Go.Proofs.Ytgbmeckhagklnaa
