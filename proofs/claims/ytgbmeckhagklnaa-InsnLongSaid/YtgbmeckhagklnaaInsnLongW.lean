/- The law InsnLong, walked. -/
import Derived.Test.YtgbmeckhagklnaaInsn5
namespace Go.Proofs.Ytgbmeckhagklnaa
open Go.RowKit
theorem insnLong_walk (x y : Insn) (a b : Int) (ha0 : -2147483648 ≤ a) (ha1 : a ≤ 2147483647) (hb0 : -2147483648 ≤ b) (hb1 : b ≤ 2147483647) (w : World) : Calls Try.prog 4 #[x.val, y.val, .int .i32 a, .int .i32 b] w fun e w' => e = .returned (.bool true) ∧ Below w.heap.size w w' := by
  go_enter Try.func4, Try.ntmps4
  go_wp2_with fail
  refine (shown_insn _).mono ?_
  rintro e w1 ⟨rfl, h1⟩
  have c0 := fun j => h1.cell (p := ⟨w.heap.size, j, none⟩) (by simp; omega)
  have c1 := fun j => h1.cell (p := ⟨w.heap.size + 1, j, none⟩) (by simp)
  have f0 := fun j => h1.frozen (p := ⟨w.heap.size, j, none⟩) (by simp; omega)
  have f1 := fun j => h1.frozen (p := ⟨w.heap.size + 1, j, none⟩) (by simp)
  have hsz := h1.size
  simp at hsz
  go_wp2_with fail
  refine (long_any ⟨x.op, x.dst, x.src, x.off, a⟩ ⟨y.op, y.dst, y.src, y.off, b⟩ _).mono ?_
  rintro e w2 ⟨rfl, h2⟩
  have e1 : longI a b % 4294967296 = a % 4294967296 := by unfold longI; omega
  have e2 : longI a b / 4294967296 = b % 4294967296 := by unfold longI; omega
  have e3 : wrap32 (a % 4294967296) = a := by unfold wrap32; omega
  have e4 : wrap32 (b % 4294967296) = b := by unfold wrap32; omega
  have e5 : wrap32 (longI a b) = a := by unfold wrap32 longI; omega
  clear c0 c1 f0 f1
  simp only
  go_wp2_with fail
  refine (long_any ⟨0, 0, 0, 0, a⟩ ⟨0, 0, 0, 0, b⟩ _).mono ?_
  rintro e w3 ⟨rfl, h3⟩
  have hfin : Below w.heap.size w w3 := by
    refine Below.trans ?_ (h3.mono ?_)
    · refine Below.trans ?_ (h2.mono ?_)
      · refine Below.setCell (Below.setCell (Below.trans (((Below.refl _ _).alloc (Nat.le_refl _) _).alloc (by simp) _) (h1.mono ?_)) ?_ _) ?_ _
        · simp; omega
        · simp
        · simp
      · simp; omega
    · have := h2.size; simp at this; omega
  simp only
  clear h1 h2 h3
  go_wp2_with fail
  go_ret
  exact ⟨rfl, hfin⟩
end Go.Proofs.Ytgbmeckhagklnaa
