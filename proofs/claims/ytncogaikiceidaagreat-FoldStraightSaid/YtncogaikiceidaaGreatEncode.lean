/- Encode, of the program. No statement is proved here. -/
import Derived.Test.YtncogaikiceidaaGreatLists
namespace Go.Proofs.YtncogaikiceidaaGreat
open Go.RowKit
set_option linter.unusedSimpArgs false
set_option linter.unusedVariables false
set_option linter.unnecessarySimpa false
theorem own_max {w : World} {base e size n c : Nat} {A : Option Addr} {xs : List Value} (h : w.ownsRow base e size (.slice A n c) n xs) : c ≤ maxLen := by
  rcases h.2 with ⟨hv, h0⟩ | ⟨g, cap, cur, hv, _, _, hnc, hcm, _⟩
  · injection hv with _ _ hc
    rw [hc]; simp [maxLen]
  · injection hv with _ _ hc
    rw [hc]; exact hcm
/-- Behind Encode. -/
def EncOk (W : World) (r : List Int × Int × Int) (e : Ending) (w' : World) : Prop :=
  ∃ A c, e = .returned (.tuple #[.slice A r.1.length c, .int .i64 r.2.1, .int .i64 r.2.2]) ∧ SAt w' w'.heap.size 1 A r.1.length (bytesV r.1) ∧ r.1.length ≤ c ∧ c ≤ maxLen ∧ Below W.heap.size W w'
theorem bytes_one (l : List Int) : ∀ u ∈ bytesV l, u.oneCell' = true := by
  intro u hu
  obtain ⟨x, _, rfl⟩ := List.mem_map.1 hu
  rfl
end Go.Proofs.YtncogaikiceidaaGreat
