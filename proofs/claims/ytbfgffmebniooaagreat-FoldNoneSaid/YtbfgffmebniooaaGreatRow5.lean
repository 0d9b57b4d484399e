/- Slices of yes and no, as arguments, opened. No statement is proved here. -/
import Derived.Test.YtbfgffmebniooaaGreatRow3
import Derived.Test.YtbfgffmebniooaaGreatLists
namespace Go.Proofs.YtbfgffmebniooaaGreat
open Go.ChangeShapes Go.WideShapes Go.ChangeAt Go.RowKit Go.Deep
set_option linter.unusedSimpArgs false
set_option linter.unusedVariables false
set_option linter.unnecessarySimpa false
section
variable {H : Type} {enc : TypeId × Value → H} {w : World} {held : Bool}
theorem cells4b : Tryz.prog.cellsOf 4 = 1 := by kernel_rfl
set_option maxRecDepth 100000 in
theorem open_bools {v : Value} {r : Reach} {b0 : Nat} {d : DataW H} {p : List MemPlace} (hv : Value.okWide Tryz.prog w r b0 33 v) (h : DataW.Trod enc Tryz.prog w 0 (fun _ => true) held 33 v d p) :
    ∃ (A : Option Addr) (c : Nat) (l : List Bool), v = .slice A l.length c ∧ l.length ≤ c ∧ c ≤ maxLen ∧ SAt w w.heap.size 1 A l.length (boolsV l) := by
  obtain ⟨a0, len, cap, rfl⟩ := okWide_slice Tryz.underlying33 hv
  obtain ⟨fuel, hf⟩ := h
  rcases open_slice Tryz.underlying33 hf with ⟨hcs, _⟩ | ⟨a, len', cap', m, n, D, Pl, hcs, _, hl, hm, hmm, hx, hi⟩
  · simp only [Value.cells, List.cons.injEq, Value.slice.injEq, and_true] at hcs
    obtain ⟨rfl, rfl, rfl⟩ := hcs
    exact ⟨none, 0, [], rfl, Nat.le_refl _, by simp [maxLen], SAt.nil_⟩
  · simp only [Value.cells, List.cons.injEq, Value.slice.injEq, and_true] at hcs
    obtain ⟨rfl, rfl, rfl⟩ := hcs
    simp only [if_true] at hmm
    have hone : ∀ i, ∃ x : Bool, i < len → w.cell? (a.add i) = some (.bool x) := by
      intro i
      rcases Nat.lt_or_ge i len with hlt | hge
      · obtain ⟨cs', hc, ht'⟩ := hi i (by omega)
        rw [cells4b] at hc
        obtain ⟨_, hcl, hat⟩ := World.cells?_some hc
        match cs', hcl with
        | [c0], _ =>
          obtain ⟨x, hx, _⟩ := DataW.trod_bool Tryz.underlying4 ht'
          simp only [List.cons.injEq, and_true] at hx
          subst hx
          refine ⟨x, fun _ => ?_⟩
          have := hat 0 (by omega)
          rw [Go.Deep.add_add] at this
          simpa using this
      · exact ⟨false, fun h => absurd h (by omega)⟩
    obtain ⟨xs, hxs⟩ : ∃ f : Nat → Bool, ∀ i, i < len → w.cell? (a.add i) = some (.bool (f i)) := ⟨fun i => Classical.choose (hone i), fun i => Classical.choose_spec (hone i)⟩
    clear hone hi hx
    have hlen : ((List.range len).map xs).length = len := by simp
    refine ⟨some a, cap, (List.range len).map xs, by rw [hlen], by omega, hm, by simp [boolsV], fun hpos => ?_⟩
    rw [hlen] at hpos
    have h0 := hxs 0 hpos
    have hs := spot_none h0
    obtain ⟨b, o, spot⟩ := a
    simp only at hs
    subst hs
    rw [addr_add] at h0
    refine ⟨b, o, rfl, block_lt_of_cell h0, fun j u hu => ?_⟩
    have hj : j < len := by
      rcases Nat.lt_or_ge j len with hj | hj
      · exact hj
      · rw [List.getElem?_eq_none (by simp [boolsV]; exact hj)] at hu; cases hu
    have h1 := hxs j hj
    rw [addr_add] at h1
    rw [h1]
    simp [boolsV, List.getElem?_range hj] at hu
    rw [← hu]
end
end Go.Proofs.YtbfgffmebniooaaGreat
