/- Slices of instructions, and numbers, as arguments, opened. No statement is proved here. -/
import Derived.Test.YtncogaikiceidaaGreatRow
import Derived.Test.YtncogaikiceidaaGreatList
namespace Go.Proofs.YtncogaikiceidaaGreat
open Go.ChangeShapes Go.WideShapes Go.ChangeAt Go.RowKit Go.Deep
set_option linter.unusedSimpArgs false
set_option linter.unusedVariables false
section
variable {H : Type} {enc : TypeId × Value → H} {w : World} {held : Bool}
theorem spot_none {a : Addr} {u : Value} (h0 : w.cell? (a.add 0) = some u) : a.spot = none := by
  obtain ⟨b, o, spot⟩ := a
  cases spot with
  | none => rfl
  | some s =>
    simp only [Addr.add, if_true, World.cell?] at h0
    split at h0 <;> simp at h0
set_option maxRecDepth 100000 in
theorem open_insns {v : Value} {r : Reach} {b0 : Nat} {d : DataW H} {p : List MemPlace} (hv : Value.okWide Tryz.prog w r b0 24 v) (h : DataW.Trod enc Tryz.prog w 0 (fun _ => true) held 24 v d p) :
    ∃ (A : Option Addr) (c : Nat) (l : List Insn), v = .slice A l.length c ∧ l.length ≤ c ∧ c ≤ maxLen ∧ (∀ x ∈ l, x.Ok) ∧ SAt w w.heap.size 5 A l.length (insnsV l) := by
  obtain ⟨a0, len, cap, rfl⟩ := okWide_slice Tryz.underlying24 hv
  obtain ⟨fuel, hf⟩ := h
  rcases open_slice Tryz.underlying24 hf with ⟨hcs, _⟩ | ⟨a, len', cap', m, n, D, Pl, hcs, _, hl, hm, hmm, hx, hi⟩
  · simp only [Value.cells, List.cons.injEq, Value.slice.injEq, and_true] at hcs
    obtain ⟨rfl, rfl, rfl⟩ := hcs
    exact ⟨none, 0, [], rfl, Nat.le_refl _, by simp [maxLen], (fun b hb => absurd hb (List.not_mem_nil)), SAt.nil_⟩
  · simp only [Value.cells, List.cons.injEq, Value.slice.injEq, and_true] at hcs
    obtain ⟨rfl, rfl, rfl⟩ := hcs
    simp only [if_true] at hmm
    have hone : ∀ i, ∃ x : Insn, x.Ok ∧ (i < len → ∀ j u, x.cells[j]? = some u → w.cell? (a.add (i * 5 + j)) = some u) := by
      intro i
      rcases Nat.lt_or_ge i len with hlt | hge
      · obtain ⟨cs', hc, ht'⟩ := hi i (by omega)
        rw [cells24] at hc
        obtain ⟨_, hcl, hat⟩ := World.cells?_some hc
        match cs', hcl with
        | [c0, c1, c2, c3, c4], _ =>
          obtain ⟨x, hx, he⟩ := insn_cells ht'
          refine ⟨x, hx, fun _ j u hu => ?_⟩
          rw [← he] at hu
          have hj : j < 5 := by
            rcases Nat.lt_or_ge j 5 with hj | hj
            · exact hj
            · rw [List.getElem?_eq_none (by simpa using hj)] at hu; cases hu
          rw [← Go.Deep.add_add, hat j hj, hu]
      · exact ⟨Insn.zero, Insn.zero_ok, fun h => absurd h (by omega)⟩
    have hlen : ((List.range len).map fun i => Classical.choose (hone i)).length = len := by simp
    refine ⟨some a, cap, (List.range len).map fun i => Classical.choose (hone i), by rw [hlen], by omega, hm, ?_, by rw [insnsV_length], fun hpos => ?_⟩
    · intro x hx
      obtain ⟨i, _, rfl⟩ := List.mem_map.1 hx
      exact (Classical.choose_spec (hone i)).1
    · rw [hlen] at hpos
      have h0 := (Classical.choose_spec (hone 0)).2 hpos 0 _ rfl
      have hs := spot_none h0
      obtain ⟨b, o, spot⟩ := a
      simp only at hs
      subst hs
      rw [addr_add] at h0
      refine ⟨b, o, rfl, block_lt_of_cell h0, fun j u hu => ?_⟩
      have hj : j < len * 5 := by
        rcases Nat.lt_or_ge j (len * 5) with hj | hj
        · exact hj
        · rw [List.getElem?_eq_none (by rw [insnsV_length, hlen]; exact hj)] at hu; cases hu
      have e : j = j / 5 * 5 + j % 5 := by omega
      rw [e] at hu ⊢
      rw [insnsV_get (by rw [hlen]; omega) (by omega)] at hu
      have h1 := (Classical.choose_spec (hone (j / 5))).2 (by omega) (j % 5) u
      rw [addr_add] at h1
      refine h1 ?_
      rw [← hu, at_get (by rw [hlen]; omega)]
      simp
theorem int_cells {v : Value} {k : IntKind} {n : Int} (e : v.cells.toList = [.int k n]) (hne : ∀ cs, v ≠ .agg cs) : v = .int k n := by
  cases v with
  | agg cs => exact absurd rfl (hne cs)
  | _ => first | (simp [Value.cells] at e; done) | (simp [Value.cells] at e; exact (by simp [e]))
end
end Go.Proofs.YtncogaikiceidaaGreat
