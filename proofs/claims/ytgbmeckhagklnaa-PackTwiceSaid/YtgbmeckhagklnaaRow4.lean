/- Slices of what is told of places, as arguments, opened. No statement is proved here. -/
import Derived.Test.YtgbmeckhagklnaaRow3
import Derived.Test.YtgbmeckhagklnaaPackC
namespace Go.Proofs.Ytgbmeckhagklnaa
open Go.ChangeShapes Go.WideShapes Go.ChangeAt Go.RowKit Go.Deep
set_option linter.unusedSimpArgs false
set_option linter.unusedVariables false
section
variable {H : Type} {enc : TypeId × Value → H} {w : World} {held : Bool}
theorem cells71 : Try.prog.cellsOf 71 = 7 := by kernel_rfl
theorem cells5e : Try.prog.cellsOf 5 = 1 := by kernel_rfl
theorem cells3e : Try.prog.cellsOf 3 = 1 := by kernel_rfl
theorem fields71 : ∃ f0 f1 f2 : Field, Try.prog.underlying 71 = some (.struct #[f0, f1, f2]) ∧ f0.type = 5 ∧ f1.type = 24 ∧ f2.type = 3 ∧ f0.offset = 0 ∧ f1.offset = 1 ∧ f2.offset = 6 :=
  ⟨_, _, _, Try.underlying71, rfl, rfl, rfl, rfl, rfl, rfl⟩
theorem edit_cells {base fuel : Nat} {spare : Nat → Bool} {c0 c1 c2 c3 c4 c5 c6 : Value} {x : DataW H × List MemPlace}
    (h : DataW.trod enc Try.prog w base spare held fuel 71 [c0, c1, c2, c3, c4, c5, c6] = some x) : ∃ e : Edit, ((e.x.Ok ∧ -9223372036854775808 ≤ e.to ∧ e.to ≤ 9223372036854775807) ∧ 0 ≤ e.kind) ∧ [c0, c1, c2, c3, c4, c5, c6] = e.cells := by
  obtain ⟨f0, f1, f2, hs, t0, t1, t2, o0, o1, o2⟩ := fields71
  obtain ⟨xs, n, _, _, _, hlen, hg⟩ := DataW.trod_struct hs h
  match xs, hlen with
  | [y0, y1, y2], _ =>
    have g0 := hg 0 f0 rfl
    have g1 := hg 1 f1 rfl
    have g2 := hg 2 f2 rfl
    rw [t0, o0, cells5e] at g0
    rw [t1, o1, cells24] at g1
    rw [t2, o2, cells3e] at g2
    have g0' : DataW.trod enc Try.prog w base spare held n 5 [c0] = some y0 := g0
    have g1' : DataW.trod enc Try.prog w base spare held n 24 [c1, c2, c3, c4, c5] = some y1 := g1
    have g2' : DataW.trod enc Try.prog w base spare held n 3 [c6] = some y2 := g2
    obtain ⟨n0, e0, _, w0⟩ := DataW.trod_int Try.underlying5 g0'
    obtain ⟨n6, e6, _, w6⟩ := DataW.trod_int Try.underlying3 g2'
    obtain ⟨x, hx, he⟩ := insn_cells g1'
    simp only [List.cons.injEq, and_true] at e0 e6
    subst e0 e6
    simp only [Insn.cells, List.cons.injEq, and_true] at he
    obtain ⟨rfl, rfl, rfl, rfl, rfl⟩ := he
    exact ⟨⟨n0, x, n6⟩, ⟨⟨hx, (wf_i64 w6).1, (wf_i64 w6).2⟩, (wf_u8 w0).1⟩, rfl⟩
set_option maxRecDepth 100000 in
theorem open_edits {v : Value} {r : Reach} {b0 : Nat} {d : DataW H} {p : List MemPlace} (hv : Value.okWide Try.prog w r b0 68 v) (h : DataW.Trod enc Try.prog w 0 (fun _ => true) held 68 v d p) :
    ∃ (A : Option Addr) (c : Nat) (l : List Edit), v = .slice A l.length c ∧ l.length ≤ c ∧ c ≤ maxLen ∧ EOk l ∧ (∀ x ∈ l, 0 ≤ x.kind) ∧ SAt w w.heap.size 7 A l.length (editsV l) := by
  obtain ⟨a0, len, cap, rfl⟩ := okWide_slice Try.underlying68 hv
  obtain ⟨fuel, hf⟩ := h
  rcases open_slice Try.underlying68 hf with ⟨hcs, _⟩ | ⟨a, len', cap', m, n, D, Pl, hcs, _, hl, hm, hmm, hx, hi⟩
  · simp only [Value.cells, List.cons.injEq, Value.slice.injEq, and_true] at hcs
    obtain ⟨rfl, rfl, rfl⟩ := hcs
    exact ⟨none, 0, [], rfl, Nat.le_refl _, by simp [maxLen], (fun b hb => absurd hb (List.not_mem_nil)), (fun b hb => absurd hb (List.not_mem_nil)), SAt.nil_⟩
  · simp only [Value.cells, List.cons.injEq, Value.slice.injEq, and_true] at hcs
    obtain ⟨rfl, rfl, rfl⟩ := hcs
    simp only [if_true] at hmm
    have hone : ∀ i, ∃ x : Edit, ((x.x.Ok ∧ -9223372036854775808 ≤ x.to ∧ x.to ≤ 9223372036854775807) ∧ 0 ≤ x.kind) ∧ (i < len → ∀ j u, x.cells[j]? = some u → w.cell? (a.add (i * 7 + j)) = some u) := by
      intro i
      rcases Nat.lt_or_ge i len with hlt | hge
      · obtain ⟨cs', hc, ht'⟩ := hi i (by omega)
        rw [cells71] at hc
        obtain ⟨_, hcl, hat⟩ := World.cells?_some hc
        match cs', hcl with
        | [c0, c1, c2, c3, c4, c5, c6], _ =>
          obtain ⟨x, hx, he⟩ := edit_cells ht'
          refine ⟨x, hx, fun _ j u hu => ?_⟩
          rw [← he] at hu
          have hj : j < 7 := by
            rcases Nat.lt_or_ge j 7 with hj | hj
            · exact hj
            · rw [List.getElem?_eq_none (by simpa using hj)] at hu; cases hu
          rw [← Go.Deep.add_add, hat j hj, hu]
      · exact ⟨Edit.none, ⟨⟨Insn.zero_ok, by decide, by decide⟩, by decide⟩, fun h => absurd h (by omega)⟩
    have hlen : ((List.range len).map fun i => Classical.choose (hone i)).length = len := by simp
    refine ⟨some a, cap, (List.range len).map fun i => Classical.choose (hone i), by rw [hlen], by omega, hm, ?_, ?_, by rw [editsV_length], fun hpos => ?_⟩
    · intro x hx
      obtain ⟨i, _, rfl⟩ := List.mem_map.1 hx
      exact (Classical.choose_spec (hone i)).1.1
    · intro x hx
      obtain ⟨i, _, rfl⟩ := List.mem_map.1 hx
      exact (Classical.choose_spec (hone i)).1.2
    · rw [hlen] at hpos
      have h0 := (Classical.choose_spec (hone 0)).2 hpos 0 _ rfl
      have hs := spot_none h0
      obtain ⟨b, o, spot⟩ := a
      simp only at hs
      subst hs
      rw [addr_add] at h0
      refine ⟨b, o, rfl, block_lt_of_cell h0, fun j u hu => ?_⟩
      have hj : j < len * 7 := by
        rcases Nat.lt_or_ge j (len * 7) with hj | hj
        · exact hj
        · rw [List.getElem?_eq_none (by rw [editsV_length, hlen]; exact hj)] at hu; cases hu
      have e : j = j / 7 * 7 + j % 7 := by omega
      rw [e] at hu ⊢
      rw [editsV_get (by rw [hlen]; omega) (by omega)] at hu
      have h1 := (Classical.choose_spec (hone (j / 7))).2 (by omega) (j % 7) u
      rw [addr_add] at h1
      refine h1 ?_
      rw [← hu, edAt_get (by rw [hlen]; omega)]
      simp
end
end Go.Proofs.Ytgbmeckhagklnaa
