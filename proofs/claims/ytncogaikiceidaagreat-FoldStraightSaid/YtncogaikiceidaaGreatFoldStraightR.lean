/- The law FoldStraight: of a program of plain arithmetic each result that is Short becomes a Mov of it. No condition narrows it: for every input the law returns true, and each argument reads behind the call as it read before. -/
import Derived.Test.YtncogaikiceidaaGreatRow3
import Derived.Test.YtncogaikiceidaaGreatFoldStraightW
import Derived.Laws.IdiomArrays
section
namespace Go.Proofs.YtncogaikiceidaaGreat
open Go.ChangeShapes Go.WideShapes Go.ChangeAt Go.RowKit Go.Deep
set_option linter.unusedSimpArgs false
set_option linter.unusedVariables false
section
variable {H : Type} {enc : TypeId × Value → H} {w : World} {held : Bool}
theorem cells29 : Tryz.prog.cellsOf 29 = 3 := by kernel_rfl
theorem cells21_ : Tryz.prog.cellsOf 21 = 1 := by kernel_rfl
theorem trip_cells {base fuel : Nat} {spare : Nat → Bool} {c0 c1 c2 : Value} {x : DataW H × List MemPlace}
    (h : DataW.trod enc Tryz.prog w base spare held fuel 29 [c0, c1, c2] = some x) : ∃ i : Trip, i.Ok ∧ [c0, c1, c2] = i.cells := by
  obtain ⟨y0, y1, y2, m, _, g0, g1, g2⟩ := trod_array3 Tryz.underlying29 cells21_ h
  obtain ⟨n0, e0, _, w0⟩ := DataW.trod_int Tryz.underlying21 g0
  obtain ⟨n1, e1, _, w1⟩ := DataW.trod_int Tryz.underlying21 g1
  obtain ⟨n2, e2, _, w2⟩ := DataW.trod_int Tryz.underlying21 g2
  simp only [List.cons.injEq, and_true] at e0 e1 e2
  subst e0 e1 e2
  have b2 := wf_i32 w2
  exact ⟨⟨n0, n1, n2⟩, ⟨b2.1, b2.2⟩, rfl⟩
set_option maxRecDepth 100000 in
theorem open_trips {v : Value} {r : Reach} {b0 : Nat} {d : DataW H} {p : List MemPlace} (hv : Value.okWide Tryz.prog w r b0 22 v) (h : DataW.Trod enc Tryz.prog w 0 (fun _ => true) held 22 v d p) :
    ∃ (A : Option Addr) (c : Nat) (l : List Trip), v = .slice A l.length c ∧ l.length ≤ c ∧ c ≤ maxLen ∧ (∀ x ∈ l, x.Ok) ∧ SAt w w.heap.size 3 A l.length (tripsV l) := by
  obtain ⟨a0, len, cap, rfl⟩ := okWide_slice Tryz.underlying22 hv
  obtain ⟨fuel, hf⟩ := h
  rcases open_slice Tryz.underlying22 hf with ⟨hcs, _⟩ | ⟨a, len', cap', m, n, D, Pl, hcs, _, hl, hm, hmm, hx, hi⟩
  · simp only [Value.cells, List.cons.injEq, Value.slice.injEq, and_true] at hcs
    obtain ⟨rfl, rfl, rfl⟩ := hcs
    exact ⟨none, 0, [], rfl, Nat.le_refl _, by simp [maxLen], (fun b hb => absurd hb (List.not_mem_nil)), SAt.nil_⟩
  · simp only [Value.cells, List.cons.injEq, Value.slice.injEq, and_true] at hcs
    obtain ⟨rfl, rfl, rfl⟩ := hcs
    simp only [if_true] at hmm
    have hone : ∀ i, ∃ x : Trip, x.Ok ∧ (i < len → ∀ j u, x.cells[j]? = some u → w.cell? (a.add (i * 3 + j)) = some u) := by
      intro i
      rcases Nat.lt_or_ge i len with hlt | hge
      · obtain ⟨cs', hc, ht'⟩ := hi i (by omega)
        rw [cells29] at hc
        obtain ⟨_, hcl, hat⟩ := World.cells?_some hc
        match cs', hcl with
        | [c0, c1, c2], _ =>
          obtain ⟨x, hx, he⟩ := trip_cells ht'
          refine ⟨x, hx, fun _ j u hu => ?_⟩
          rw [← he] at hu
          have hj : j < 3 := by
            rcases Nat.lt_or_ge j 3 with hj | hj
            · exact hj
            · rw [List.getElem?_eq_none (by simpa using hj)] at hu; cases hu
          rw [← Go.Deep.add_add, hat j hj, hu]
      · exact ⟨⟨0, 0, 0⟩, ⟨by decide, by decide⟩, fun h => absurd h (by omega)⟩
    have hlen : ((List.range len).map fun i => Classical.choose (hone i)).length = len := by simp
    refine ⟨some a, cap, (List.range len).map fun i => Classical.choose (hone i), by rw [hlen], by omega, hm, ?_, by rw [tripsV_length], fun hpos => ?_⟩
    · intro x hx
      obtain ⟨i, _, rfl⟩ := List.mem_map.1 hx
      exact (Classical.choose_spec (hone i)).1
    · rw [hlen] at hpos
      have h0 := (Classical.choose_spec (hone 0)).2 hpos 0 _ rfl
      have hs := spot_none h0
      obtain ⟨b, o, spot⟩ := a
      simp only at hs
      subst hs
      rw [addr_add] at h0
      refine ⟨b, o, rfl, block_lt_of_cell h0, fun j u hu => ?_⟩
      have hj : j < len * 3 := by
        rcases Nat.lt_or_ge j (len * 3) with hj | hj
        · exact hj
        · rw [List.getElem?_eq_none (by rw [tripsV_length, hlen]; exact hj)] at hu; cases hu
      have e : j = j / 3 * 3 + j % 3 := by omega
      rw [e] at hu ⊢
      rw [tripsV_get (by rw [hlen]; omega) (by omega)] at hu
      have h1 := (Classical.choose_spec (hone (j / 3))).2 (by omega) (j % 3) u
      rw [addr_add] at h1
      refine h1 ?_
      rw [← hu]
      simp
end
end Go.Proofs.YtncogaikiceidaaGreat
end
namespace Go.Proofs.YtncogaikiceidaaGreat
open Go.ChangeShapes Go.WideShapes Go.ChangeAt Go.RowKit Go.Deep

set_option maxRecDepth 100000 in
theorem foldStraight_lifted (os : Os) (started : os.Started) (H : Type) (enc : TypeId × Value → H) :
    ReturnsInHanded {} Tryz.checked os 3 .any (Rows.foldStraightSpec.pre6 enc Tryz.prog Tryz.f3 Rows.foldStraightRow.domain false) (Rows.foldStraightSpec.post enc Tryz.prog Tryz.f3 false true false false) := by
  refine returnsInHanded_of_change (C := Tryz.checked) Tryz.own started (by kernel_rfl) Tryz.func3
    (ChangeSpec.witness6 (enc := enc) (C := Tryz.checked) false ⟨#[], #[.slice none 0 0], []⟩ 8 (by kernel_rfl) (by kernel_rfl) (by kernel_rfl) (by kernel_rfl)) ?_
  intro W base args ds gs before hval0 hW hcnd _
  have hval : ∀ (j : Nat) t v, Tryz.f3.params[j]? = some t → args[j]? = some v → Value.okWide Tryz.prog W .any base t v := hval0
  have hW' := hW
  obtain ⟨p, q, hA0, hV, rfl, hfz, hnd⟩ := hW
  have hA : DataW.TrodAll enc Tryz.prog W 0 (fun _ => true) true Tryz.f3.params.toList args.toList ds p := hA0
  rw [Tryz.params3] at hA hval
  obtain ⟨v0, d0, rfl, rfl, h0⟩ := trodAll_one hA
  obtain ⟨rfl, rfl⟩ := trodVars_none hV
  obtain ⟨A, c, l, rfl, hc, hc2, hl, hat⟩ := open_trips (hval 0 22 v0 rfl rfl) h0
  refine (foldStraight_any l hl (Nat.le_trans hc hc2) A c W hat).mono fun e W' ⟨he, hb⟩ => ?_
  subst he
  exact ⟨_, rfl, post_true rfl rfl hW' rfl (by rw [Tryz.params3]; exact of_decide_eq_true (by kernel_rfl)) hb⟩

set_option maxHeartbeats 4000000 in
theorem foldStraight_closed : joinedFacts Tryz.checked.prog 3 Tryz.f3 Rows.foldStraightSpec Rows.foldStraightRow = true := by
  unfold joinedFacts
  repeat' with_reducible refine and_mk ?_ ?_
  all_goals (as_aux_lemma => kernel_rfl)

theorem foldStraight_holds : Rows.FoldStraightSaid :=
  OpenClaim.holds_of_wide 3 Tryz.f3 rfl rfl rfl rfl rfl rfl rfl ⟨rfl, rfl, rfl, rfl, rfl⟩ rfl rfl rfl rfl rfl (by kernel_rfl) Tryz.func3 foldStraight_closed
    (of_decide_eq_true (by kernel_rfl)) (by unfold Func.isWrapper; first | (rw [if_pos (by decide +kernel)]; kernel_rfl) | (rw [if_neg (by decide +kernel)]; exact ⟨rfl, rfl⟩))
    (fun os started H enc _ => foldStraight_lifted os started H enc)
#print axioms foldStraight_holds
end Go.Proofs.YtncogaikiceidaaGreat
