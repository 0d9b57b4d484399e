/- Slices of what was seen of instructions, as arguments, opened. No statement is proved here. -/
import Derived.Test.YtbfgffmebniooaaGreatRow3
import Derived.Test.YtbfgffmebniooaaGreatFold
namespace Go.Proofs.YtbfgffmebniooaaGreat
open Go.ChangeShapes Go.WideShapes Go.ChangeAt Go.RowKit Go.Deep
set_option linter.unusedSimpArgs false
set_option linter.unusedVariables false
set_option linter.unnecessarySimpa false
section
variable {H : Type} {enc : TypeId × Value → H} {w : World} {held : Bool}
theorem wf_u64 {n : Int} (h : (Lit.int .u64 n).wf = true) : U64 n := by
  simp [Lit.wf, IntKind.min, IntKind.max, IntKind.signed, IntKind.bits] at h; unfold U64; omega
theorem cells43n : Tryz.prog.cellsOf 43 = 10 := by kernel_rfl
theorem cells41n : Tryz.prog.cellsOf 41 = 7 := by kernel_rfl
theorem cells39n : Tryz.prog.cellsOf 39 = 4 := by kernel_rfl
theorem cells35n : Tryz.prog.cellsOf 35 = 2 := by kernel_rfl
theorem cells37n : Tryz.prog.cellsOf 37 = 2 := by kernel_rfl
theorem cells24n : Tryz.prog.cellsOf 24 = 1 := by kernel_rfl
theorem cells5n : Tryz.prog.cellsOf 5 = 1 := by kernel_rfl
theorem cells4n : Tryz.prog.cellsOf 4 = 1 := by kernel_rfl
theorem cells3n : Tryz.prog.cellsOf 3 = 1 := by kernel_rfl
theorem fields35n : ∃ f0 f1 : Field, Tryz.prog.underlying 35 = some (.struct #[f0, f1]) ∧ f0.type = 24 ∧ f1.type = 24 ∧ f0.offset = 0 ∧ f1.offset = 1 :=
  ⟨_, _, Tryz.underlying35, rfl, rfl, rfl, rfl⟩
theorem fields37n : ∃ f0 f1 : Field, Tryz.prog.underlying 37 = some (.struct #[f0, f1]) ∧ f0.type = 24 ∧ f1.type = 24 ∧ f0.offset = 0 ∧ f1.offset = 1 :=
  ⟨_, _, Tryz.underlying37, rfl, rfl, rfl, rfl⟩
theorem fields39n : ∃ f0 f1 : Field, Tryz.prog.underlying 39 = some (.struct #[f0, f1]) ∧ f0.type = 35 ∧ f1.type = 37 ∧ f0.offset = 0 ∧ f1.offset = 2 :=
  ⟨_, _, Tryz.underlying39, rfl, rfl, rfl, rfl⟩
theorem fields41n : ∃ f0 f1 f2 f3 : Field, Tryz.prog.underlying 41 = some (.struct #[f0, f1, f2, f3]) ∧ f0.type = 5 ∧ f1.type = 39 ∧ f2.type = 3 ∧ f3.type = 3 ∧ f0.offset = 0 ∧ f1.offset = 1 ∧ f2.offset = 5 ∧ f3.offset = 6 :=
  ⟨_, _, _, _, Tryz.underlying41, rfl, rfl, rfl, rfl, rfl, rfl, rfl, rfl⟩
theorem fields43n : ∃ f0 f1 f2 f3 : Field, Tryz.prog.underlying 43 = some (.struct #[f0, f1, f2, f3]) ∧ f0.type = 4 ∧ f1.type = 4 ∧ f2.type = 4 ∧ f3.type = 41 ∧ f0.offset = 0 ∧ f1.offset = 1 ∧ f2.offset = 2 ∧ f3.offset = 3 :=
  ⟨_, _, _, _, Tryz.underlying43, rfl, rfl, rfl, rfl, rfl, rfl, rfl, rfl⟩
theorem pair_cells {t base fuel : Nat} {spare : Nat → Bool} {c0 c1 : Value} {x : DataW H × List MemPlace} (ht : ∃ f0 f1 : Field, Tryz.prog.underlying t = some (.struct #[f0, f1]) ∧ f0.type = 24 ∧ f1.type = 24 ∧ f0.offset = 0 ∧ f1.offset = 1)
    (h : DataW.trod enc Tryz.prog w base spare held fuel t [c0, c1] = some x) : ∃ a b, (U64 a ∧ U64 b) ∧ c0 = .int .u64 a ∧ c1 = .int .u64 b := by
  obtain ⟨f0, f1, hs, t0, t1, o0, o1⟩ := ht
  obtain ⟨xs, n, _, _, _, hlen, hg⟩ := DataW.trod_struct hs h
  match xs, hlen with
  | [y0, y1], _ =>
    have g0 := hg 0 f0 rfl
    have g1 := hg 1 f1 rfl
    rw [t0, o0, cells24n] at g0
    rw [t1, o1, cells24n] at g1
    have g0' : DataW.trod enc Tryz.prog w base spare held n 24 [c0] = some y0 := g0
    have g1' : DataW.trod enc Tryz.prog w base spare held n 24 [c1] = some y1 := g1
    obtain ⟨n0, e0, _, w0⟩ := DataW.trod_int Tryz.underlying24 g0'
    obtain ⟨n1, e1, _, w1⟩ := DataW.trod_int Tryz.underlying24 g1'
    simp only [List.cons.injEq, and_true] at e0 e1
    exact ⟨n0, n1, ⟨wf_u64 w0, wf_u64 w1⟩, e0, e1⟩
theorem fact_cells {base fuel : Nat} {spare : Nat → Bool} {c0 c1 c2 c3 : Value} {x : DataW H × List MemPlace}
    (h : DataW.trod enc Tryz.prog w base spare held fuel 39 [c0, c1, c2, c3] = some x) : ∃ v m lo hi, U64 v ∧ c0 = .int .u64 v ∧ c1 = .int .u64 m ∧ c2 = .int .u64 lo ∧ c3 = .int .u64 hi := by
  obtain ⟨f0, f1, hs, t0, t1, o0, o1⟩ := fields39n
  obtain ⟨xs, n, _, _, _, hlen, hg⟩ := DataW.trod_struct hs h
  match xs, hlen with
  | [y0, y1], _ =>
    have g0 := hg 0 f0 rfl
    have g1 := hg 1 f1 rfl
    rw [t0, o0, cells35n] at g0
    rw [t1, o1, cells37n] at g1
    have g0' : DataW.trod enc Tryz.prog w base spare held n 35 [c0, c1] = some y0 := g0
    have g1' : DataW.trod enc Tryz.prog w base spare held n 37 [c2, c3] = some y1 := g1
    obtain ⟨a, b, ⟨ha, hb⟩, rfl, rfl⟩ := pair_cells fields35n g0'
    obtain ⟨c, d, ⟨hc, hd⟩, rfl, rfl⟩ := pair_cells fields37n g1'
    exact ⟨a, b, c, d, ha, rfl, rfl, rfl, rfl⟩
theorem val_cells {base fuel : Nat} {spare : Nat → Bool} {c0 c1 c2 c3 c4 c5 c6 : Value} {x : DataW H × List MemPlace}
    (h : DataW.trod enc Tryz.prog w base spare held fuel 41 [c0, c1, c2, c3, c4, c5, c6] = some x) : ∃ kd v m lo hi i o, U64 v ∧ c0 = .int .u8 kd ∧ c1 = .int .u64 v ∧ c2 = .int .u64 m ∧ c3 = .int .u64 lo ∧ c4 = .int .u64 hi ∧ c5 = .int .i64 i ∧ c6 = .int .i64 o := by
  obtain ⟨f0, f1, f2, f3, hs, t0, t1, t2, t3, o0, o1, o2, o3⟩ := fields41n
  obtain ⟨xs, n, _, _, _, hlen, hg⟩ := DataW.trod_struct hs h
  match xs, hlen with
  | [y0, y1, y2, y3], _ =>
    have g0 := hg 0 f0 rfl
    have g1 := hg 1 f1 rfl
    have g2 := hg 2 f2 rfl
    have g3 := hg 3 f3 rfl
    rw [t0, o0, cells5n] at g0
    rw [t1, o1, cells39n] at g1
    rw [t2, o2, cells3n] at g2
    rw [t3, o3, cells3n] at g3
    have g0' : DataW.trod enc Tryz.prog w base spare held n 5 [c0] = some y0 := g0
    have g1' : DataW.trod enc Tryz.prog w base spare held n 39 [c1, c2, c3, c4] = some y1 := g1
    have g2' : DataW.trod enc Tryz.prog w base spare held n 3 [c5] = some y2 := g2
    have g3' : DataW.trod enc Tryz.prog w base spare held n 3 [c6] = some y3 := g3
    obtain ⟨n0, e0, _, w0⟩ := DataW.trod_int Tryz.underlying5 g0'
    obtain ⟨n5, e5, _, w5⟩ := DataW.trod_int Tryz.underlying3 g2'
    obtain ⟨n6, e6, _, w6⟩ := DataW.trod_int Tryz.underlying3 g3'
    obtain ⟨v, m, lo, hi, hv, rfl, rfl, rfl, rfl⟩ := fact_cells g1'
    simp only [List.cons.injEq, and_true] at e0 e5 e6
    exact ⟨n0, v, m, lo, hi, n5, n6, hv, e0, rfl, rfl, rfl, rfl, e5, e6⟩
theorem note_cells {base fuel : Nat} {spare : Nat → Bool} {c0 c1 c2 c3 c4 c5 c6 c7 c8 c9 : Value} {x : DataW H × List MemPlace}
    (h : DataW.trod enc Tryz.prog w base spare held fuel 43 [c0, c1, c2, c3, c4, c5, c6, c7, c8, c9] = some x) : ∃ e : Note, e.Ok ∧ [c0, c1, c2, c3, c4, c5, c6, c7, c8, c9] = e.cells := by
  obtain ⟨f0, f1, f2, f3, hs, t0, t1, t2, t3, o0, o1, o2, o3⟩ := fields43n
  obtain ⟨xs, n, _, _, _, hlen, hg⟩ := DataW.trod_struct hs h
  match xs, hlen with
  | [y0, y1, y2, y3], _ =>
    have g0 := hg 0 f0 rfl
    have g1 := hg 1 f1 rfl
    have g2 := hg 2 f2 rfl
    have g3 := hg 3 f3 rfl
    rw [t0, o0, cells4n] at g0
    rw [t1, o1, cells4n] at g1
    rw [t2, o2, cells4n] at g2
    rw [t3, o3, cells41n] at g3
    have g0' : DataW.trod enc Tryz.prog w base spare held n 4 [c0] = some y0 := g0
    have g1' : DataW.trod enc Tryz.prog w base spare held n 4 [c1] = some y1 := g1
    have g2' : DataW.trod enc Tryz.prog w base spare held n 4 [c2] = some y2 := g2
    have g3' : DataW.trod enc Tryz.prog w base spare held n 41 [c3, c4, c5, c6, c7, c8, c9] = some y3 := g3
    obtain ⟨b0, e0, _⟩ := DataW.trod_bool Tryz.underlying4 g0'
    obtain ⟨b1, e1, _⟩ := DataW.trod_bool Tryz.underlying4 g1'
    obtain ⟨b2, e2, _⟩ := DataW.trod_bool Tryz.underlying4 g2'
    obtain ⟨kd, v, m, lo, hi, i, o, hv, rfl, rfl, rfl, rfl, rfl, rfl, rfl⟩ := val_cells g3'
    simp only [List.cons.injEq, and_true] at e0 e1 e2
    subst e0 e1 e2
    exact ⟨⟨b0, b1, b2, kd, v, m, lo, hi, i, o⟩, hv, rfl⟩
set_option maxRecDepth 100000 in
theorem open_notes {v : Value} {r : Reach} {b0 : Nat} {d : DataW H} {p : List MemPlace} (hv : Value.okWide Tryz.prog w r b0 23 v) (h : DataW.Trod enc Tryz.prog w 0 (fun _ => true) held 23 v d p) :
    ∃ (A : Option Addr) (c : Nat) (l : List Note), v = .slice A l.length c ∧ l.length ≤ c ∧ c ≤ maxLen ∧ (∀ x ∈ l, x.Ok) ∧ SAt w w.heap.size 10 A l.length (notesV l) := by
  obtain ⟨a0, len, cap, rfl⟩ := okWide_slice Tryz.underlying23 hv
  obtain ⟨fuel, hf⟩ := h
  rcases open_slice Tryz.underlying23 hf with ⟨hcs, _⟩ | ⟨a, len', cap', m, n, D, Pl, hcs, _, hl, hm, hmm, hx, hi⟩
  · simp only [Value.cells, List.cons.injEq, Value.slice.injEq, and_true] at hcs
    obtain ⟨rfl, rfl, rfl⟩ := hcs
    exact ⟨none, 0, [], rfl, Nat.le_refl _, by simp [maxLen], (fun b hb => absurd hb (List.not_mem_nil)), SAt.nil_⟩
  · simp only [Value.cells, List.cons.injEq, Value.slice.injEq, and_true] at hcs
    obtain ⟨rfl, rfl, rfl⟩ := hcs
    simp only [if_true] at hmm
    have hone : ∀ i, ∃ x : Note, x.Ok ∧ (i < len → ∀ j u, x.cells[j]? = some u → w.cell? (a.add (i * 10 + j)) = some u) := by
      intro i
      rcases Nat.lt_or_ge i len with hlt | hge
      · obtain ⟨cs', hc, ht'⟩ := hi i (by omega)
        rw [cells43n] at hc
        obtain ⟨_, hcl, hat⟩ := World.cells?_some hc
        match cs', hcl with
        | [c0, c1, c2, c3, c4, c5, c6, c7, c8, c9], _ =>
          obtain ⟨x, hx, he⟩ := note_cells ht'
          refine ⟨x, hx, fun _ j u hu => ?_⟩
          rw [← he] at hu
          have hj : j < 10 := by
            rcases Nat.lt_or_ge j 10 with hj | hj
            · exact hj
            · rw [List.getElem?_eq_none (by simpa using hj)] at hu; cases hu
          rw [← Go.Deep.add_add, hat j hj, hu]
      · exact ⟨Note.zero, ⟨by decide, by decide⟩, fun h => absurd h (by omega)⟩
    have hlen : ((List.range len).map fun i => Classical.choose (hone i)).length = len := by simp
    refine ⟨some a, cap, (List.range len).map fun i => Classical.choose (hone i), by rw [hlen], by omega, hm, ?_, by rw [notesV_length], fun hpos => ?_⟩
    · intro x hx
      obtain ⟨i, _, rfl⟩ := List.mem_map.1 hx
      exact (Classical.choose_spec (hone i)).1
    · rw [hlen] at hpos
      have h0 := (Classical.choose_spec (hone 0)).2 hpos 0 _ rfl
      have hs := spot_none h0
      obtain ⟨b, o, spot⟩ := a
      simp only at hs
      subst hs
      rw [addr_add] at h0
      refine ⟨b, o, rfl, block_lt_of_cell h0, fun j u hu => ?_⟩
      have hj : j < len * 10 := by
        rcases Nat.lt_or_ge j (len * 10) with hj | hj
        · exact hj
        · rw [List.getElem?_eq_none (by rw [notesV_length, hlen]; exact hj)] at hu; cases hu
      have e : j = j / 10 * 10 + j % 10 := by omega
      rw [e] at hu ⊢
      rw [notesV_get (by rw [hlen]; omega) (by omega)] at hu
      have h1 := (Classical.choose_spec (hone (j / 10))).2 (by omega) (j % 10) u
      rw [addr_add] at h1
      refine h1 ?_
      rw [← hu, noteAt_get (by rw [hlen]; omega)]
      simp
end
end Go.Proofs.YtbfgffmebniooaaGreat
