/- From a walk to a row: arguments opened, and the row's end for a law that answers true. No statement is proved here. -/
import Derived.Test.YtncogaikiceidaaBase
import Derived.ProofKit
import Derived.Lib.SmallJoins
import Derived.Deep.Slices
import Derived.Deep.Fields
import Derived.Test.YtncogaikiceidaaList
import Derived.Test.YtncogaikiceidaaN24
section
namespace Go.Proofs.Ytncogaikiceidaa
open Go.ChangeShapes Go.WideShapes Go.ChangeAt Go.RowKit Go.Deep

theorem Try.own : ownKnob Try.prog.godebug = none := by kernel_rfl
theorem Try.laidOut : laidOutB Try.prog = true := by kernel_rfl
theorem cells24 : Try.prog.cellsOf 40 = 5 := by kernel_rfl
theorem cells5 : Try.prog.cellsOf 5 = 1 := by kernel_rfl
theorem and_mk {a b : Bool} (h : a = true) (h' : b = true) : (a && b) = true := by rw [h, h']; rfl
section
variable {H : Type} {enc : TypeId × Value → H}

/-- What was read before the call reads so behind it, through the same places. -/
theorem trodAll_below {W W' : World} {sp : Nat → Bool} (hb : Below W.heap.size W W') : ∀ {ts : List TypeId} {vs : List Value} {ds : List (DataW H)} {ps : List MemPlace},
  (∀ t ∈ ts, Try.prog.readableRec t = true ∧ t < Try.prog.types.size) → DataW.TrodAll enc Try.prog W 0 (fun _ => true) true ts vs ds ps →
  (∀ x ∈ ps, x.block < W.heap.size) → (∀ x ∈ ps, sp x.block = true) → DataW.TrodAll enc Try.prog W' 0 sp true ts vs ds ps
 | [], _, _, _, _, h, _, _ => by
  obtain ⟨rfl, rfl, rfl⟩ := trodAll_nil h
  exact trodAll_mk0
 | t :: ts, _, _, _, hr, h, hlt, hsp => by
  obtain ⟨v, vs, d, ds, p, q, rfl, rfl, rfl, h0, r0⟩ := trodAll_cons h
  refine trodAll_cons_mk ?_ (trodAll_below hb (fun t ht => hr t (List.mem_cons_of_mem _ ht)) r0 (fun x hx => hlt x (List.mem_append_right _ hx)) (fun x hx => hsp x (List.mem_append_right _ hx)))
  exact WideElems.Trod_stays Try.laidOut (hr t (by simp)).1 (hr t (by simp)).2 h0 (fun x hx => hb.same (hlt x (List.mem_append_left _ hx))) (fun x hx => hsp x (List.mem_append_left _ hx))

/-- THE ROW's END, of a law that answers true and leaves what was there as it was. -/
theorem post_true {f : Func} {s : ChangeSpec} {W W' : World} {args : Array Value} {ds gs : List (DataW H)} {before : List MemPlace} (hv : s.vars = []) (hrt : f.resultTypes = #[4])
  (hW : DataW.Whole enc Try.prog f.params.toList s.vars false W args.toList ds gs before) (hs : s.fn H (ds ++ gs) = { results := [.lit (.bool true)], args := ds })
  (hr : ∀ t ∈ f.params.toList, Try.prog.readableRec t = true ∧ t < Try.prog.types.size) (hb : Below W.heap.size W W') :
  s.post enc Try.prog f false true false false W args (.bool true) W' := by
 have hlt : ∀ p ∈ before, p.block < W.heap.size := fun p hp => hW.lt p hp
 have hW' := hW
 obtain ⟨p, q, hA, hV, rfl, hfz, hnd⟩ := hW
 rw [hv] at hV
 obtain ⟨rfl, rfl⟩ := trodVars_none hV
 simp only [List.append_nil] at hW' hlt hs
 refine ⟨ds, [], p, [], p, [], hW', ?_, ?_, ?_, ?_, fun h => by cases h⟩
 ·simp only [List.append_nil, hs, hrt]
  exact trodAll_mk1 (shut_bool Try.underlying4 _)
 ·simp only [List.append_nil, hs]
  exact trodAll_below hb hr hA hlt (fun x hx => by simpa using hlt x hx)
 ·simp only [List.append_nil, hs, hv]
  rfl
 ·refine World.keptBut_mono (fun x hx => ⟨hx, ?_⟩) (hb.frame (· ∈ p))
  simpa using hx

end

/-! ### Arguments opened -/
section
variable {H : Type} {enc : TypeId × Value → H} {w : World} {held : Bool}
theorem wf_u8 {n : Int} (h : (Lit.int .u8 n).wf = true) : 0 ≤ n ∧ n ≤ 255 := by
 simp [Lit.wf, IntKind.min, IntKind.max, IntKind.signed, IntKind.bits] at h; omega
theorem wf_i16 {n : Int} (h : (Lit.int .i16 n).wf = true) : -32768 ≤ n ∧ n ≤ 32767 := by
 simp [Lit.wf, IntKind.min, IntKind.max, IntKind.signed, IntKind.bits] at h; omega
theorem wf_i32 {n : Int} (h : (Lit.int .i32 n).wf = true) : -2147483648 ≤ n ∧ n ≤ 2147483647 := by
 simp [Lit.wf, IntKind.min, IntKind.max, IntKind.signed, IntKind.bits] at h; omega
theorem fields24 : ∃ f0 f1 f2 f3 f4 : Field, Try.prog.underlying 40 = some (.struct #[f0, f1, f2, f3, f4]) ∧ oneCellFields Try.prog #[f0, f1, f2, f3, f4] = true ∧ f0.type = 5 ∧ f1.type = 5 ∧ f2.type = 5 ∧ f3.type = 38 ∧ f4.type = 21 :=
 ⟨_, _, _, _, _, Try.underlying40, by kernel_rfl, rfl, rfl, rfl, rfl, rfl⟩
/-- Five cells that read as an instruction are one. -/
theorem insn_cells {base fuel : Nat} {spare : Nat → Bool} {c0 c1 c2 c3 c4 : Value} {x : DataW H × List MemPlace}
  (h : DataW.trod enc Try.prog w base spare held fuel 40 [c0, c1, c2, c3, c4] = some x) : ∃ i : Insn, i.Ok ∧ [c0, c1, c2, c3, c4] = i.cells := by
 obtain ⟨f0, f1, f2, f3, f4, hs, hone, t0, t1, t2, t3, t4⟩ := fields24
 obtain ⟨xs, n, _, _, _, hlen, hg⟩ := DataW.trod_struct hs h
 obtain ⟨o0, k0⟩ := hone_of hone 0 f0 rfl
 obtain ⟨o1, k1⟩ := hone_of hone 1 f1 rfl
 obtain ⟨o2, k2⟩ := hone_of hone 2 f2 rfl
 obtain ⟨o3, k3⟩ := hone_of hone 3 f3 rfl
 obtain ⟨o4, k4⟩ := hone_of hone 4 f4 rfl
 match xs, hlen with
 | [y0, y1, y2, y3, y4], _ =>
  have g0 : DataW.trod enc Try.prog w base spare held n f0.type [c0] = some y0 := by simpa [o0, k0] using hg 0 f0 rfl
  have g1 : DataW.trod enc Try.prog w base spare held n f1.type [c1] = some y1 := by simpa [o1, k1] using hg 1 f1 rfl
  have g2 : DataW.trod enc Try.prog w base spare held n f2.type [c2] = some y2 := by simpa [o2, k2] using hg 2 f2 rfl
  have g3 : DataW.trod enc Try.prog w base spare held n f3.type [c3] = some y3 := by simpa [o3, k3] using hg 3 f3 rfl
  have g4 : DataW.trod enc Try.prog w base spare held n f4.type [c4] = some y4 := by simpa [o4, k4] using hg 4 f4 rfl
  rw [t0] at g0
  rw [t1] at g1
  rw [t2] at g2
  rw [t3] at g3
  rw [t4] at g4
  obtain ⟨n0, e0, _, w0⟩ := DataW.trod_int Try.underlying5 g0
  obtain ⟨n1, e1, _, w1⟩ := DataW.trod_int Try.underlying5 g1
  obtain ⟨n2, e2, _, w2⟩ := DataW.trod_int Try.underlying5 g2
  obtain ⟨n3, e3, _, w3⟩ := DataW.trod_int Try.underlying38 g3
  obtain ⟨n4, e4, _, w4⟩ := DataW.trod_int Try.underlying21 g4
  simp only [List.cons.injEq, and_true] at e0 e1 e2 e3 e4
  subst e0 e1 e2 e3 e4
  have b0 := wf_u8 w0
  have b1 := wf_u8 w1
  have b2 := wf_u8 w2
  have b3 := wf_i16 w3
  have b4 := wf_i32 w4
  exact ⟨⟨n0, n1, n2, n3, n4⟩, ⟨b0.1, b0.2, b1.1, b1.2, b2.1, b2.2, b3.1, b3.2, b4.1, b4.2⟩, rfl⟩
set_option maxRecDepth 100000 in
/-- A slice of bytes. -/
theorem open_bytes {v : Value} {r : Reach} {b0 : Nat} {d : DataW H} {p : List MemPlace} (hv : Value.okWide Try.prog w r b0 23 v) (h : DataW.Trod enc Try.prog w 0 (fun _ => true) held 23 v d p) :
  ∃ (A : Option Addr) (c : Nat) (l : List Int), v = .slice A l.length c ∧ l.length ≤ c ∧ c ≤ maxLen ∧ (∀ b ∈ l, 0 ≤ b ∧ b ≤ 255) ∧ SAt w w.heap.size 1 A l.length (bytesV l) := by
 obtain ⟨a0, len, cap, rfl⟩ := okWide_slice Try.underlying23 hv
 obtain ⟨fuel, hf⟩ := h
 rcases open_ints Try.underlying23 Try.underlying5 cells5 hf with ⟨hcs, _⟩ | ⟨a, len', cap', zs, hcs, _, hl, hm, hz, hx, hcell, hwz⟩
 ·simp only [Value.cells, List.cons.injEq, Value.slice.injEq, and_true] at hcs
  obtain ⟨rfl, rfl, rfl⟩ := hcs
  exact ⟨none, 0, [], rfl, Nat.le_refl _, by simp [maxLen], (fun b hb => absurd hb (List.not_mem_nil)), SAt.nil_⟩
 ·simp only [Value.cells, List.cons.injEq, Value.slice.injEq, and_true] at hcs
  obtain ⟨rfl, rfl, rfl⟩ := hcs
  simp only [if_true] at hz
  simp only [Prod.mk.injEq] at hx
  have hlen : (zs.take len).length = len := by rw [List.length_take]; omega
  refine ⟨some a, cap, zs.take len, by rw [hlen], by omega, hm, fun b hb => wf_u8 (hwz b (List.mem_of_mem_take hb)), by simp [bytesV], fun hpos => ?_⟩
  have h0 := hcell 0 (by omega)
  obtain ⟨b, o, spot⟩ := a
  have hspot : spot = none := by
   cases spot with
   | none => rfl
   | some s =>
    simp only [Addr.add, if_true, World.cell?] at h0
    split at h0 <;> simp at h0
  subst hspot
  refine ⟨b, o, rfl, ?_, fun j u hu => ?_⟩
  ·rw [addr_add] at h0
   exact block_lt_of_cell h0
  ·have hj : j < len := by
    rcases Nat.lt_or_ge j len with hj | hj
    ·exact hj
    ·rw [List.getElem?_eq_none (by simp [bytesV]; omega)] at hu; cases hu
   have := hcell j (by omega)
   rw [addr_add] at this
   rw [this]
   simp only [bytesV, List.getElem?_map, List.getElem?_take, if_pos hj] at hu
   rw [List.getElem?_eq_getElem (by omega)] at hu
   simp only [Option.map_some] at hu
   simp [List.getD, List.getElem?_eq_getElem (show j < zs.length by omega)]
   exact (Option.some.inj hu)
end
end Go.Proofs.Ytncogaikiceidaa
end
section
namespace Go.Proofs.Ytncogaikiceidaa
open Go.ChangeShapes Go.WideShapes Go.ChangeAt Go.RowKit Go.Deep
set_option linter.unusedSimpArgs false
set_option linter.unusedVariables false
section
variable {H : Type} {enc : TypeId × Value → H} {w : World} {held : Bool}
theorem spot_none {a : Addr} {u : Value} (h0 : w.cell? (a.add 0) = some u) : a.spot = none := by
 obtain ⟨b, o, spot⟩ := a
 cases spot with
 | none => rfl
 | some s =>
  simp only [Addr.add, if_true, World.cell?] at h0
  split at h0 <;> simp at h0
set_option maxRecDepth 100000 in
theorem open_insns {v : Value} {r : Reach} {b0 : Nat} {d : DataW H} {p : List MemPlace} (hv : Value.okWide Try.prog w r b0 22 v) (h : DataW.Trod enc Try.prog w 0 (fun _ => true) held 22 v d p) :
  ∃ (A : Option Addr) (c : Nat) (l : List Insn), v = .slice A l.length c ∧ l.length ≤ c ∧ c ≤ maxLen ∧ (∀ x ∈ l, x.Ok) ∧ SAt w w.heap.size 5 A l.length (insnsV l) := by
 obtain ⟨a0, len, cap, rfl⟩ := okWide_slice Try.underlying22 hv
 obtain ⟨fuel, hf⟩ := h
 rcases open_slice Try.underlying22 hf with ⟨hcs, _⟩ | ⟨a, len', cap', m, n, D, Pl, hcs, _, hl, hm, hmm, hx, hi⟩
 ·simp only [Value.cells, List.cons.injEq, Value.slice.injEq, and_true] at hcs
  obtain ⟨rfl, rfl, rfl⟩ := hcs
  exact ⟨none, 0, [], rfl, Nat.le_refl _, by simp [maxLen], (fun b hb => absurd hb (List.not_mem_nil)), SAt.nil_⟩
 ·simp only [Value.cells, List.cons.injEq, Value.slice.injEq, and_true] at hcs
  obtain ⟨rfl, rfl, rfl⟩ := hcs
  simp only [if_true] at hmm
  have hone : ∀ i, ∃ x : Insn, x.Ok ∧ (i < len → ∀ j u, x.cells[j]? = some u → w.cell? (a.add (i * 5 + j)) = some u) := by
   intro i
   rcases Nat.lt_or_ge i len with hlt | hge
   ·obtain ⟨cs', hc, ht'⟩ := hi i (by omega)
    rw [cells24] at hc
    obtain ⟨_, hcl, hat⟩ := World.cells?_some hc
    match cs', hcl with
    | [c0, c1, c2, c3, c4], _ =>
     obtain ⟨x, hx, he⟩ := insn_cells ht'
     refine ⟨x, hx, fun _ j u hu => ?_⟩
     rw [← he] at hu
     have hj : j < 5 := by
      rcases Nat.lt_or_ge j 5 with hj | hj
      ·exact hj
      ·rw [List.getElem?_eq_none (by simpa using hj)] at hu; cases hu
     rw [← Go.Deep.add_add, hat j hj, hu]
   ·exact ⟨Insn.zero, Insn.zero_ok, fun h => absurd h (by omega)⟩
  have hlen : ((List.range len).map fun i => Classical.choose (hone i)).length = len := by simp
  refine ⟨some a, cap, (List.range len).map fun i => Classical.choose (hone i), by rw [hlen], by omega, hm, ?_, by rw [insnsV_length], fun hpos => ?_⟩
  ·intro x hx
   obtain ⟨i, _, rfl⟩ := List.mem_map.1 hx
   exact (Classical.choose_spec (hone i)).1
  ·rw [hlen] at hpos
   have h0 := (Classical.choose_spec (hone 0)).2 hpos 0 _ rfl
   have hs := spot_none h0
   obtain ⟨b, o, spot⟩ := a
   simp only at hs
   subst hs
   rw [addr_add] at h0
   refine ⟨b, o, rfl, block_lt_of_cell h0, fun j u hu => ?_⟩
   have hj : j < len * 5 := by
    rcases Nat.lt_or_ge j (len * 5) with hj | hj
    ·exact hj
    ·rw [List.getElem?_eq_none (by rw [insnsV_length, hlen]; exact hj)] at hu; cases hu
   have e : j = j / 5 * 5 + j % 5 := by omega
   rw [e] at hu ⊢
   rw [insnsV_get (by rw [hlen]; omega) (by omega)] at hu
   have h1 := (Classical.choose_spec (hone (j / 5))).2 (by omega) (j % 5) u
   rw [addr_add] at h1
   refine h1 ?_
   rw [← hu, at_get (by rw [hlen]; omega)]
   simp
end
end Go.Proofs.Ytncogaikiceidaa
end
section
namespace Go.Proofs.Ytncogaikiceidaa
open Go.ChangeShapes Go.WideShapes Go.ChangeAt Go.RowKit Go.Deep
set_option linter.unusedSimpArgs false
set_option linter.unusedVariables false
set_option linter.unnecessarySimpa false
section
variable {H : Type} {enc : TypeId × Value → H} {w : World} {held : Bool}
/-- A slice, as a row of elements. -/
theorem row_open {T e : TypeId} {s fuel : Nat} (hT : Try.prog.underlying T = some (.slice e)) (hs : Try.prog.cellsOf e = s) (hs0 : 0 < s) {c0 : Value} {x : DataW H × List MemPlace} (h : DataW.trod enc Try.prog w 0 (fun _ => true) held fuel T [c0] = some x) :
  ∃ (A : Option Addr) (n c : Nat), c0 = .slice A n c ∧ n ≤ c ∧ c ≤ maxLen ∧ (n = 0 ∨ ∃ b o, A = some ⟨b, o, none⟩ ∧ b < w.heap.size ∧ ∀ i, i < n → ∃ (cs : List Value) (f' : Nat) (y : DataW H × List MemPlace), cs.length = s ∧ DataW.trod enc Try.prog w 0 (fun _ => true) held f' e cs = some y ∧ ∀ j u, cs[j]? = some u → w.cell? ⟨b, o + i * s + j, none⟩ = some u) := by
 rcases open_slice hT h with ⟨hcs, _⟩ | ⟨a, len, cap, m, n, D, Pl, hcs, _, hl, hm, hmm, hx, hi⟩
 ·simp only [Value.cells, List.cons.injEq, and_true] at hcs
  exact ⟨none, 0, 0, hcs, Nat.le_refl _, by simp [maxLen], .inl rfl⟩
 ·simp only [Value.cells, List.cons.injEq, and_true] at hcs
  refine ⟨some a, len, cap, hcs, by omega, hm, ?_⟩
  rcases Nat.eq_zero_or_pos len with h0 | hpos
  ·exact .inl h0
  ·right
   have hone : ∀ i, i < len → ∃ (cs : List Value) (f' : Nat) (y : DataW H × List MemPlace), cs.length = s ∧ DataW.trod enc Try.prog w 0 (fun _ => true) held f' e cs = some y ∧ ∀ j u, cs[j]? = some u → w.cell? ((a.add (i * s)).add j) = some u := fun i hlt => by
    obtain ⟨cs', hc, ht'⟩ := hi i (by split at hmm <;> omega)
    rw [hs] at hc
    obtain ⟨_, hcl, hat⟩ := World.cells?_some hc
    refine ⟨cs', _, _, hcl, ht', fun j u hu => ?_⟩
    have hj : j < s := by
     rcases Nat.lt_or_ge j s with hj | hj
     ·exact hj
     ·rw [List.getElem?_eq_none (by omega)] at hu; cases hu
    rw [hat j hj, hu]
   obtain ⟨cs0, f0, y0, hl0, ht0, hc0⟩ := hone 0 hpos
   have hspot : a.spot = none := by
    have h1 := hc0 0 cs0[0] (by rw [List.getElem?_eq_getElem (by omega)])
    rw [Nat.zero_mul, Go.Deep.add_add] at h1
    exact spot_none h1
   obtain ⟨b, o, spot⟩ := a
   simp only at hspot
   subst hspot
   refine ⟨b, o, rfl, ?_, fun i hi2 => ?_⟩
   ·have h1 := hc0 0 cs0[0] (by rw [List.getElem?_eq_getElem (by omega)])
    rw [addr_add, addr_add] at h1
    exact block_lt_of_cell h1
   ·obtain ⟨cs, f', y, q1, q2, q3⟩ := hone i hi2
    refine ⟨cs, f', y, q1, q2, fun j u hu => ?_⟩
    have := q3 j u hu
    rwa [addr_add, addr_add] at this
theorem cells53 : Try.prog.cellsOf 53 = 1 := by kernel_rfl
theorem cells100 : Try.prog.cellsOf 100 = 4 := by kernel_rfl
theorem cells30 : Try.prog.cellsOf 30 = 1 := by kernel_rfl
theorem cells32 : Try.prog.cellsOf 32 = 2 := by kernel_rfl
theorem wf_u64 {n : Int} (h : (Lit.int .u64 n).wf = true) : 0 ≤ n ∧ n ≤ 18446744073709551615 := by
 simp [Lit.wf, IntKind.min, IntKind.max, IntKind.signed, IntKind.bits] at h; omega
/-- One row's elements, chosen. -/
theorem row_pick {α : Type} [Inhabited α] {n s b o : Nat} {R : α → Prop} {V : Nat → α → List Value} (hone : ∀ i, i < n → ∃ x : α, R x ∧ ∀ j u, (V i x)[j]? = some u → w.cell? ⟨b, o + i * s + j, none⟩ = some u) :
  ∃ l : List α, l.length = n ∧ (∀ i, (h : i < l.length) → R l[i]) ∧ ∀ i, (h : i < l.length) → ∀ j u, (V i l[i])[j]? = some u → w.cell? ⟨b, o + i * s + j, none⟩ = some u := by
 have hc : ∀ i : Nat, ∃ x : α, i < n → R x ∧ ∀ j u, (V i x)[j]? = some u → w.cell? ⟨b, o + i * s + j, none⟩ = some u := fun i => by
  by_cases hi : i < n
  ·obtain ⟨x, hx⟩ := hone i hi
   exact ⟨x, fun _ => hx⟩
  ·exact ⟨default, fun h => absurd h hi⟩
 refine ⟨(List.range n).map fun i => Classical.choose (hc i), by simp, fun i h => ?_, fun i h => ?_⟩
 ·simp only [List.length_map, List.length_range] at h
  simp only [List.getElem_map, List.getElem_range]
  exact (Classical.choose_spec (hc i) h).1
 ·simp only [List.length_map, List.length_range] at h
  simp only [List.getElem_map, List.getElem_range]
  exact (Classical.choose_spec (hc i) h).2
theorem bytes_cell {fuel : Nat} {c0 : Value} {x : DataW H × List MemPlace} (h : DataW.trod enc Try.prog w 0 (fun _ => true) held fuel 23 [c0] = some x) :
  ∃ (A : Option Addr) (c : Nat) (l : List Int), c0 = .slice A l.length c ∧ BytesOk l ∧ SAt w w.heap.size 1 A l.length (bytesV l) := by
 obtain ⟨A, n, c, rfl, -, -, h0⟩ := row_open Try.underlying23 cells5 (by decide) h
 rcases h0 with rfl | ⟨b, o, rfl, hb, hi⟩
 ·exact ⟨A, c, [], rfl, fun b hb => absurd hb (by simp), SAt.nil_⟩
 ·obtain ⟨l, hl, hR, hV⟩ := row_pick (n := n) (s := 1) (R := fun z : Int => 0 ≤ z ∧ z ≤ 255) (V := fun _ z => [Value.int .u8 z]) (fun i hlt => by
   obtain ⟨cs, f', y, q1, q2, q3⟩ := hi i hlt
   match cs, q1 with
   | [c1], _ =>
    obtain ⟨z, e, -, wz⟩ := DataW.trod_int Try.underlying5 q2
    simp only [List.cons.injEq, and_true] at e
    subst e
    exact ⟨z, wf_u8 wz, q3⟩)
  subst hl
  refine ⟨_, c, l, rfl, fun z hz => ?_, by simp [bytesV], fun _ => ⟨b, o, rfl, hb, fun j u hu => ?_⟩⟩
  ·obtain ⟨i, hi2, rfl⟩ := List.getElem_of_mem hz
   exact hR i hi2
  ·have hj : j < l.length := by
    have := (List.getElem?_eq_some_iff.1 hu).1
    simpa [bytesV] using this
   have := hV j hj 0 (.int .u8 l[j]) rfl
   rw [Nat.mul_one, Nat.add_zero] at this
   rw [this]
   simpa [bytesV, hj] using hu
theorem u64s_cell {fuel : Nat} {c0 : Value} {x : DataW H × List MemPlace} (h : DataW.trod enc Try.prog w 0 (fun _ => true) held fuel 26 [c0] = some x) :
  ∃ (A : Option Addr) (c : Nat) (l : List Int), c0 = .slice A l.length c ∧ (∀ n ∈ l, U64 n) ∧ SAt w w.heap.size 1 A l.length (l.map (Value.int .u64)) := by
 obtain ⟨A, n, c, rfl, -, -, h0⟩ := row_open Try.underlying26 cells53 (by decide) h
 rcases h0 with rfl | ⟨b, o, rfl, hb, hi⟩
 ·exact ⟨A, c, [], rfl, fun b hb => absurd hb (by simp), SAt.nil_⟩
 ·obtain ⟨l, hl, hR, hV⟩ := row_pick (n := n) (s := 1) (R := fun z : Int => U64 z) (V := fun _ z => [Value.int .u64 z]) (fun i hlt => by
   obtain ⟨cs, f', y, q1, q2, q3⟩ := hi i hlt
   match cs, q1 with
   | [c1], _ =>
    obtain ⟨z, e, -, wz⟩ := DataW.trod_int Try.underlying53 q2
    simp only [List.cons.injEq, and_true] at e
    subst e
    exact ⟨z, wf_u64 wz, q3⟩)
  subst hl
  refine ⟨_, c, l, rfl, fun z hz => ?_, by simp, fun _ => ⟨b, o, rfl, hb, fun j u hu => ?_⟩⟩
  ·obtain ⟨i, hi2, rfl⟩ := List.getElem_of_mem hz
   exact hR i hi2
  ·have hj : j < l.length := by
    have := (List.getElem?_eq_some_iff.1 hu).1
    simpa using this
   have := hV j hj 0 (.int .u64 l[j]) rfl
   rw [Nat.mul_one, Nat.add_zero] at this
   rw [this]
   simpa [hj] using hu
theorem fields100 : ∃ f0 f1 f2 f3 : Field, Try.prog.underlying 100 = some (.struct #[f0, f1, f2, f3]) ∧ oneCellFields Try.prog #[f0, f1, f2, f3] = true ∧ f0.type = 4 ∧ f1.type = 3 ∧ f2.type = 3 ∧ f3.type = 3 :=
 ⟨_, _, _, _, Try.underlying100, by kernel_rfl, rfl, rfl, rfl, rfl⟩
theorem def_cells {fuel : Nat} {c0 c1 c2 c3 : Value} {x : DataW H × List MemPlace} (h : DataW.trod enc Try.prog w 0 (fun _ => true) held fuel 100 [c0, c1, c2, c3] = some x) : ∃ d : DefM, [c0, c1, c2, c3] = defV d := by
 obtain ⟨f0, f1, f2, f3, hs, hone, t0, t1, t2, t3⟩ := fields100
 obtain ⟨xs, n, _, _, _, hlen, hg⟩ := DataW.trod_struct hs h
 obtain ⟨o0, k0⟩ := hone_of hone 0 f0 rfl
 obtain ⟨o1, k1⟩ := hone_of hone 1 f1 rfl
 obtain ⟨o2, k2⟩ := hone_of hone 2 f2 rfl
 obtain ⟨o3, k3⟩ := hone_of hone 3 f3 rfl
 match xs, hlen with
 | [y0, y1, y2, y3], _ =>
  have g0 : DataW.trod enc Try.prog w 0 (fun _ => true) held n f0.type [c0] = some y0 := by simpa [o0, k0] using hg 0 f0 rfl
  have g1 : DataW.trod enc Try.prog w 0 (fun _ => true) held n f1.type [c1] = some y1 := by simpa [o1, k1] using hg 1 f1 rfl
  have g2 : DataW.trod enc Try.prog w 0 (fun _ => true) held n f2.type [c2] = some y2 := by simpa [o2, k2] using hg 2 f2 rfl
  have g3 : DataW.trod enc Try.prog w 0 (fun _ => true) held n f3.type [c3] = some y3 := by simpa [o3, k3] using hg 3 f3 rfl
  rw [t0] at g0
  rw [t1] at g1
  rw [t2] at g2
  rw [t3] at g3
  obtain ⟨n0, e0, _⟩ := DataW.trod_bool Try.underlying4 g0
  obtain ⟨n1, e1, _, w1⟩ := DataW.trod_int Try.underlying3 g1
  obtain ⟨n2, e2, _, w2⟩ := DataW.trod_int Try.underlying3 g2
  obtain ⟨n3, e3, _, w3⟩ := DataW.trod_int Try.underlying3 g3
  simp only [List.cons.injEq, and_true] at e0 e1 e2 e3
  subst e0 e1 e2 e3
  exact ⟨⟨n0, n1, n2, n3⟩, rfl⟩
theorem defs_cell {fuel : Nat} {c0 : Value} {x : DataW H × List MemPlace} (h : DataW.trod enc Try.prog w 0 (fun _ => true) held fuel 24 [c0] = some x) :
  ∃ (A : Option Addr) (c : Nat) (l : List DefM), c0 = .slice A l.length c ∧ SAt w w.heap.size 4 A l.length (defsV l) := by
 obtain ⟨A, n, c, rfl, -, -, h0⟩ := row_open Try.underlying24 cells100 (by decide) h
 rcases h0 with rfl | ⟨b, o, rfl, hb, hi⟩
 ·exact ⟨A, c, [], rfl, SAt.nil_⟩
 ·obtain ⟨l, hl, -, hV⟩ := row_pick (n := n) (s := 4) (R := fun _ : DefM => True) (V := fun _ z => defV z) (fun i hlt => by
   obtain ⟨cs, f', y, q1, q2, q3⟩ := hi i hlt
   match cs, q1 with
   | [c1, c2, c3, c4], _ =>
    obtain ⟨d, e⟩ := def_cells q2
    exact ⟨d, trivial, fun j u hu => q3 j u (by rw [e]; exact hu)⟩)
  subst hl
  refine ⟨_, c, l, rfl, by rw [defsV_length], fun _ => ⟨b, o, rfl, hb, fun j u hu => ?_⟩⟩
  have hj : j < l.length * 4 := by
   have := (List.getElem?_eq_some_iff.1 hu).1
   rwa [defsV_length] at this
  have e : j = j / 4 * 4 + j % 4 := by omega
  rw [e] at hu ⊢
  rw [defsV_get l (j / 4) (by omega) (j % 4) (by omega)] at hu
  have := hV (j / 4) (by omega) (j % 4) u hu
  rwa [Nat.add_assoc] at this
theorem fields32 : ∃ f0 f1 : Field, Try.prog.underlying 32 = some (.struct #[f0, f1]) ∧ oneCellFields Try.prog #[f0, f1] = true ∧ f0.type = 23 ∧ f1.type = 23 :=
 ⟨_, _, Try.underlying32, by kernel_rfl, rfl, rfl⟩
theorem item_cells {fuel : Nat} {c0 c1 : Value} {x : DataW H × List MemPlace} (h : DataW.trod enc Try.prog w 0 (fun _ => true) held fuel 32 [c0, c1] = some x) : ∃ y : ItemM, y.Ok ∧ ItemAt w w.heap.size (c0, c1) y := by
 obtain ⟨f0, f1, hs, hone, t0, t1⟩ := fields32
 obtain ⟨xs, n, _, _, _, hlen, hg⟩ := DataW.trod_struct hs h
 obtain ⟨o0, k0⟩ := hone_of hone 0 f0 rfl
 obtain ⟨o1, k1⟩ := hone_of hone 1 f1 rfl
 match xs, hlen with
 | [y0, y1], _ =>
  have g0 : DataW.trod enc Try.prog w 0 (fun _ => true) held n f0.type [c0] = some y0 := by simpa [o0, k0] using hg 0 f0 rfl
  have g1 : DataW.trod enc Try.prog w 0 (fun _ => true) held n f1.type [c1] = some y1 := by simpa [o1, k1] using hg 1 f1 rfl
  rw [t0] at g0
  rw [t1] at g1
  obtain ⟨A1, k1', l1, e1, b1, s1⟩ := bytes_cell g0
  obtain ⟨A2, k2', l2, e2, b2, s2⟩ := bytes_cell g1
  exact ⟨⟨l1, l2⟩, ⟨b1, b2⟩, ⟨A1, k1', e1, s1⟩, ⟨A2, k2', e2, s2⟩⟩
theorem items_cell {fuel : Nat} {c0 : Value} {x : DataW H × List MemPlace} (h : DataW.trod enc Try.prog w 0 (fun _ => true) held fuel 30 [c0] = some x) :
  ∃ (A : Option Addr) (c : Nat) (l : List ItemM) (d : Nat → Value × Value), c0 = .slice A l.length c ∧ (∀ i ∈ l, i.Ok) ∧ ItemsAt w w.heap.size A l d := by
 obtain ⟨A, n, c, rfl, -, -, h0⟩ := row_open Try.underlying30 cells32 (by decide) h
 rcases h0 with rfl | ⟨b, o, rfl, hb, hi⟩
 ·exact ⟨A, c, [], fun _ => (.int .i64 0, .int .i64 0), rfl, fun b hb => absurd hb (by simp), ⟨SAt.nil_, fun i hi => absurd hi (by simp)⟩⟩
 ·haveI : Inhabited (ItemM × (Value × Value)) := ⟨(⟨[], []⟩, .int .i64 0, .int .i64 0)⟩
  obtain ⟨l, hl, hR, hV⟩ := row_pick (n := n) (s := 2) (R := fun p : ItemM × (Value × Value) => p.1.Ok ∧ ItemAt w w.heap.size p.2 p.1) (V := fun _ p => [p.2.1, p.2.2]) (fun i hlt => by
   obtain ⟨cs, f', y, q1, q2, q3⟩ := hi i hlt
   match cs, q1 with
   | [c1, c2], _ =>
    obtain ⟨z, hz, ha⟩ := item_cells q2
    exact ⟨(z, (c1, c2)), ⟨hz, ha⟩, q3⟩)
  subst hl
  have hlen : (l.map Prod.fst).length = l.length := by simp
  have hget : ∀ i, (h : i < l.length) → (l.getD i default) = l[i] := fun i h => by simp [List.getD_eq_getElem?_getD, h]
  refine ⟨some ⟨b, o, none⟩, c, l.map Prod.fst, fun i => (l.getD i default).2, by rw [hlen], fun z hz => ?_, ⟨⟨by rw [itemsV_length], fun _ => ⟨b, o, rfl, hb, fun j u hu => ?_⟩⟩, fun i h => ?_⟩⟩
  ·obtain ⟨p, hp, rfl⟩ := List.mem_map.1 hz
   obtain ⟨i, hi2, rfl⟩ := List.getElem_of_mem hp
   exact (hR i hi2).1
  ·have hj : j < l.length * 2 := by
    have := (List.getElem?_eq_some_iff.1 hu).1
    rwa [itemsV_length, hlen] at this
   have e : j = j / 2 * 2 + j % 2 := by omega
   have hg := itemsV_get (fun i => (l.getD i default).2) (l.map Prod.fst) 0 (j / 2) (by rw [hlen]; omega)
   rw [Nat.zero_add, hget (j / 2) (by omega)] at hg
   rw [e] at hu ⊢
   rcases Nat.mod_two_eq_zero_or_one j with h2 | h2
   ·rw [h2, Nat.add_zero] at hu ⊢
    rw [hg.1] at hu
    have := hV (j / 2) (by omega) 0 u (by simpa using hu)
    simpa using this
   ·rw [h2] at hu ⊢
    rw [hg.2] at hu
    have := hV (j / 2) (by omega) 1 u (by simpa using hu)
    rwa [Nat.add_assoc] at this
  ·have h2 : i < l.length := by simpa using h
   show ItemAt w w.heap.size (l.getD i default).2 (l.map Prod.fst)[i]
   rw [hget i h2, List.getElem_map]
   exact (hR i h2).2
theorem itemss_cell {fuel : Nat} {c0 : Value} {x : DataW H × List MemPlace} (h : DataW.trod enc Try.prog w 0 (fun _ => true) held fuel 25 [c0] = some x) :
  ∃ (A : Option Addr) (c : Nat) (l : List (List ItemM)) (sv : Nat → Value) (dd : Nat → Nat → Value × Value), c0 = .slice A l.length c ∧ (∀ y ∈ l, ∀ i ∈ y, i.Ok) ∧ MapsAt w w.heap.size A l sv dd := by
 obtain ⟨A, n, c, rfl, -, -, h0⟩ := row_open Try.underlying25 cells30 (by decide) h
 rcases h0 with rfl | ⟨b, o, rfl, hb, hi⟩
 ·exact ⟨A, c, [], fun _ => .int .i64 0, fun _ _ => (.int .i64 0, .int .i64 0), rfl, fun b hb => absurd hb (by simp), ⟨SAt.nil_, fun i hi => absurd hi (by simp)⟩⟩
 ·haveI : Inhabited (List ItemM × (Value × (Nat → Value × Value))) := ⟨([], .int .i64 0, fun _ => (.int .i64 0, .int .i64 0))⟩
  obtain ⟨l, hl, hR, hV⟩ := row_pick (n := n) (s := 1) (R := fun p : List ItemM × (Value × (Nat → Value × Value)) => (∀ i ∈ p.1, i.Ok) ∧ ∃ Ai ci, p.2.1 = .slice Ai p.1.length ci ∧ ItemsAt w w.heap.size Ai p.1 p.2.2) (V := fun _ p => [p.2.1]) (fun i hlt => by
   obtain ⟨cs, f', y, q1, q2, q3⟩ := hi i hlt
   match cs, q1 with
   | [c1], _ =>
    obtain ⟨Ai, ci, z, d, e, hz, ha⟩ := items_cell q2
    exact ⟨(z, (c1, d)), ⟨hz, Ai, ci, e, ha⟩, q3⟩)
  subst hl
  have hlen : (l.map Prod.fst).length = l.length := by simp
  have hget : ∀ i, (h : i < l.length) → (l.getD i default) = l[i] := fun i h => by simp [List.getD_eq_getElem?_getD, h]
  refine ⟨some ⟨b, o, none⟩, c, l.map Prod.fst, fun i => (l.getD i default).2.1, fun i => (l.getD i default).2.2, by rw [hlen], fun z hz => ?_, ⟨⟨by rw [slicesV_length, Nat.mul_one], fun _ => ⟨b, o, rfl, hb, fun j u hu => ?_⟩⟩, fun i h => ?_⟩⟩
  ·obtain ⟨p, hp, rfl⟩ := List.mem_map.1 hz
   obtain ⟨i, hi2, rfl⟩ := List.getElem_of_mem hp
   exact (hR i hi2).1
  ·have hj : j < l.length := by
    have := (List.getElem?_eq_some_iff.1 hu).1
    rwa [slicesV_length, hlen] at this
   have hg := slicesV_get (fun i => (l.getD i default).2.1) (l.map Prod.fst) 0 j (by rw [hlen]; exact hj)
   rw [Nat.zero_add, hget j hj] at hg
   rw [hg] at hu
   have := hV j hj 0 u (by simpa using hu)
   rwa [Nat.mul_one, Nat.add_zero] at this
  ·have h2 : i < l.length := by simpa using h
   show ∃ Ai ci, (l.getD i default).2.1 = .slice Ai (l.map Prod.fst)[i].length ci ∧ ItemsAt w w.heap.size Ai (l.map Prod.fst)[i] (l.getD i default).2.2
   rw [hget i h2, List.getElem_map]
   exact (hR i h2).2
theorem fields28 : ∃ f0 f1 f2 f3 : Field, Try.prog.underlying 28 = some (.struct #[f0, f1, f2, f3]) ∧ oneCellFields Try.prog #[f0, f1, f2, f3] = true ∧ f0.type = 23 ∧ f1.type = 24 ∧ f2.type = 25 ∧ f3.type = 26 :=
 ⟨_, _, _, _, Try.underlying28, by kernel_rfl, rfl, rfl, rfl, rfl⟩
theorem cells28 : Try.prog.cellsOf 28 = 4 := by kernel_rfl
theorem array4 {c : Array Value} (h : c.size = 4) : ∃ a b d e, c = #[a, b, d, e] := by
 obtain ⟨l⟩ := c
 match l, h with
 | [a, b, d, e], _ => exact ⟨a, b, d, e, rfl⟩
set_option maxRecDepth 100000 in
/-- An Env, opened. -/
theorem open_env {v : Value} {r : Reach} {b0 : Nat} {d : DataW H} {p : List MemPlace} (hv : Value.okWide Try.prog w r b0 28 v) (h : DataW.Trod enc Try.prog w 0 (fun _ => true) held 28 v d p) :
  ∃ (e : EnvM) (Ac AD AI AR : Option Addr) (cc cD cI cR : Nat) (sv : Nat → Value) (dd : Nat → Nat → Value × Value), v = .agg #[.slice Ac e.ctx.length cc, .slice AD e.defs.length cD, .slice AI e.items.length cI, .slice AR e.draws.length cR] ∧ EnvAt w e Ac AD AI AR sv dd ∧ BytesOk e.ctx ∧ (∀ n ∈ e.draws, U64 n) ∧ (∀ y ∈ e.items, ∀ i ∈ y, i.Ok) := by
 obtain ⟨f0, f1, f2, f3, hs, hone, t0, t1, t2, t3⟩ := fields28
 obtain ⟨cs, rfl, hsz⟩ := okWide_struct hs hv
 obtain ⟨c0, c1, c2, c3, rfl⟩ := array4 (hsz.trans cells28)
 obtain ⟨fuel, hf⟩ := h
 have hf2 : DataW.trod enc Try.prog w 0 (fun _ => true) held fuel 28 [c0, c1, c2, c3] = some (d, p) := by simpa [Value.cells] using hf
 obtain ⟨xs, n, _, _, _, hlen, hg⟩ := DataW.trod_struct hs hf2
 obtain ⟨o0, k0⟩ := hone_of hone 0 f0 rfl
 obtain ⟨o1, k1⟩ := hone_of hone 1 f1 rfl
 obtain ⟨o2, k2⟩ := hone_of hone 2 f2 rfl
 obtain ⟨o3, k3⟩ := hone_of hone 3 f3 rfl
 match xs, hlen with
 | [y0, y1, y2, y3], _ =>
  have g0 : DataW.trod enc Try.prog w 0 (fun _ => true) held n f0.type [c0] = some y0 := by simpa [o0, k0] using hg 0 f0 rfl
  have g1 : DataW.trod enc Try.prog w 0 (fun _ => true) held n f1.type [c1] = some y1 := by simpa [o1, k1] using hg 1 f1 rfl
  have g2 : DataW.trod enc Try.prog w 0 (fun _ => true) held n f2.type [c2] = some y2 := by simpa [o2, k2] using hg 2 f2 rfl
  have g3 : DataW.trod enc Try.prog w 0 (fun _ => true) held n f3.type [c3] = some y3 := by simpa [o3, k3] using hg 3 f3 rfl
  rw [t0] at g0
  rw [t1] at g1
  rw [t2] at g2
  rw [t3] at g3
  obtain ⟨Ac, cc, ctx, rfl, hc1, hc2⟩ := bytes_cell g0
  obtain ⟨AD, cD, defs, rfl, hd⟩ := defs_cell g1
  obtain ⟨AI, cI, items, sv, dd, rfl, hi1, hi2⟩ := itemss_cell g2
  obtain ⟨AR, cR, draws, rfl, hr1, hr2⟩ := u64s_cell g3
  exact ⟨⟨ctx, defs, items, draws⟩, Ac, AD, AI, AR, cc, cD, cI, cR, sv, dd, rfl, ⟨hc2, hd, hi2, hr2⟩, hc1, hr1, hi1⟩
end
end Go.Proofs.Ytncogaikiceidaa
end
