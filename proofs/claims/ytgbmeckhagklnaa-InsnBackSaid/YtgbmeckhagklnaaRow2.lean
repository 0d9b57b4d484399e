/- An array of eight bytes as an argument, opened. No statement is proved here. -/
import Derived.Test.YtgbmeckhagklnaaRow
import Derived.Test.YtgbmeckhagklnaaInsn4
import Derived.OpenShut
namespace Go.Proofs.Ytgbmeckhagklnaa
open Go.ChangeShapes Go.WideShapes Go.ChangeAt Go.RowKit Go.Deep
section
variable {H : Type} {enc : TypeId × Value → H} {w : World} {held : Bool}
theorem array8 {c : Array Value} (h : c.size = 8) : ∃ a0 a1 a2 a3 a4 a5 a6 a7, c = #[a0, a1, a2, a3, a4, a5, a6, a7] := by
  obtain ⟨l⟩ := c
  match l, h with
  | [a0, a1, a2, a3, a4, a5, a6, a7], _ => exact ⟨a0, a1, a2, a3, a4, a5, a6, a7, rfl⟩
theorem cells41 : Try.prog.cellsOf 41 = 8 := by kernel_rfl
theorem okWide_array {P : Program} {r : Reach} {base : Nat} {t e : TypeId} {n : Nat} {v : Value} (ht : P.underlying t = some (.array n e)) (h : Value.okWide P w r base t v) : ∃ cs, v = .agg cs ∧ cs.size = P.cellsOf t := by
  simp only [Value.okWide, ht] at h
  obtain ⟨cs, h1, h2, _⟩ := h
  exact ⟨cs, h1, h2⟩
set_option maxRecDepth 100000 in
theorem open_eight {base : Nat} {spare : Nat → Bool} {r : Reach} {b0 : Nat} {v : Value} {d : DataW H} {p : List MemPlace} (hv : Value.okWide Try.prog w r b0 41 v) (h : DataW.Trod enc Try.prog w base spare held 41 v d p) :
    ∃ c0 c1 c2 c3 c4 c5 c6 c7, isByte c0 ∧ isByte c1 ∧ isByte c2 ∧ isByte c3 ∧ isByte c4 ∧ isByte c5 ∧ isByte c6 ∧ isByte c7 ∧ v = .agg #[.int .u8 c0, .int .u8 c1, .int .u8 c2, .int .u8 c3, .int .u8 c4, .int .u8 c5, .int .u8 c6, .int .u8 c7] := by
  obtain ⟨cs, rfl, hsz⟩ := okWide_array Try.underlying41 hv
  obtain ⟨a0, a1, a2, a3, a4, a5, a6, a7, rfl⟩ := array8 (hsz.trans cells41)
  obtain ⟨fuel, hf⟩ := h
  obtain ⟨xs, m, _, _, _, hlen, hg⟩ := DataW.trod_array Try.underlying41 hf
  have get : ∀ i, i < 8 → ∃ n, ([a0, a1, a2, a3, a4, a5, a6, a7].drop (i * 1)).take 1 = [Value.int .u8 n] ∧ isByte n := by
    intro i hi
    have h1 := hg i hi
    rw [cells5] at h1
    rw [List.getElem?_eq_getElem (by omega)] at h1
    obtain ⟨n, e0, _, w0⟩ := DataW.trod_int Try.underlying5 h1
    exact ⟨n, e0, wf_u8 w0⟩
  obtain ⟨n0, e0, q0⟩ := get 0 (by omega)
  obtain ⟨n1, e1, q1⟩ := get 1 (by omega)
  obtain ⟨n2, e2, q2⟩ := get 2 (by omega)
  obtain ⟨n3, e3, q3⟩ := get 3 (by omega)
  obtain ⟨n4, e4, q4⟩ := get 4 (by omega)
  obtain ⟨n5, e5, q5⟩ := get 5 (by omega)
  obtain ⟨n6, e6, q6⟩ := get 6 (by omega)
  obtain ⟨n7, e7, q7⟩ := get 7 (by omega)
  simp at e0 e1 e2 e3 e4 e5 e6 e7
  subst e0 e1 e2 e3 e4 e5 e6 e7
  exact ⟨_, _, _, _, _, _, _, _, q0, q1, q2, q3, q4, q5, q6, q7, rfl⟩
end
end Go.Proofs.Ytgbmeckhagklnaa
