/- The law PackTells, walked. No statement is proved here. -/
import Derived.Test.YtgbmeckhagklnaaPackF
namespace Go.Proofs.Ytgbmeckhagklnaa
open Go.RowKit
set_option linter.unusedSimpArgs false
set_option linter.unusedVariables false
set_option linter.unnecessarySimpa false
theorem SAt.fewE {W : World} {B : Nat} {A : Option Addr} {l : List Edit} (h : SAt W B 7 A l.length (editsV l)) (n : Nat) : SAt W B 7 A (l.take n).length (editsV (l.take n)) := by
  have := h.cut (k := (l.take n).length) (by simp; omega)
  have e : (editsV l).take ((l.take n).length * 7) = editsV (l.take n) := by
    have e2 : editsV l = editsV (l.take n) ++ editsV (l.drop n) := by rw [← editsV_append, List.take_append_drop]
    rw [e2, List.take_append_of_le_length (by rw [editsV_length]; exact Nat.le_refl _)]
    exact List.take_of_length_le (by rw [editsV_length]; exact Nat.le_refl _)
  rwa [e] at this
theorem rwM_len {l : List Insn} {es : List Edit} : (rwM l es).1.length ≤ 2 * l.length := by
  cases hr : (rwM l es).2
  · rw [rwM_no hr]; simp
  · rw [(rwM_yes hr).2.2]; have := plN_le l es l.length; omega
set_option maxRecDepth 100000 in
set_option maxHeartbeats 8000000 in
theorem packTells_walk (l : List Insn) (hl : ∀ x ∈ l, x.Ok) (A : Option Addr) (c : Nat) (hc : l.length ≤ c) (hc' : c ≤ maxLen) (es : List Edit) (hes : EOk es) (hek : ∀ x ∈ es, 0 ≤ x.kind) (E : Option Addr) (d : Nat) (hd : es.length ≤ d) (hd' : d ≤ maxLen) (i : Int) (hi0 : -9223372036854775808 ≤ i) (hi1 : i ≤ 9223372036854775807) (w : World) (h : SAt w w.heap.size 5 A l.length (insnsV l)) (he : SAt w w.heap.size 7 E es.length (editsV es)) :
    Calls Try.prog 24 #[.slice A l.length c, .slice E es.length d, .int .i64 i] w fun e w' => e = .returned (.bool true) ∧ Below w.heap.size w w' := by
  have hf := few18_is l A c hc hc'
  have hg := some18_is es E d hd hd'
  have hm := h.few 150
  have hy := he.fewE 160
  have hml : ∀ x ∈ l.take 150, x.Ok := fun x hx => hl x (List.mem_of_mem_take hx)
  have hyo : EOk (es.take 160) := fun x hx => hes x (List.mem_of_mem_take hx)
  have hyk : ∀ x ∈ es.take 160, 0 ≤ x.kind := fun x hx => hek x (List.mem_of_mem_take hx)
  have hmn : (l.take 150).length ≤ 150 := by simp; omega
  have hyn : (es.take 160).length ≤ 160 := by simp; omega
  have hmc : (l.take 150).length ≤ c := by simp; omega
  replace hf := fun w1 (hb : Below w.heap.size w w1) => hf w1 ((h.below hb).more hb.size)
  replace hg := fun w1 (hb : Below w.heap.size w w1) => hg w1 ((he.below hb).more hb.size)
  generalize l.take 150 = m at *
  generalize es.take 160 = y at *
  clear h he hl hc hes hek hd hd'
  have hrw := fun w1 (hb : Below w.heap.size w w1) => rewrite_any m hml A c hmc hc' (by omega) y hyo E d (by omega) w1 ((hm.below hb).more hb.size) ((hy.below hb).more hb.size)
  have hrr := fun w1 (hb : Below w.heap.size w w1) => rrewrite_any m hml A c (by omega) y hyo hyk E d (by omega) w1 ((hm.below hb).more hb.size) ((hy.below hb).more hb.size)
  have hpl := fun w1 (hb : Below w.heap.size w w1) => Place_any m hml A c hmc hc' (by omega) y E d (by omega) i hi0 hi1 w1 ((hm.below hb).more hb.size) ((hy.below hb).more hb.size)
  have hrp := fun w1 (hb : Below w.heap.size w w1) => rPlace_any m hml A c (by omega) y E d (by omega) i hi0 hi1 w1 ((hm.below hb).more hb.size) ((hy.below hb).more hb.size)
  have hlenX : (rwM m y).1.length ≤ 100000 := by have := rwM_len (l := m) (es := y); omega
  generalize placeI m y i = pp at *
  generalize rwM m y = rr at *
  obtain ⟨out, ok⟩ := rr
  simp only at hlenX
  go_enter Try.func24, Try.ntmps24
  go_wp2_with fail
  refine (hf _ (Below.refl _ _)).mono ?_
  rintro e w1 ⟨rfl, rfl⟩
  go_wp2_with fail
  refine (hg _ (Below.refl _ _)).mono ?_
  rintro e w2 ⟨rfl, rfl⟩
  go_wp2_with fail
  refine (hrw _ (Below.refl _ _)).mono ?_
  rintro e w3 ⟨X, xc, rfl, hx1, hx2, hx3, hb3⟩
  clear hrw
  simp only at hx1 hx2 ⊢
  go_wp2_with fail
  refine (hf _ hb3).mono ?_
  rintro e w4 ⟨rfl, rfl⟩
  go_wp2_with fail
  refine (hg _ hb3).mono ?_
  rintro e w5 ⟨rfl, rfl⟩
  go_wp2_with fail
  refine (hrr _ hb3).mono ?_
  rintro e w6 ⟨Z, zc, rfl, hz1, hz2, hz3, hb6⟩
  clear hrr
  have hb6' := hb3.trans (hb6.mono hb3.size)
  have hx6 := (hx1.below hb6).more hb6.size
  clear hx1
  simp only at hz1 hz2 ⊢
  go_wp2_with fail
  refine (shown18_any _).mono ?_
  rintro e w7 ⟨rfl, hb7⟩
  have hb7' := hb6'.trans (hb7.mono hb6'.size)
  have hsm := same_any out out X Z xc zc hlenX hlenX w7 ((hx6.below hb7).more hb7.size) ((hz1.below hb7).more hb7.size)
  rw [decide_eq_true rfl] at hsm
  clear hx6 hz1
  go_wp2_with fail
  refine hsm.mono ?_
  rintro e w8 ⟨rfl, hb8⟩
  clear hsm
  have hb8' := hb7'.trans (hb8.mono hb7'.size)
  go_wp2_with fail
  refine (hf _ hb8').mono ?_
  rintro e w9 ⟨rfl, rfl⟩
  go_wp2_with fail
  refine (hg _ hb8').mono ?_
  rintro e w10 ⟨rfl, rfl⟩
  go_wp2_with fail
  refine (hpl _ hb8').mono ?_
  rintro e w11 ⟨rfl, hb11⟩
  clear hpl
  have hb11' := hb8'.trans (hb11.mono hb8'.size)
  go_wp2_with fail
  refine (hf _ hb11').mono ?_
  rintro e w12 ⟨rfl, rfl⟩
  go_wp2_with fail
  refine (hg _ hb11').mono ?_
  rintro e w13 ⟨rfl, rfl⟩
  go_wp2_with fail
  refine (hrp _ hb11').mono ?_
  rintro e w14 ⟨rfl, hb14⟩
  clear hrp hf hg
  go_wp2_with fail
  go_ret
  exact ⟨rfl, hb11'.trans (hb14.mono hb11'.size)⟩
end Go.Proofs.Ytgbmeckhagklnaa
