/- The law PackKeeps, walked. No statement is proved here. -/
import Derived.Test.YtgbmeckhagklnaaPackD
namespace Go.Proofs.Ytgbmeckhagklnaa
open Go.RowKit
set_option linter.unusedSimpArgs false
set_option linter.unusedVariables false
set_option linter.unnecessarySimpa false
theorem dropsE_len (n : Nat) : (dropsE n).length = n := by simp [dropsE]
theorem dropsE_next (n : Nat) : editsV (dropsE (n + 1)) = editsV (dropsE n) ++ Edit.drop.cells := by
  unfold dropsE
  rw [List.replicate_succ', editsV_append]
  simp [editsV]
theorem dropsE_ok (n : Nat) : EOk (dropsE n) := by
  intro x hx
  rw [List.eq_of_mem_replicate hx]
  exact edit_ok_drop
set_option maxRecDepth 100000 in
set_option maxHeartbeats 8000000 in
theorem packKeeps_walk (l : List Insn) (hl : ∀ x ∈ l, x.Ok) (A : Option Addr) (c : Nat) (hc : l.length ≤ c) (hc' : c ≤ maxLen) (w : World) (h : SAt w w.heap.size 5 A l.length (insnsV l)) :
    Calls Try.prog 21 #[.slice A l.length c] w fun e w' => e = .returned (.bool true) ∧ Below w.heap.size w w' := by
  obtain ⟨i0, hinf, hz0, hz1, hz2⟩ := info_parts info71
  have hf := few18_is l A c hc hc'
  have hm := h.few 150
  have hml : ∀ x ∈ l.take 150, x.Ok := fun x hx => hl x (List.mem_of_mem_take hx)
  have hmn : (l.take 150).length ≤ 150 := by simp; omega
  have hmc : (l.take 150).length ≤ c := by simp; omega
  replace hf := fun w1 (hb : Below w.heap.size w w1) => hf w1 ((h.below hb).more hb.size)
  generalize l.take 150 = m at *
  clear h hl hc
  have hrw := fun (es : List Edit) (hes : EOk es) (E : Option Addr) (d : Nat) (hd : es.length ≤ 100000) w1 (hb : Below w.heap.size w w1) he => rewrite_any m hml A c hmc hc' (by omega) es hes E d hd w1 ((hm.below hb).more hb.size) he
  have hck := fun w1 (hb : Below w.heap.size w w1) => rcheck_any m hml A c (by omega) w1 ((hm.below hb).more hb.size)
  have hr1 := fun w1 (hb : Below w.heap.size w w1) => hrw [] (fun x hx => absurd hx (List.not_mem_nil)) none 0 (by simp) w1 hb SAt.nil_
  have hr2 := fun (B : Option Addr) (b : Nat) w1 (hb : Below w.heap.size w w1) he => hrw (dropsE m.length) (dropsE_ok _) B b (by rw [dropsE_len]; omega) w1 hb he
  rw [rwM_drops] at hr2
  rw [dropsE_len] at hr2
  have hsame := fun (X : Option Addr) (xc : Nat) w1 (hb : Below w.heap.size w w1) hx => same_any m m X A xc c (by omega) (by omega) w1 hx ((hm.below hb).more hb.size)
  rw [decide_eq_true rfl] at hsame
  clear hrw
  go_enter Try.func21, Try.ntmps21
  go_wp2_with fail
  refine (shown18_any _).mono ?_
  rintro e w1 ⟨rfl, hb1⟩
  go_wp2_with fail
  refine (hf _ hb1).mono ?_
  rintro e w1' ⟨rfl, rfl⟩
  clear hf
  by_cases he : (checkM m).2 = 0
  · rw [rwM_keep he] at hr1
    rw [check_zero he] at hck
    simp only [List.length_nil] at hr1
    try simp only at hck
    clear he
    go_wp2_with fail
    refine (hr1 _ hb1).mono ?_
    rintro e w2 ⟨X, xc, rfl, hx1, hx2, hx3, hb2⟩
    clear hr1
    have hb12 := hb1.trans (hb2.mono hb1.size)
    simp only at hx1 hx2 ⊢
    go_wp2_with fail
    refine (hck _ hb12).mono ?_
    rintro e w3 ⟨rfl, hb3⟩
    clear hck
    have hb13 := hb12.trans (hb3.mono hb12.size)
    have hsm := hsame X xc _ hb13 ((hx1.below hb3).more hb3.size)
    clear hsame hx1
    go_wp2_with fail
    refine hsm.mono ?_
    rintro e w4 ⟨rfl, hb4⟩
    clear hsm
    have hb14 := hb13.trans (hb4.mono hb13.size)
    go_wp2_with fail
    go_loopw [49, 9] (fun k v wr => ∃ (j : Nat) (B : Option Addr) (b : Nat), j ≤ m.length ∧ k = .int .i64 j ∧ v = .slice B j b ∧ wr.ownsRow w4.heap.size 71 7 (.slice B j b) j (editsV (dropsE j)) ∧ Below w4.heap.size w4 wr) (fun k _ _ => m.length - (intOf k).toNat)
    case atStart => exact ⟨0, none, 0, by omega, rfl, rfl, World.ownsRow_nil _ _ _ _, Below.refl _ _⟩
    case round =>
      obtain ⟨j, B, b, hj, rfl, rfl, hown, hbr⟩ := hrel
      by_cases hlt : j < m.length
      · clear hr2
        have hdn := dropsE_next j
        have HDN := Lib.hid hdn
        clear hdn
        go_wp2_with (at_builtin; refine wpList_append_box rfl (.tmp 51) (.tmp 53) 68 rfl w4.heap.size 71 i0 Edit.none.val 7 24 Try.underlying68 hinf hz0 hz1 hz2 rfl (by decide) B j b 1 _ rfl rfl (by simp) hown rfl ?c1 ?c2 ?c3 ?c4 ?c5)
        case c1 => first | exact ⟨rfl, rfl, rfl, rfl, rfl, rfl, rfl⟩ | (intro u hu; simp at hu; rcases hu with rfl | rfl | rfl | rfl | rfl | rfl | rfl <;> rfl) | trivial | decide | simp
        case c2 => simp only [maxLen]; omega
        case c3 => omega
        case c4 => exact hbr.size
        case c5 =>
          intro B' b' w6 h2 h3 h4 h5
          clear h3 h5
          go_wp2
          go_roundw
          case rel =>
            refine ⟨j + 1, B', b', by omega, by go_num, rfl, ?_, hbr.trans h4⟩
            rw [HDN.out]
            exact h2
          case measure => simp [intOf]; omega
      · obtain rfl : j = m.length := by omega
        have hbw := hb14.trans (hbr.mono hb14.size)
        have hsat := SAt.own hown
        have hrr := hr2 B b _ hbw hsat
        clear hr2 hown
        go_wp2_with fail
        refine hrr.mono ?_
        rintro e w7 ⟨Y, yc, rfl, hy1, hy2, hy3, hb7⟩
        clear hrr
        have hbw7 := hbw.trans (hb7.mono hbw.size)
        simp only [List.length_nil] at hy1 hy2 ⊢
        go_wp2_with fail
        go_ret
        exact ⟨rfl, hbw7⟩
  · have hrn := rwM_not (es := []) he
    rw [hrn] at hr1
    clear hrn hsame
    simp only [List.length_nil] at hr1
    generalize checkM m = r at *
    obtain ⟨r0, r1⟩ := r
    simp only at he
    have hq : (r1 == 0) = false := by simp [he]
    go_wp2_with fail
    refine (hr1 _ hb1).mono ?_
    rintro e w2 ⟨X, xc, rfl, hx1, hx2, hx3, hb2⟩
    clear hr1
    have hb12 := hb1.trans (hb2.mono hb1.size)
    simp only [List.length_nil] at hx1 hx2 ⊢
    go_wp2_with fail
    refine (hck _ hb12).mono ?_
    rintro e w3 ⟨rfl, hb3⟩
    clear hck
    have hb13 := hb12.trans (hb3.mono hb12.size)
    go_wp2_with fail
    go_loopw [49, 9] (fun k v wr => ∃ (j : Nat) (B : Option Addr) (b : Nat), j ≤ m.length ∧ k = .int .i64 j ∧ v = .slice B j b ∧ wr.ownsRow w3.heap.size 71 7 (.slice B j b) j (editsV (dropsE j)) ∧ Below w3.heap.size w3 wr) (fun k _ _ => m.length - (intOf k).toNat)
    case atStart => exact ⟨0, none, 0, by omega, rfl, rfl, World.ownsRow_nil _ _ _ _, Below.refl _ _⟩
    case round =>
      obtain ⟨j, B, b, hj, rfl, rfl, hown, hbr⟩ := hrel
      by_cases hlt : j < m.length
      · clear hr2
        have hdn := dropsE_next j
        have HDN := Lib.hid hdn
        clear hdn
        go_wp2_with (at_builtin; refine wpList_append_box rfl (.tmp 51) (.tmp 53) 68 rfl w3.heap.size 71 i0 Edit.none.val 7 24 Try.underlying68 hinf hz0 hz1 hz2 rfl (by decide) B j b 1 _ rfl rfl (by simp) hown rfl ?c1 ?c2 ?c3 ?c4 ?c5)
        case c1 => first | exact ⟨rfl, rfl, rfl, rfl, rfl, rfl, rfl⟩ | (intro u hu; simp at hu; rcases hu with rfl | rfl | rfl | rfl | rfl | rfl | rfl <;> rfl) | trivial | decide | simp
        case c2 => simp only [maxLen]; omega
        case c3 => omega
        case c4 => exact hbr.size
        case c5 =>
          intro B' b' w6 h2 h3 h4 h5
          clear h3 h5
          go_wp2
          go_roundw
          case rel =>
            refine ⟨j + 1, B', b', by omega, by go_num, rfl, ?_, hbr.trans h4⟩
            rw [HDN.out]
            exact h2
          case measure => simp [intOf]; omega
      · obtain rfl : j = m.length := by omega
        have hbw := hb13.trans (hbr.mono hb13.size)
        have hsat := SAt.own hown
        have hrr := hr2 B b _ hbw hsat
        clear hr2 hown
        go_wp2_with fail
        refine hrr.mono ?_
        rintro e w7 ⟨Y, yc, rfl, hy1, hy2, hy3, hb7⟩
        clear hrr
        have hbw7 := hbw.trans (hb7.mono hbw.size)
        simp only [List.length_nil] at hy1 hy2 ⊢
        go_wp2_with fail
        go_ret
        exact ⟨rfl, hbw7⟩
end Go.Proofs.Ytgbmeckhagklnaa
