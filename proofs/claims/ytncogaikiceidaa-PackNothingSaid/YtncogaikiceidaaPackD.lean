/- Same of lists: a contract. No statement is proved here. -/
import Derived.Test.YtncogaikiceidaaPackR
import Derived.Test.YtncogaikiceidaaInsn1
section
namespace Go.Proofs.Ytncogaikiceidaa
open Go.RowKit
set_option linter.unusedSimpArgs false
set_option linter.unusedVariables false
set_option maxRecDepth 100000 in
set_option maxHeartbeats 4000000 in
theorem same_any (a b : List Insn) (A B : Option Addr) (c d : Nat) (hn : a.length ≤ 100000) (hm : b.length ≤ 100000) (w : World) (ha : SAt w w.heap.size 5 A a.length (insnsV a)) (hb : SAt w w.heap.size 5 B b.length (insnsV b)) :
    Calls Try.prog 12 #[.slice A a.length c, .slice B b.length d] w fun e w' => e = .returned (.bool (decide (a = b))) ∧ Below w.heap.size w w' := by
  by_cases hl : a.length = b.length
  · rw [← hl] at hb hm ⊢
    go_enter Try.func12, Try.ntmps12
    go_wp2_with fail
    go_loopw [5] (fun k wr => ∃ j : Nat, j ≤ a.length ∧ k = .int .i64 j ∧ (∀ i, i < j → at' a i = at' b i) ∧ Below w.heap.size w wr) (fun k _ => a.length - (intOf k).toNat)
    case atStart => exact ⟨0, by omega, rfl, fun i hi => absurd hi (by omega), Below.refl _ _⟩
    case round =>
      obtain ⟨j, hj, rfl, heq, hbr⟩ := hrel
      rcases Nat.lt_or_ge j a.length with hlt | hge
      · obtain ⟨p, o, rfl, hp, c0, c1, c2, c3, c4⟩ := ha.insn hlt
        obtain ⟨q, o', rfl, hq, d0, d1, d2, d3, d4⟩ := SAt.insn (l := b) (by rw [← hl]; exact hb) (show j < b.length by omega)
        replace c0 := c0 _ hbr
        replace c1 := c1 _ hbr
        replace c2 := c2 _ hbr
        replace c3 := c3 _ hbr
        replace c4 := c4 _ hbr
        replace d0 := d0 _ hbr
        replace d1 := d1 _ hbr
        replace d2 := d2 _ hbr
        replace d3 := d3 _ hbr
        replace d4 := d4 _ hbr
        have hne := neq_insn (at' a j) (at' b j)
        have hj1 : (j : Int) < (a.length : Int) := by omega
        by_cases hxy : at' a j = at' b j
        · have hd : decide (at' a j = at' b j) = true := by simp [hxy]
          rw [hd] at hne
          clear hd
          go_wp2_with fail
          go_quiet (fail)
          go_wp2_with fail
          go_roundw
          case rel =>
            refine ⟨j + 1, by omega, by go_num, fun i hi => ?_, below_drewN hbr _⟩
            rcases Nat.lt_or_ge i j with h1 | h1
            · exact heq i h1
            · obtain rfl : i = j := by omega
              exact hxy
          case measure => simp [intOf]; omega
        · have hd : decide (at' a j = at' b j) = false := by simp [hxy]
          rw [hd] at hne
          clear hd
          go_wp2_with fail
          go_quiet (fail)
          go_wp2_with fail
          go_ret
          refine ⟨?_, below_drewN hbr _⟩
          rw [decide_eq_false (show ¬ a = b from fun e => hxy (by rw [e]))]
          rfl
      · go_wp2_with fail
        go_ret
        refine ⟨?_, hbr⟩
        rw [decide_eq_true (show a = b from list_eq_at hl (fun i hi => heq i (by omega)))]
        rfl
  · have hl' : ¬ (a.length : Int) = (b.length : Int) := by omega
    go_enter Try.func12, Try.ntmps12
    go_wp2_with fail
    go_ret
    exact ⟨by rw [decide_eq_false (show ¬ a = b from fun e => hl (by rw [e]))]; rfl, Below.refl _ _⟩
end Go.Proofs.Ytncogaikiceidaa
end
section
namespace Go.Proofs.Ytncogaikiceidaa
open Go.RowKit
set_option linter.unusedSimpArgs false
set_option linter.unusedVariables false
set_option linter.unnecessarySimpa false
def packL : List Insn := [⟨183, 0, 0, 0, 1⟩, ⟨5, 0, 0, 1, 0⟩, ⟨183, 0, 0, 0, 2⟩, ⟨149, 0, 0, 0, 0⟩]
def packA : List Edit := [Edit.none, Edit.drop]
def packB : List Edit := [Edit.none, Edit.none, Edit.drop]
def packX : List Insn := [⟨183, 0, 0, 0, 1⟩, ⟨183, 0, 0, 0, 2⟩, ⟨149, 0, 0, 0, 0⟩]
def packY : List Insn := [⟨183, 0, 0, 0, 1⟩, ⟨5, 0, 0, 0, 0⟩, ⟨149, 0, 0, 0, 0⟩]
theorem pack_one : rwM packL packA = (packX, true) := by decide +kernel
theorem pack_two : rwM packL packB = (packY, true) := by decide +kernel
theorem packL_ok : ∀ x ∈ packL, x.Ok := by
  intro x hx
  simp only [packL, List.mem_cons, List.not_mem_nil, or_false] at hx
  rcases hx with rfl | rfl | rfl | rfl <;> (refine ⟨?_, ?_, ?_, ?_, ?_, ?_, ?_, ?_, ?_, ?_⟩ <;> decide)
theorem edit_ok_none : Edit.none.x.Ok ∧ -9223372036854775808 ≤ Edit.none.to ∧ Edit.none.to ≤ 9223372036854775807 := ⟨Insn.zero_ok, by decide, by decide⟩
theorem edit_ok_drop : Edit.drop.x.Ok ∧ -9223372036854775808 ≤ Edit.drop.to ∧ Edit.drop.to ≤ 9223372036854775807 := ⟨Insn.zero_ok, by decide, by decide⟩
theorem packA_ok : EOk packA := by
  intro x hx
  simp only [packA, List.mem_cons, List.not_mem_nil, or_false] at hx
  rcases hx with rfl | rfl
  · exact edit_ok_none
  · exact edit_ok_drop
theorem packB_ok : EOk packB := by
  intro x hx
  simp only [packB, List.mem_cons, List.not_mem_nil, or_false] at hx
  rcases hx with rfl | rfl | rfl
  iterate 2
    · exact edit_ok_none
  · exact edit_ok_drop
set_option maxRecDepth 100000 in
set_option maxHeartbeats 8000000 in
theorem shown18_any (w : World) : Calls Try.prog 4 #[] w fun e w' => e = .returned (.bool true) ∧ Below w.heap.size w w' := by
  have hb0 : Below w.heap.size w (w.alloc (.cells (insnsV packL).toArray 40)) := (Below.refl _ _).alloc (Nat.le_refl _) _
  have hl0 : SAt (w.alloc (.cells (insnsV packL).toArray 40)) (w.alloc (.cells (insnsV packL).toArray 40)).heap.size 5 (some ⟨w.heap.size, 0, none⟩) packL.length (insnsV packL) := (sat_new w 40 (insnsV packL).toArray 5 4 rfl).more (by simp)
  have hw1 : ∀ W1, Below (w.alloc (.cells (insnsV packL).toArray 40)).heap.size (w.alloc (.cells (insnsV packL).toArray 40)) W1 → SAt W1 W1.heap.size 5 (some ⟨w.heap.size, 0, none⟩) packL.length (insnsV packL) := fun W1 hb => (hl0.below hb).more hb.size
  have hA := fun W1 (hb : Below (w.alloc (.cells (insnsV packL).toArray 40)).heap.size (w.alloc (.cells (insnsV packL).toArray 40)) W1) =>
    rewrite_any packL packL_ok (some ⟨w.heap.size, 0, none⟩) 4 (by decide) (by decide) (by decide) packA packA_ok (some ⟨W1.heap.size, 0, none⟩) 2 (by decide) (W1.alloc (.cells (editsV packA).toArray 48)) (hw1 _ (hb.alloc hb.size _)) ((sat_new W1 48 (editsV packA).toArray 7 2 rfl).more (by simp))
  have hB := fun W1 (hb : Below (w.alloc (.cells (insnsV packL).toArray 40)).heap.size (w.alloc (.cells (insnsV packL).toArray 40)) W1) =>
    rewrite_any packL packL_ok (some ⟨w.heap.size, 0, none⟩) 4 (by decide) (by decide) (by decide) packB packB_ok (some ⟨W1.heap.size, 0, none⟩) 3 (by decide) (W1.alloc (.cells (editsV packB).toArray 48)) (hw1 _ (hb.alloc hb.size _)) ((sat_new W1 48 (editsV packB).toArray 7 3 rfl).more (by simp))
  rw [pack_one] at hA
  rw [pack_two] at hB
  clear hw1 hl0
  generalize hW : w.alloc (.cells (insnsV packL).toArray 40) = W at *
  have hW' : w.alloc (.cells #[.int .u8 183, .int .u8 0, .int .u8 0, .int .i16 0, .int .i32 1, .int .u8 5, .int .u8 0, .int .u8 0, .int .i16 1, .int .i32 0, .int .u8 183, .int .u8 0, .int .u8 0, .int .i16 0, .int .i32 2, .int .u8 149, .int .u8 0, .int .u8 0, .int .i16 0, .int .i32 0] 40) = W := hW
  have HW := Lib.hid hW'
  have hWs : W.heap.size = w.heap.size + 1 := by rw [← hW]; simp
  have HS := Lib.hid hWs
  clear hW hW' hWs
  go_enter Try.func4, Try.ntmps4
  go_upto_region 2 with fail
  rw [HW.out]
  clear HW
  have hA1 := hA W (Below.refl _ _)
  go_wp2_with fail
  refine Calls.mono hA1 ?_
  rintro e w1 ⟨X, xc, rfl, hx1, hx2, hx3, hb1, -⟩
  clear hA1 hA
  have hbA := (Below.refl W.heap.size W).alloc (Nat.le_refl _) (.cells (editsV packA).toArray 48)
  have hb1W : Below W.heap.size W w1 := hbA.trans (hb1.mono hbA.size)
  have hB1 := hB w1 hb1W
  go_wp2_with fail
  refine Calls.mono hB1 ?_
  rintro e w2 ⟨Y, yc, rfl, hy1, hy2, hy3, hb2, -⟩
  clear hB1 hB
  have hbB := (Below.refl w1.heap.size w1).alloc (Nat.le_refl _) (.cells (editsV packB).toArray 48)
  have hb12 : Below w1.heap.size w1 w2 := hbB.trans (hb2.mono hbB.size)
  have hb2W := hb1W.trans (hb12.mono hb1W.size)
  have hx' := (hx1.below hb12).more hb12.size
  have hcx := (Below.refl w2.heap.size w2).alloc (Nat.le_refl _) (.cells (insnsV packX).toArray 40)
  have hs1 := same_any packX packX X (some ⟨w2.heap.size, 0, none⟩) xc 3 (by decide) (by decide) (w2.alloc (.cells (insnsV packX).toArray 40)) ((hx'.below hcx).more hcx.size) ((sat_new w2 40 (insnsV packX).toArray 5 3 rfl).more (by simp))
  rw [decide_eq_true rfl] at hs1
  clear hx1 hx2 hx3
  go_wp2_with fail
  refine Calls.mono hs1 ?_
  rintro e w3 ⟨rfl, hb3⟩
  clear hs1
  have hb23 : Below w2.heap.size w2 w3 := hcx.trans (hb3.mono hcx.size)
  have hb3W := hb2W.trans (hb23.mono hb2W.size)
  have hy' := (hy1.below hb23).more hb23.size
  have hcy := (Below.refl w3.heap.size w3).alloc (Nat.le_refl _) (.cells (insnsV packY).toArray 40)
  have hs2 := same_any packY packY Y (some ⟨w3.heap.size, 0, none⟩) yc 3 (by decide) (by decide) (w3.alloc (.cells (insnsV packY).toArray 40)) ((hy'.below hcy).more hcy.size) ((sat_new w3 40 (insnsV packY).toArray 5 3 rfl).more (by simp))
  rw [decide_eq_true rfl] at hs2
  go_wp2_with fail
  refine Calls.mono hs2 ?_
  rintro e w4 ⟨rfl, hb4⟩
  clear hs2 hx' hy' hy1
  have hb34 : Below w3.heap.size w3 w4 := hcy.trans (hb4.mono hcy.size)
  have hb4W := hb3W.trans (hb34.mono hb3W.size)
  have hfin := hb0.trans (hb4W.mono hb0.size)
  go_wp2_with fail
  go_ret
  exact ⟨rfl, hfin⟩
end Go.Proofs.Ytncogaikiceidaa
end
