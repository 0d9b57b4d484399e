/- The closed run: a step, its result, what is noted, a place, the reference's Program. No statement is proved here. -/
import Derived.Test.YtbfgffmebniooaaGreatShow1
import Derived.Deep.MidRow
import Derived.Deep.WholeRow
import Derived.Great.BuildSlice
import Derived.Test.YtbfgffmebniooaaGreatHopC
import Derived.Deep.Upon

section
/- The step of a walk at the three places of the closed run. No statement is proved here. -/
namespace Go.Proofs.YtbfgffmebniooaaGreat
open Go.RowKit
set_option linter.unusedSimpArgs false
set_option linter.unusedVariables false
set_option linter.unnecessarySimpa false
set_option maxRecDepth 100000 in
theorem rdefs9_nil (w : World) : Calls Tryz.prog 41 #[.slice none 0 0] w fun e w' => e = .returned (.bool true) ∧ Below w.heap.size w w' := by
  go_enter Tryz.func41, Tryz.ntmps41
  go_wp2_with fail
  go_loopw [3] (fun k wr => k = .int .i64 0 ∧ wr = w) (fun k _ => 0)
  case atStart => exact ⟨rfl, rfl⟩
  case round =>
    obtain ⟨rfl, rfl⟩ := hrel
    go_wp2_with fail
    go_ret
    exact ⟨rfl, Below.refl _ _⟩
set_option maxRecDepth 100000 in
theorem rgiven14 (w : World) : Calls Tryz.prog 28 #[.agg #[.slice none 0 0, .int .i64 0]] w fun e w' => e = .returned (.bool true) ∧ Below w.heap.size w w' := by
  have q0 := heap1_0 w (.cells #[.slice none 0 0, .int .i64 0] 59)
  have k0 := boxc (k := 0) (u := .slice none 0 0) q0 rfl
  have k1 := boxc (k := 1) (u := .int .i64 0) q0 rfl
  clear q0
  have hW0 : Below w.heap.size w (w.alloc (.cells #[.slice none 0 0, .int .i64 0] 59)) := below_boxes1 _ _
  have hrf := Below.refl (w.alloc (.cells #[.slice none 0 0, .int .i64 0] 59)).heap.size (w.alloc (.cells #[.slice none 0 0, .int .i64 0] 59))
  go_enter Tryz.func28, Tryz.ntmps28
  go_upto_region 1 with fail
  generalize w.alloc (.cells #[.slice none 0 0, .int .i64 0] 59) = W at *
  go_wp2_with fail
  refine (rdefs9_nil _).mono ?_
  rintro e w1 ⟨rfl, hb1⟩
  have A1 := k1 _ hb1
  go_wp2_with fail
  go_ret
  exact ⟨rfl, hW0.trans (hb1.mono hW0.size)⟩

theorem info108 : (Tryz.prog.info? 108).map (·.size) = some 604 := by kernel_rfl
/-- The program of the closed run. -/
def P3 : List Insn := [⟨183, 0, 0, 0, 5⟩, ⟨7, 0, 0, 0, 2⟩, ⟨149, 0, 0, 0, 0⟩]
theorem P3_ok : ∀ x ∈ P3, x.Ok := by
  intro x hx
  simp only [P3, List.mem_cons, List.not_mem_nil, or_false] at hx
  rcases hx with rfl | rfl | rfl <;> constructor <;> decide
theorem P3_check : checkM P3 = (0, 0) := by decide +kernel
theorem P3_len : P3.length = 3 := rfl
theorem rcheck_P3 (Ad : Option Addr) (c : Nat) (w : World) (hat : SAt w w.heap.size 5 Ad 3 (insnsV P3)) : Calls Tryz.prog 14 #[.slice Ad 3 c] w fun e w' => e = .returned (.tuple #[.int .i64 0, .int .i64 0]) ∧ Below w.heap.size w w' := by
  have := rcheck_any P3 P3_ok Ad c (by decide) w hat
  rw [P3_check] at this
  exact this
theorem rstarts_P3 (Ad : Option Addr) (c : Nat) (w : World) (hat : SAt w w.heap.size 5 Ad 3 (insnsV P3)) : Calls Tryz.prog 15 #[.slice Ad 3 c] w fun e w' => (∃ b o c, e = .returned (.slice (some ⟨b, o, none⟩) 3 c) ∧ ∀ w'', Below w'.heap.size w' w'' → w''.cell? ⟨b, o, none⟩ = some (.bool true) ∧ w''.cell? ⟨b, o + 1, none⟩ = some (.bool true) ∧ w''.cell? ⟨b, o + 2, none⟩ = some (.bool true)) ∧ Below w.heap.size w w' := by
  refine (rstarts_any P3 Ad c (by decide) w hat).mono ?_
  rintro e w' ⟨A, c1, rfl, h1, h2⟩
  obtain ⟨b, o, rfl, hb, hk⟩ := h1.flag (by decide)
  exact ⟨⟨b, o, c1, rfl, fun w'' h => ⟨hk 0 (by decide) w'' h, hk 1 (by decide) w'' h, hk 2 (by decide) w'' h⟩⟩, h2⟩
theorem rsem_P3_0 (w : World) : Calls Tryz.prog 25 #[.agg #[.int .u8 183, .int .u8 0, .int .u8 0, .int .i16 0, .int .i32 5]] w fun e w' => e = .returned (.tuple #[.agg #[.int .u8 1, .int .u8 176, .bool true, .bool false, .bool false, .int .i64 0], .bool true]) ∧ Below w.heap.size w w' := by
  have := rsem_any (⟨183, 0, 0, 0, 5⟩ : Insn) (P3_ok _ (by decide)) w
  rw [show sem (⟨183, 0, 0, 0, 5⟩ : Insn) = ((⟨1, 176, true, false, false, 0⟩ : What), true) by decide +kernel] at this
  exact this
theorem rsem_P3_1 (w : World) : Calls Tryz.prog 25 #[.agg #[.int .u8 7, .int .u8 0, .int .u8 0, .int .i16 0, .int .i32 2]] w fun e w' => e = .returned (.tuple #[.agg #[.int .u8 1, .int .u8 0, .bool true, .bool false, .bool false, .int .i64 0], .bool true]) ∧ Below w.heap.size w w' := by
  have := rsem_any (⟨7, 0, 0, 0, 2⟩ : Insn) (P3_ok _ (by decide)) w
  rw [show sem (⟨7, 0, 0, 0, 2⟩ : Insn) = ((⟨1, 0, true, false, false, 0⟩ : What), true) by decide +kernel] at this
  exact this
theorem rsem_P3_2 (w : World) : Calls Tryz.prog 25 #[.agg #[.int .u8 149, .int .u8 0, .int .u8 0, .int .i16 0, .int .i32 0]] w fun e w' => e = .returned (.tuple #[.agg #[.int .u8 12, .int .u8 0, .bool false, .bool false, .bool false, .int .i64 0], .bool true]) ∧ Below w.heap.size w w' := by
  have := rsem_any (⟨149, 0, 0, 0, 0⟩ : Insn) (P3_ok _ (by decide)) w
  rw [show sem (⟨149, 0, 0, 0, 0⟩ : Insn) = ((⟨12, 0, false, false, false, 0⟩ : What), true) by decide +kernel] at this
  exact this
theorem store_new108 (w : World) (K : List Value) (hn : K.length = 604) (h1 : ∀ v ∈ K, v.oneCell' = true) : (storeCells ⟨w.heap.size, 0, none⟩ K 0).run Tryz.prog (w.alloc (.cells Tryz.zeroCells108 108)) = .ok () (w.alloc (.cells K.toArray 108)) := by
  have := run_storeCells_new (P := Tryz.prog) w 108 Tryz.zeroCells108 K.toArray (by rw [info108]; simp [hn]) (by rw [Tryz.zeroCells108_size]; simp [hn]) (all_oneCell_toArray h1)
  simpa using this

attribute [local go_sem ↓] ldFrom_589 ldFrom_604 mkS89_eq mkW94_eq mkW108_eq
set_option maxRecDepth 100000 in
set_option maxHeartbeats 4000000 in
theorem rStep14_0 (Ad : Option Addr) (c : Nat) (w : World) (hat : SAt w w.heap.size 5 Ad 3 (insnsV P3)) :
    Calls Tryz.prog 43 #[.slice Ad 3 c, .agg #[.slice none 0 0, .int .i64 0], .int .i64 0, .agg (SVl [.int .u8 0, .int .u64 0, .int .u64 0, .int .u64 0, .int .u64 0, .int .i64 0, .int .i64 0]).toArray] w fun e w' => ∃ b, e = .returned (.tuple #[.slice (some ⟨b, 0, none⟩) 1 1, .int .i64 0]) ∧ w.heap.size ≤ b ∧ w'.rangeAt b 0 (.int .i64 1 :: SVl [.int .u8 1, .int .u64 5, .int .u64 0, .int .u64 5, .int .u64 5, .int .i64 0, .int .i64 0]) ∧ Below w.heap.size w w' := by
  have hck := fun (w1 : World) (hb : Below w.heap.size w w1) => rcheck_P3 Ad c w1 ((hat.below hb).more hb.size)
  have hsa := fun (w1 : World) (hb : Below w.heap.size w w1) => rstarts_P3 Ad c w1 ((hat.below hb).more hb.size)
  have hri := fun (w1 : World) => rright13 (r := [.int .u8 0, .int .u64 0, .int .u64 0, .int .u64 0, .int .u64 0, .int .i64 0, .int .i64 0]) (.inl rfl) w1
  have hse := fun (w1 : World) => rsem_P3_0 w1
  obtain ⟨b, o, rfl, hbb, d0, d1, d2, d3, d4⟩ := hat.insn (l := P3) (k := 0) (by decide)
  have D0 : ∀ w', Below w.heap.size w w' → w'.cell? ⟨b, o, none⟩ = some (.int .u8 183) := d0
  have D1 : ∀ w', Below w.heap.size w w' → w'.cell? ⟨b, o + 1, none⟩ = some (.int .u8 0) := d1
  have D2 : ∀ w', Below w.heap.size w w' → w'.cell? ⟨b, o + 2, none⟩ = some (.int .u8 0) := d2
  have D3 : ∀ w', Below w.heap.size w w' → w'.cell? ⟨b, o + 3, none⟩ = some (.int .i16 0) := d3
  have D4 : ∀ w', Below w.heap.size w w' → w'.cell? ⟨b, o + 4, none⟩ = some (.int .i32 5) := d4
  clear d0 d1 d2 d3 d4
  have q0 : ((w.alloc (.cells #[.slice none 0 0, .int .i64 0] 59)).alloc (.cells (SVl [.int .u8 0, .int .u64 0, .int .u64 0, .int .u64 0, .int .u64 0, .int .i64 0, .int .i64 0]).toArray 82)).heap[w.heap.size]? = some (.cells #[.slice none 0 0, .int .i64 0] 59) := heap2_0 _ _ _
  have q1 : ((w.alloc (.cells #[.slice none 0 0, .int .i64 0] 59)).alloc (.cells (SVl [.int .u8 0, .int .u64 0, .int .u64 0, .int .u64 0, .int .u64 0, .int .i64 0, .int .i64 0]).toArray 82)).heap[w.heap.size + 1]? = some (.cells (SVl [.int .u8 0, .int .u64 0, .int .u64 0, .int .u64 0, .int .u64 0, .int .i64 0, .int .i64 0]).toArray 82) := heap2_1 _ _ _
  have e0 := boxc (k := 0) (u := .slice none 0 0) q0 rfl
  have e1 := boxc (k := 1) (u := .int .i64 0) q0 rfl
  have s70 := boxc (k := 70) (u := .int .u8 3) q1 rfl
  have s71 := boxc (k := 71) (u := .int .u64 0) q1 rfl
  have s72 := boxc (k := 72) (u := .int .u64 0) q1 rfl
  have s73 := boxc (k := 73) (u := .int .u64 0) q1 rfl
  have s74 := boxc (k := 74) (u := .int .u64 0) q1 rfl
  have s75 := boxc (k := 75) (u := .int .i64 0) q1 rfl
  have s76 := boxc (k := 76) (u := .int .i64 512) q1 rfl
  have hRS : ∀ w', Below ((w.alloc (.cells #[.slice none 0 0, .int .i64 0] 59)).alloc (.cells (SVl [.int .u8 0, .int .u64 0, .int .u64 0, .int .u64 0, .int .u64 0, .int .i64 0, .int .i64 0]).toArray 82)).heap.size ((w.alloc (.cells #[.slice none 0 0, .int .i64 0] 59)).alloc (.cells (SVl [.int .u8 0, .int .u64 0, .int .u64 0, .int .u64 0, .int .u64 0, .int .i64 0, .int .i64 0]).toArray 82)) w' → w'.rangeAt (w.heap.size + 1) 0 (SVl [.int .u8 0, .int .u64 0, .int .u64 0, .int .u64 0, .int .u64 0, .int .i64 0, .int .i64 0]) := fun w' h k u hu => by rw [Nat.zero_add]; exact boxc q1 (by simpa using hu) w' h
  clear q0 q1
  have hW0 : Below w.heap.size w ((w.alloc (.cells #[.slice none 0 0, .int .i64 0] 59)).alloc (.cells (SVl [.int .u8 0, .int .u64 0, .int .u64 0, .int .u64 0, .int .u64 0, .int .i64 0, .int .i64 0]).toArray 82)) := below_boxes2 _ _ _
  have hrf := Below.refl ((w.alloc (.cells #[.slice none 0 0, .int .i64 0] 59)).alloc (.cells (SVl [.int .u8 0, .int .u64 0, .int .u64 0, .int .u64 0, .int .u64 0, .int .i64 0, .int .i64 0]).toArray 82)).heap.size ((w.alloc (.cells #[.slice none 0 0, .int .i64 0] 59)).alloc (.cells (SVl [.int .u8 0, .int .u64 0, .int .u64 0, .int .u64 0, .int .u64 0, .int .i64 0, .int .i64 0]).toArray 82))
  have hS0 : (SVl [.int .u8 0, .int .u64 0, .int .u64 0, .int .u64 0, .int .u64 0, .int .i64 0, .int .i64 0]).length = 589 := SVl_len rfl
  generalize hSd : SVl [.int .u8 0, .int .u64 0, .int .u64 0, .int .u64 0, .int .u64 0, .int .i64 0, .int .i64 0] = S at *
  have HSD := Lib.hid hSd
  clear hSd
  go_enter Tryz.func43, Tryz.ntmps43
  go_upto_region 1 with fail
  generalize (w.alloc (.cells #[.slice none 0 0, .int .i64 0] 59)).alloc (.cells S.toArray 82) = W at *
  have hlS : ∀ w', Below W.heap.size W w' → (ldRow ⟨w.heap.size + 1, 0, none⟩ 589).run Tryz.prog w' = .ok S.toArray w' := fun w' h => run_ldRow (hRS w' h) hS0
  replace D0 := fun w' (h : Below W.heap.size W w') => D0 w' (hW0.trans (h.mono hW0.size))
  replace D1 := fun w' (h : Below W.heap.size W w') => D1 w' (hW0.trans (h.mono hW0.size))
  replace D2 := fun w' (h : Below W.heap.size W w') => D2 w' (hW0.trans (h.mono hW0.size))
  replace D3 := fun w' (h : Below W.heap.size W w') => D3 w' (hW0.trans (h.mono hW0.size))
  replace D4 := fun w' (h : Below W.heap.size W w') => D4 w' (hW0.trans (h.mono hW0.size))
  replace hck := fun w1 (h : Below W.heap.size W w1) => hck w1 (hW0.trans (h.mono hW0.size))
  replace hsa := fun w1 (h : Below W.heap.size W w1) => hsa w1 (hW0.trans (h.mono hW0.size))
  go_wp2_with fail
  refine (hck _ hrf).mono ?_
  rintro e w1 ⟨rfl, hc1⟩
  have hb1 : Below W.heap.size W w1 := hc1
  clear hc1
  go_wp2_with fail
  refine (rgiven14 _).mono ?_
  rintro e w2 ⟨rfl, hc2⟩
  have hb2 := hb1.trans (hc2.mono hb1.size)
  clear hc2
  go_wp2_with fail
  refine (hsa _ hb2).mono ?_
  rintro e w3 ⟨⟨sb, so, sc, rfl, hfl⟩, hc3⟩
  have hb3 := hb2.trans (hc3.mono hb2.size)
  clear hc3
  obtain ⟨f0, f1, f2⟩ := hfl w3 (Below.refl _ _)
  clear hfl
  have HL3 := hlS _ hb3
  go_wp2_with fail
  refine (hri _).mono ?_
  rintro e w4 ⟨rfl, hc4⟩
  have hb4 := hb3.trans (hc4.mono hb3.size)
  clear hc4
  go_upto_region 7 with fail
  have hb5 : Below W.heap.size W (w4.alloc (.cells #[.int .u8 3, .int .u64 0, .int .u64 0, .int .u64 0, .int .u64 0, .int .i64 0, .int .i64 512] 41)) := hb4.alloc hb4.size _
  generalize w4.alloc (.cells #[.int .u8 3, .int .u64 0, .int .u64 0, .int .u64 0, .int .u64 0, .int .i64 0, .int .i64 512] 41) = U at *
  clear hck hsa hri f0 f1 f2 HL3
  have E0 := D0 _ hb5
  have E1 := D1 _ hb5
  have E2 := D2 _ hb5
  have E3 := D3 _ hb5
  have E4 := D4 _ hb5
  go_wp2_with fail
  refine (hse _).mono ?_
  rintro e w6 ⟨rfl, hc6⟩
  have hb6 := hb5.trans (hc6.mono hb5.size)
  clear hc6
  go_upto_region 8 with fail
  have hb7 : Below W.heap.size W (w6.alloc (.cells #[.int .u8 1, .int .u8 176, .bool true, .bool false, .bool false, .int .i64 0] 61)) := hb6.alloc hb6.size _
  clear E0 E1 E2 E3 E4
  have F0 : ∀ w', Below (w6.alloc (.cells #[.int .u8 1, .int .u8 176, .bool true, .bool false, .bool false, .int .i64 0] 61)).heap.size (w6.alloc (.cells #[.int .u8 1, .int .u8 176, .bool true, .bool false, .bool false, .int .i64 0] 61)) w' → w'.cell? ⟨w6.heap.size, 0, none⟩ = some (.int .u8 1) := boxc (heap1_0 w6 _) rfl
  have F1 : ∀ w', Below (w6.alloc (.cells #[.int .u8 1, .int .u8 176, .bool true, .bool false, .bool false, .int .i64 0] 61)).heap.size (w6.alloc (.cells #[.int .u8 1, .int .u8 176, .bool true, .bool false, .bool false, .int .i64 0] 61)) w' → w'.cell? ⟨w6.heap.size, 1, none⟩ = some (.int .u8 176) := boxc (heap1_0 w6 _) rfl
  have F2 : ∀ w', Below (w6.alloc (.cells #[.int .u8 1, .int .u8 176, .bool true, .bool false, .bool false, .int .i64 0] 61)).heap.size (w6.alloc (.cells #[.int .u8 1, .int .u8 176, .bool true, .bool false, .bool false, .int .i64 0] 61)) w' → w'.cell? ⟨w6.heap.size, 2, none⟩ = some (.bool true) := boxc (heap1_0 w6 _) rfl
  have F3 : ∀ w', Below (w6.alloc (.cells #[.int .u8 1, .int .u8 176, .bool true, .bool false, .bool false, .int .i64 0] 61)).heap.size (w6.alloc (.cells #[.int .u8 1, .int .u8 176, .bool true, .bool false, .bool false, .int .i64 0] 61)) w' → w'.cell? ⟨w6.heap.size, 3, none⟩ = some (.bool false) := boxc (heap1_0 w6 _) rfl
  have F4 : ∀ w', Below (w6.alloc (.cells #[.int .u8 1, .int .u8 176, .bool true, .bool false, .bool false, .int .i64 0] 61)).heap.size (w6.alloc (.cells #[.int .u8 1, .int .u8 176, .bool true, .bool false, .bool false, .int .i64 0] 61)) w' → w'.cell? ⟨w6.heap.size, 4, none⟩ = some (.bool false) := boxc (heap1_0 w6 _) rfl
  have F5 : ∀ w', Below (w6.alloc (.cells #[.int .u8 1, .int .u8 176, .bool true, .bool false, .bool false, .int .i64 0] 61)).heap.size (w6.alloc (.cells #[.int .u8 1, .int .u8 176, .bool true, .bool false, .bool false, .int .i64 0] 61)) w' → w'.cell? ⟨w6.heap.size, 5, none⟩ = some (.int .i64 0) := boxc (heap1_0 w6 _) rfl
  generalize w6.alloc (.cells #[.int .u8 1, .int .u8 176, .bool true, .bool false, .bool false, .int .i64 0] 61) = R at *
  have hR7 : ∀ w', Below R.heap.size R w' → Below W.heap.size W w' := fun w' h => hb7.trans (h.mono hb7.size)
  replace D0 := fun w' (h : Below R.heap.size R w') => D0 w' (hR7 w' h)
  replace D1 := fun w' (h : Below R.heap.size R w') => D1 w' (hR7 w' h)
  replace D2 := fun w' (h : Below R.heap.size R w') => D2 w' (hR7 w' h)
  replace D3 := fun w' (h : Below R.heap.size R w') => D3 w' (hR7 w' h)
  replace D4 := fun w' (h : Below R.heap.size R w') => D4 w' (hR7 w' h)
  replace e0 := fun w' (h : Below R.heap.size R w') => e0 w' (hR7 w' h)
  replace e1 := fun w' (h : Below R.heap.size R w') => e1 w' (hR7 w' h)
  replace hlS := fun w' (h : Below R.heap.size R w') => hlS w' (hR7 w' h)
  have hmk := fun w1 => run_mkW108 (.slice (some ⟨b, o, none⟩) 3 c) (.slice none 0 0) (.int .i64 0) 0 (.int .u8 183) (.int .u8 0) (.int .u8 0) (.int .i16 0) (.int .i32 5) (.int .u8 1) (.int .u8 176) (.bool true) (.bool false) (.bool false) (.int .i64 0) S hS0 rfl w1
  obtain ⟨K, hKd⟩ : ∃ K, K = (.slice (some ⟨b, o, none⟩) 3 c :: .slice none 0 0 :: .int .i64 0 :: .int .i64 0 :: .int .u8 183 :: .int .u8 0 :: .int .u8 0 :: .int .i16 0 :: .int .i32 5 :: .int .u8 1 :: .int .u8 176 :: .bool true :: .bool false :: .bool false :: .int .i64 0 :: S : List Value) := ⟨_, rfl⟩
  rw [← hKd] at hmk
  have hKn : K.length = 604 := by rw [hKd]; simp [hS0]
  have hKE : K = [.slice (some ⟨b, o, none⟩) P3.length c, .slice none 0 0, .int .i64 0, .int .i64 0, .int .u8 183, .int .u8 0, .int .u8 0, .int .i16 0, .int .i32 5, .int .u8 1, .int .u8 176, .bool true, .bool false, .bool false, .int .i64 0] ++ SVl [.int .u8 0, .int .u64 0, .int .u64 0, .int .u64 0, .int .u64 0, .int .i64 0, .int .i64 0] := by rw [hKd, HSD.out]; rfl
  have hSo : ∀ v ∈ S, v.oneCell' = true := by rw [← HSD.out]; intro v hv; rcases List.mem_append.1 hv with h | h; exact (by decide : ∀ v ∈ [.int .u8 0, .int .u64 0, .int .u64 0, .int .u64 0, .int .u64 0, .int .i64 0, .int .i64 0], v.oneCell' = true) v h; exact restS_ones v h
  have hK1 : ∀ v ∈ K, v.oneCell' = true := by rw [hKd]; intro v hv; simp only [List.mem_cons] at hv; rcases hv with rfl | rfl | rfl | rfl | rfl | rfl | rfl | rfl | rfl | rfl | rfl | rfl | rfl | rfl | rfl | h <;> first | rfl | exact hSo v h
  have HKE := Lib.hid hKE
  clear hKE hKd
  have hsto : (storeCells ⟨R.heap.size, 0, none⟩ K 0).run Tryz.prog (R.alloc (.cells Tryz.zeroCells108 108)).drew = .ok () (R.alloc (.cells K.toArray 108)).drew := store_new108 R.drew K hKn hK1
  have hrR := Below.refl R.heap.size R
  clear hrf
  go_region_held3 (fun w' => Below R.heap.size R w') (first | assumption | exact sbelow_drew (by assumption) | exact sbelow_alloc (by assumption) (Nat.le_refl _) | exact sbelow_drew (sbelow_alloc hrR (Nat.le_refl _))) (skip)
  have hVw : Below w.heap.size w ((R.alloc (.cells K.toArray 108)).drew) := (hW0.trans (hb7.mono hW0.size)).trans ((sbelow_drew (sbelow_alloc hrR (Nat.le_refl _))).mono (Nat.le_trans hW0.size hb7.size))
  have hlK : (ldRow ⟨R.heap.size, 0, none⟩ 604).run Tryz.prog ((R.alloc (.cells K.toArray 108)).drew) = .ok K.toArray ((R.alloc (.cells K.toArray 108)).drew) := run_ldRow (fun k u hu => by rw [Nat.zero_add]; exact boxc (heap1_0 R (.cells K.toArray 108)) (by simpa using hu) _ (Below.drew (Below.refl _ _))) hKn
  generalize (R.alloc (.cells K.toArray 108)).drew = V at *
  have hstp := fun w1 (h : Below w.heap.size w w1) => rstep14_0 P3 (some ⟨b, o, none⟩) c 0 K HKE.out hKn (by decide) (by decide) w1 ((hat.below h).more h.size)
  go_wp2_with fail
  refine (hstp _ hVw).mono ?_
  rintro e w9 ⟨b2, rfl, hb0, hr9, hc9⟩
  go_wp2_with fail
  go_ret2
  exact ⟨b2, rfl, Nat.le_trans hVw.size hb0, hr9, hVw.trans (hc9.mono hVw.size)⟩

set_option maxRecDepth 100000 in
set_option maxHeartbeats 4000000 in
theorem rStep14_1 (Ad : Option Addr) (c : Nat) (w : World) (hat : SAt w w.heap.size 5 Ad 3 (insnsV P3)) :
    Calls Tryz.prog 43 #[.slice Ad 3 c, .agg #[.slice none 0 0, .int .i64 0], .int .i64 1, .agg (SVl [.int .u8 1, .int .u64 5, .int .u64 0, .int .u64 5, .int .u64 5, .int .i64 0, .int .i64 0]).toArray] w fun e w' => ∃ b, e = .returned (.tuple #[.slice (some ⟨b, 0, none⟩) 1 1, .int .i64 0]) ∧ w.heap.size ≤ b ∧ w'.rangeAt b 0 (.int .i64 2 :: SVl [.int .u8 1, .int .u64 7, .int .u64 0, .int .u64 7, .int .u64 7, .int .i64 0, .int .i64 0]) ∧ Below w.heap.size w w' := by
  have hck := fun (w1 : World) (hb : Below w.heap.size w w1) => rcheck_P3 Ad c w1 ((hat.below hb).more hb.size)
  have hsa := fun (w1 : World) (hb : Below w.heap.size w w1) => rstarts_P3 Ad c w1 ((hat.below hb).more hb.size)
  have hri := fun (w1 : World) => rright13 (r := [.int .u8 1, .int .u64 5, .int .u64 0, .int .u64 5, .int .u64 5, .int .i64 0, .int .i64 0]) (.inr (.inr (.inr ⟨5, ⟨by decide, by decide⟩, rfl⟩))) w1
  have hse := fun (w1 : World) => rsem_P3_1 w1
  obtain ⟨b, o, rfl, hbb, d0, d1, d2, d3, d4⟩ := hat.insn (l := P3) (k := 1) (by decide)
  have D0 : ∀ w', Below w.heap.size w w' → w'.cell? ⟨b, o + 5, none⟩ = some (.int .u8 7) := d0
  have D1 : ∀ w', Below w.heap.size w w' → w'.cell? ⟨b, o + 5 + 1, none⟩ = some (.int .u8 0) := d1
  have D2 : ∀ w', Below w.heap.size w w' → w'.cell? ⟨b, o + 5 + 2, none⟩ = some (.int .u8 0) := d2
  have D3 : ∀ w', Below w.heap.size w w' → w'.cell? ⟨b, o + 5 + 3, none⟩ = some (.int .i16 0) := d3
  have D4 : ∀ w', Below w.heap.size w w' → w'.cell? ⟨b, o + 5 + 4, none⟩ = some (.int .i32 2) := d4
  clear d0 d1 d2 d3 d4
  have q0 : ((w.alloc (.cells #[.slice none 0 0, .int .i64 0] 59)).alloc (.cells (SVl [.int .u8 1, .int .u64 5, .int .u64 0, .int .u64 5, .int .u64 5, .int .i64 0, .int .i64 0]).toArray 82)).heap[w.heap.size]? = some (.cells #[.slice none 0 0, .int .i64 0] 59) := heap2_0 _ _ _
  have q1 : ((w.alloc (.cells #[.slice none 0 0, .int .i64 0] 59)).alloc (.cells (SVl [.int .u8 1, .int .u64 5, .int .u64 0, .int .u64 5, .int .u64 5, .int .i64 0, .int .i64 0]).toArray 82)).heap[w.heap.size + 1]? = some (.cells (SVl [.int .u8 1, .int .u64 5, .int .u64 0, .int .u64 5, .int .u64 5, .int .i64 0, .int .i64 0]).toArray 82) := heap2_1 _ _ _
  have e0 := boxc (k := 0) (u := .slice none 0 0) q0 rfl
  have e1 := boxc (k := 1) (u := .int .i64 0) q0 rfl
  have s70 := boxc (k := 70) (u := .int .u8 3) q1 rfl
  have s71 := boxc (k := 71) (u := .int .u64 0) q1 rfl
  have s72 := boxc (k := 72) (u := .int .u64 0) q1 rfl
  have s73 := boxc (k := 73) (u := .int .u64 0) q1 rfl
  have s74 := boxc (k := 74) (u := .int .u64 0) q1 rfl
  have s75 := boxc (k := 75) (u := .int .i64 0) q1 rfl
  have s76 := boxc (k := 76) (u := .int .i64 512) q1 rfl
  have hRS : ∀ w', Below ((w.alloc (.cells #[.slice none 0 0, .int .i64 0] 59)).alloc (.cells (SVl [.int .u8 1, .int .u64 5, .int .u64 0, .int .u64 5, .int .u64 5, .int .i64 0, .int .i64 0]).toArray 82)).heap.size ((w.alloc (.cells #[.slice none 0 0, .int .i64 0] 59)).alloc (.cells (SVl [.int .u8 1, .int .u64 5, .int .u64 0, .int .u64 5, .int .u64 5, .int .i64 0, .int .i64 0]).toArray 82)) w' → w'.rangeAt (w.heap.size + 1) 0 (SVl [.int .u8 1, .int .u64 5, .int .u64 0, .int .u64 5, .int .u64 5, .int .i64 0, .int .i64 0]) := fun w' h k u hu => by rw [Nat.zero_add]; exact boxc q1 (by simpa using hu) w' h
  clear q0 q1
  have hW0 : Below w.heap.size w ((w.alloc (.cells #[.slice none 0 0, .int .i64 0] 59)).alloc (.cells (SVl [.int .u8 1, .int .u64 5, .int .u64 0, .int .u64 5, .int .u64 5, .int .i64 0, .int .i64 0]).toArray 82)) := below_boxes2 _ _ _
  have hrf := Below.refl ((w.alloc (.cells #[.slice none 0 0, .int .i64 0] 59)).alloc (.cells (SVl [.int .u8 1, .int .u64 5, .int .u64 0, .int .u64 5, .int .u64 5, .int .i64 0, .int .i64 0]).toArray 82)).heap.size ((w.alloc (.cells #[.slice none 0 0, .int .i64 0] 59)).alloc (.cells (SVl [.int .u8 1, .int .u64 5, .int .u64 0, .int .u64 5, .int .u64 5, .int .i64 0, .int .i64 0]).toArray 82))
  have hS0 : (SVl [.int .u8 1, .int .u64 5, .int .u64 0, .int .u64 5, .int .u64 5, .int .i64 0, .int .i64 0]).length = 589 := SVl_len rfl
  generalize hSd : SVl [.int .u8 1, .int .u64 5, .int .u64 0, .int .u64 5, .int .u64 5, .int .i64 0, .int .i64 0] = S at *
  have HSD := Lib.hid hSd
  clear hSd
  go_enter Tryz.func43, Tryz.ntmps43
  go_upto_region 1 with fail
  generalize (w.alloc (.cells #[.slice none 0 0, .int .i64 0] 59)).alloc (.cells S.toArray 82) = W at *
  have hlS : ∀ w', Below W.heap.size W w' → (ldRow ⟨w.heap.size + 1, 0, none⟩ 589).run Tryz.prog w' = .ok S.toArray w' := fun w' h => run_ldRow (hRS w' h) hS0
  replace D0 := fun w' (h : Below W.heap.size W w') => D0 w' (hW0.trans (h.mono hW0.size))
  replace D1 := fun w' (h : Below W.heap.size W w') => D1 w' (hW0.trans (h.mono hW0.size))
  replace D2 := fun w' (h : Below W.heap.size W w') => D2 w' (hW0.trans (h.mono hW0.size))
  replace D3 := fun w' (h : Below W.heap.size W w') => D3 w' (hW0.trans (h.mono hW0.size))
  replace D4 := fun w' (h : Below W.heap.size W w') => D4 w' (hW0.trans (h.mono hW0.size))
  replace hck := fun w1 (h : Below W.heap.size W w1) => hck w1 (hW0.trans (h.mono hW0.size))
  replace hsa := fun w1 (h : Below W.heap.size W w1) => hsa w1 (hW0.trans (h.mono hW0.size))
  go_wp2_with fail
  refine (hck _ hrf).mono ?_
  rintro e w1 ⟨rfl, hc1⟩
  have hb1 : Below W.heap.size W w1 := hc1
  clear hc1
  go_wp2_with fail
  refine (rgiven14 _).mono ?_
  rintro e w2 ⟨rfl, hc2⟩
  have hb2 := hb1.trans (hc2.mono hb1.size)
  clear hc2
  go_wp2_with fail
  refine (hsa _ hb2).mono ?_
  rintro e w3 ⟨⟨sb, so, sc, rfl, hfl⟩, hc3⟩
  have hb3 := hb2.trans (hc3.mono hb2.size)
  clear hc3
  obtain ⟨f0, f1, f2⟩ := hfl w3 (Below.refl _ _)
  clear hfl
  have HL3 := hlS _ hb3
  go_wp2_with fail
  refine (hri _).mono ?_
  rintro e w4 ⟨rfl, hc4⟩
  have hb4 := hb3.trans (hc4.mono hb3.size)
  clear hc4
  go_upto_region 7 with fail
  have hb5 : Below W.heap.size W (w4.alloc (.cells #[.int .u8 3, .int .u64 0, .int .u64 0, .int .u64 0, .int .u64 0, .int .i64 0, .int .i64 512] 41)) := hb4.alloc hb4.size _
  generalize w4.alloc (.cells #[.int .u8 3, .int .u64 0, .int .u64 0, .int .u64 0, .int .u64 0, .int .i64 0, .int .i64 512] 41) = U at *
  clear hck hsa hri f0 f1 f2 HL3
  have E0 := D0 _ hb5
  have E1 := D1 _ hb5
  have E2 := D2 _ hb5
  have E3 := D3 _ hb5
  have E4 := D4 _ hb5
  go_wp2_with fail
  refine (hse _).mono ?_
  rintro e w6 ⟨rfl, hc6⟩
  have hb6 := hb5.trans (hc6.mono hb5.size)
  clear hc6
  go_upto_region 8 with fail
  have hb7 : Below W.heap.size W (w6.alloc (.cells #[.int .u8 1, .int .u8 0, .bool true, .bool false, .bool false, .int .i64 0] 61)) := hb6.alloc hb6.size _
  clear E0 E1 E2 E3 E4
  have F0 : ∀ w', Below (w6.alloc (.cells #[.int .u8 1, .int .u8 0, .bool true, .bool false, .bool false, .int .i64 0] 61)).heap.size (w6.alloc (.cells #[.int .u8 1, .int .u8 0, .bool true, .bool false, .bool false, .int .i64 0] 61)) w' → w'.cell? ⟨w6.heap.size, 0, none⟩ = some (.int .u8 1) := boxc (heap1_0 w6 _) rfl
  have F1 : ∀ w', Below (w6.alloc (.cells #[.int .u8 1, .int .u8 0, .bool true, .bool false, .bool false, .int .i64 0] 61)).heap.size (w6.alloc (.cells #[.int .u8 1, .int .u8 0, .bool true, .bool false, .bool false, .int .i64 0] 61)) w' → w'.cell? ⟨w6.heap.size, 1, none⟩ = some (.int .u8 0) := boxc (heap1_0 w6 _) rfl
  have F2 : ∀ w', Below (w6.alloc (.cells #[.int .u8 1, .int .u8 0, .bool true, .bool false, .bool false, .int .i64 0] 61)).heap.size (w6.alloc (.cells #[.int .u8 1, .int .u8 0, .bool true, .bool false, .bool false, .int .i64 0] 61)) w' → w'.cell? ⟨w6.heap.size, 2, none⟩ = some (.bool true) := boxc (heap1_0 w6 _) rfl
  have F3 : ∀ w', Below (w6.alloc (.cells #[.int .u8 1, .int .u8 0, .bool true, .bool false, .bool false, .int .i64 0] 61)).heap.size (w6.alloc (.cells #[.int .u8 1, .int .u8 0, .bool true, .bool false, .bool false, .int .i64 0] 61)) w' → w'.cell? ⟨w6.heap.size, 3, none⟩ = some (.bool false) := boxc (heap1_0 w6 _) rfl
  have F4 : ∀ w', Below (w6.alloc (.cells #[.int .u8 1, .int .u8 0, .bool true, .bool false, .bool false, .int .i64 0] 61)).heap.size (w6.alloc (.cells #[.int .u8 1, .int .u8 0, .bool true, .bool false, .bool false, .int .i64 0] 61)) w' → w'.cell? ⟨w6.heap.size, 4, none⟩ = some (.bool false) := boxc (heap1_0 w6 _) rfl
  have F5 : ∀ w', Below (w6.alloc (.cells #[.int .u8 1, .int .u8 0, .bool true, .bool false, .bool false, .int .i64 0] 61)).heap.size (w6.alloc (.cells #[.int .u8 1, .int .u8 0, .bool true, .bool false, .bool false, .int .i64 0] 61)) w' → w'.cell? ⟨w6.heap.size, 5, none⟩ = some (.int .i64 0) := boxc (heap1_0 w6 _) rfl
  generalize w6.alloc (.cells #[.int .u8 1, .int .u8 0, .bool true, .bool false, .bool false, .int .i64 0] 61) = R at *
  have hR7 : ∀ w', Below R.heap.size R w' → Below W.heap.size W w' := fun w' h => hb7.trans (h.mono hb7.size)
  replace D0 := fun w' (h : Below R.heap.size R w') => D0 w' (hR7 w' h)
  replace D1 := fun w' (h : Below R.heap.size R w') => D1 w' (hR7 w' h)
  replace D2 := fun w' (h : Below R.heap.size R w') => D2 w' (hR7 w' h)
  replace D3 := fun w' (h : Below R.heap.size R w') => D3 w' (hR7 w' h)
  replace D4 := fun w' (h : Below R.heap.size R w') => D4 w' (hR7 w' h)
  replace e0 := fun w' (h : Below R.heap.size R w') => e0 w' (hR7 w' h)
  replace e1 := fun w' (h : Below R.heap.size R w') => e1 w' (hR7 w' h)
  replace hlS := fun w' (h : Below R.heap.size R w') => hlS w' (hR7 w' h)
  have hmk := fun w1 => run_mkW108 (.slice (some ⟨b, o, none⟩) 3 c) (.slice none 0 0) (.int .i64 0) 1 (.int .u8 7) (.int .u8 0) (.int .u8 0) (.int .i16 0) (.int .i32 2) (.int .u8 1) (.int .u8 0) (.bool true) (.bool false) (.bool false) (.int .i64 0) S hS0 rfl w1
  obtain ⟨K, hKd⟩ : ∃ K, K = (.slice (some ⟨b, o, none⟩) 3 c :: .slice none 0 0 :: .int .i64 0 :: .int .i64 1 :: .int .u8 7 :: .int .u8 0 :: .int .u8 0 :: .int .i16 0 :: .int .i32 2 :: .int .u8 1 :: .int .u8 0 :: .bool true :: .bool false :: .bool false :: .int .i64 0 :: S : List Value) := ⟨_, rfl⟩
  rw [← hKd] at hmk
  have hKn : K.length = 604 := by rw [hKd]; simp [hS0]
  have hKE : K = [.slice (some ⟨b, o, none⟩) P3.length c, .slice none 0 0, .int .i64 0, .int .i64 1, .int .u8 7, .int .u8 0, .int .u8 0, .int .i16 0, .int .i32 2, .int .u8 1, .int .u8 0, .bool true, .bool false, .bool false, .int .i64 0] ++ SVl [.int .u8 1, .int .u64 5, .int .u64 0, .int .u64 5, .int .u64 5, .int .i64 0, .int .i64 0] := by rw [hKd, HSD.out]; rfl
  have hSo : ∀ v ∈ S, v.oneCell' = true := by rw [← HSD.out]; intro v hv; rcases List.mem_append.1 hv with h | h; exact (by decide : ∀ v ∈ [.int .u8 1, .int .u64 5, .int .u64 0, .int .u64 5, .int .u64 5, .int .i64 0, .int .i64 0], v.oneCell' = true) v h; exact restS_ones v h
  have hK1 : ∀ v ∈ K, v.oneCell' = true := by rw [hKd]; intro v hv; simp only [List.mem_cons] at hv; rcases hv with rfl | rfl | rfl | rfl | rfl | rfl | rfl | rfl | rfl | rfl | rfl | rfl | rfl | rfl | rfl | h <;> first | rfl | exact hSo v h
  have HKE := Lib.hid hKE
  clear hKE hKd
  have hsto : (storeCells ⟨R.heap.size, 0, none⟩ K 0).run Tryz.prog (R.alloc (.cells Tryz.zeroCells108 108)).drew = .ok () (R.alloc (.cells K.toArray 108)).drew := store_new108 R.drew K hKn hK1
  have hrR := Below.refl R.heap.size R
  clear hrf
  go_region_held3 (fun w' => Below R.heap.size R w') (first | assumption | exact sbelow_drew (by assumption) | exact sbelow_alloc (by assumption) (Nat.le_refl _) | exact sbelow_drew (sbelow_alloc hrR (Nat.le_refl _))) (skip)
  have hVw : Below w.heap.size w ((R.alloc (.cells K.toArray 108)).drew) := (hW0.trans (hb7.mono hW0.size)).trans ((sbelow_drew (sbelow_alloc hrR (Nat.le_refl _))).mono (Nat.le_trans hW0.size hb7.size))
  have hlK : (ldRow ⟨R.heap.size, 0, none⟩ 604).run Tryz.prog ((R.alloc (.cells K.toArray 108)).drew) = .ok K.toArray ((R.alloc (.cells K.toArray 108)).drew) := run_ldRow (fun k u hu => by rw [Nat.zero_add]; exact boxc (heap1_0 R (.cells K.toArray 108)) (by simpa using hu) _ (Below.drew (Below.refl _ _))) hKn
  generalize (R.alloc (.cells K.toArray 108)).drew = V at *
  have hstp := fun w1 (h : Below w.heap.size w w1) => rstep14_1 P3 (some ⟨b, o, none⟩) c 1 K HKE.out hKn (by decide) (by decide) w1 ((hat.below h).more h.size)
  go_wp2_with fail
  refine (hstp _ hVw).mono ?_
  rintro e w9 ⟨b2, rfl, hb0, hr9, hc9⟩
  go_wp2_with fail
  go_ret2
  exact ⟨b2, rfl, Nat.le_trans hVw.size hb0, hr9, hVw.trans (hc9.mono hVw.size)⟩

set_option maxRecDepth 100000 in
set_option maxHeartbeats 4000000 in
theorem rStep14_2 (Ad : Option Addr) (c : Nat) (w : World) (hat : SAt w w.heap.size 5 Ad 3 (insnsV P3)) :
    Calls Tryz.prog 43 #[.slice Ad 3 c, .agg #[.slice none 0 0, .int .i64 0], .int .i64 2, .agg (SVl [.int .u8 1, .int .u64 7, .int .u64 0, .int .u64 7, .int .u64 7, .int .i64 0, .int .i64 0]).toArray] w fun e w' => e = .returned (.tuple #[.slice none 0 0, .int .i64 0]) ∧ Below w.heap.size w w' := by
  have hck := fun (w1 : World) (hb : Below w.heap.size w w1) => rcheck_P3 Ad c w1 ((hat.below hb).more hb.size)
  have hsa := fun (w1 : World) (hb : Below w.heap.size w w1) => rstarts_P3 Ad c w1 ((hat.below hb).more hb.size)
  have hri := fun (w1 : World) => rright13 (r := [.int .u8 1, .int .u64 7, .int .u64 0, .int .u64 7, .int .u64 7, .int .i64 0, .int .i64 0]) (.inr (.inr (.inr ⟨7, ⟨by decide, by decide⟩, rfl⟩))) w1
  have hse := fun (w1 : World) => rsem_P3_2 w1
  obtain ⟨b, o, rfl, hbb, d0, d1, d2, d3, d4⟩ := hat.insn (l := P3) (k := 2) (by decide)
  have D0 : ∀ w', Below w.heap.size w w' → w'.cell? ⟨b, o + 10, none⟩ = some (.int .u8 149) := d0
  have D1 : ∀ w', Below w.heap.size w w' → w'.cell? ⟨b, o + 10 + 1, none⟩ = some (.int .u8 0) := d1
  have D2 : ∀ w', Below w.heap.size w w' → w'.cell? ⟨b, o + 10 + 2, none⟩ = some (.int .u8 0) := d2
  have D3 : ∀ w', Below w.heap.size w w' → w'.cell? ⟨b, o + 10 + 3, none⟩ = some (.int .i16 0) := d3
  have D4 : ∀ w', Below w.heap.size w w' → w'.cell? ⟨b, o + 10 + 4, none⟩ = some (.int .i32 0) := d4
  clear d0 d1 d2 d3 d4
  have q0 : ((w.alloc (.cells #[.slice none 0 0, .int .i64 0] 59)).alloc (.cells (SVl [.int .u8 1, .int .u64 7, .int .u64 0, .int .u64 7, .int .u64 7, .int .i64 0, .int .i64 0]).toArray 82)).heap[w.heap.size]? = some (.cells #[.slice none 0 0, .int .i64 0] 59) := heap2_0 _ _ _
  have q1 : ((w.alloc (.cells #[.slice none 0 0, .int .i64 0] 59)).alloc (.cells (SVl [.int .u8 1, .int .u64 7, .int .u64 0, .int .u64 7, .int .u64 7, .int .i64 0, .int .i64 0]).toArray 82)).heap[w.heap.size + 1]? = some (.cells (SVl [.int .u8 1, .int .u64 7, .int .u64 0, .int .u64 7, .int .u64 7, .int .i64 0, .int .i64 0]).toArray 82) := heap2_1 _ _ _
  have e0 := boxc (k := 0) (u := .slice none 0 0) q0 rfl
  have e1 := boxc (k := 1) (u := .int .i64 0) q0 rfl
  have s70 := boxc (k := 70) (u := .int .u8 3) q1 rfl
  have s71 := boxc (k := 71) (u := .int .u64 0) q1 rfl
  have s72 := boxc (k := 72) (u := .int .u64 0) q1 rfl
  have s73 := boxc (k := 73) (u := .int .u64 0) q1 rfl
  have s74 := boxc (k := 74) (u := .int .u64 0) q1 rfl
  have s75 := boxc (k := 75) (u := .int .i64 0) q1 rfl
  have s76 := boxc (k := 76) (u := .int .i64 512) q1 rfl
  have hRS : ∀ w', Below ((w.alloc (.cells #[.slice none 0 0, .int .i64 0] 59)).alloc (.cells (SVl [.int .u8 1, .int .u64 7, .int .u64 0, .int .u64 7, .int .u64 7, .int .i64 0, .int .i64 0]).toArray 82)).heap.size ((w.alloc (.cells #[.slice none 0 0, .int .i64 0] 59)).alloc (.cells (SVl [.int .u8 1, .int .u64 7, .int .u64 0, .int .u64 7, .int .u64 7, .int .i64 0, .int .i64 0]).toArray 82)) w' → w'.rangeAt (w.heap.size + 1) 0 (SVl [.int .u8 1, .int .u64 7, .int .u64 0, .int .u64 7, .int .u64 7, .int .i64 0, .int .i64 0]) := fun w' h k u hu => by rw [Nat.zero_add]; exact boxc q1 (by simpa using hu) w' h
  clear q0 q1
  have hW0 : Below w.heap.size w ((w.alloc (.cells #[.slice none 0 0, .int .i64 0] 59)).alloc (.cells (SVl [.int .u8 1, .int .u64 7, .int .u64 0, .int .u64 7, .int .u64 7, .int .i64 0, .int .i64 0]).toArray 82)) := below_boxes2 _ _ _
  have hrf := Below.refl ((w.alloc (.cells #[.slice none 0 0, .int .i64 0] 59)).alloc (.cells (SVl [.int .u8 1, .int .u64 7, .int .u64 0, .int .u64 7, .int .u64 7, .int .i64 0, .int .i64 0]).toArray 82)).heap.size ((w.alloc (.cells #[.slice none 0 0, .int .i64 0] 59)).alloc (.cells (SVl [.int .u8 1, .int .u64 7, .int .u64 0, .int .u64 7, .int .u64 7, .int .i64 0, .int .i64 0]).toArray 82))
  have hS0 : (SVl [.int .u8 1, .int .u64 7, .int .u64 0, .int .u64 7, .int .u64 7, .int .i64 0, .int .i64 0]).length = 589 := SVl_len rfl
  generalize hSd : SVl [.int .u8 1, .int .u64 7, .int .u64 0, .int .u64 7, .int .u64 7, .int .i64 0, .int .i64 0] = S at *
  have HSD := Lib.hid hSd
  clear hSd
  go_enter Tryz.func43, Tryz.ntmps43
  go_upto_region 1 with fail
  generalize (w.alloc (.cells #[.slice none 0 0, .int .i64 0] 59)).alloc (.cells S.toArray 82) = W at *
  have hlS : ∀ w', Below W.heap.size W w' → (ldRow ⟨w.heap.size + 1, 0, none⟩ 589).run Tryz.prog w' = .ok S.toArray w' := fun w' h => run_ldRow (hRS w' h) hS0
  replace D0 := fun w' (h : Below W.heap.size W w') => D0 w' (hW0.trans (h.mono hW0.size))
  replace D1 := fun w' (h : Below W.heap.size W w') => D1 w' (hW0.trans (h.mono hW0.size))
  replace D2 := fun w' (h : Below W.heap.size W w') => D2 w' (hW0.trans (h.mono hW0.size))
  replace D3 := fun w' (h : Below W.heap.size W w') => D3 w' (hW0.trans (h.mono hW0.size))
  replace D4 := fun w' (h : Below W.heap.size W w') => D4 w' (hW0.trans (h.mono hW0.size))
  replace hck := fun w1 (h : Below W.heap.size W w1) => hck w1 (hW0.trans (h.mono hW0.size))
  replace hsa := fun w1 (h : Below W.heap.size W w1) => hsa w1 (hW0.trans (h.mono hW0.size))
  go_wp2_with fail
  refine (hck _ hrf).mono ?_
  rintro e w1 ⟨rfl, hc1⟩
  have hb1 : Below W.heap.size W w1 := hc1
  clear hc1
  go_wp2_with fail
  refine (rgiven14 _).mono ?_
  rintro e w2 ⟨rfl, hc2⟩
  have hb2 := hb1.trans (hc2.mono hb1.size)
  clear hc2
  go_wp2_with fail
  refine (hsa _ hb2).mono ?_
  rintro e w3 ⟨⟨sb, so, sc, rfl, hfl⟩, hc3⟩
  have hb3 := hb2.trans (hc3.mono hb2.size)
  clear hc3
  obtain ⟨f0, f1, f2⟩ := hfl w3 (Below.refl _ _)
  clear hfl
  have HL3 := hlS _ hb3
  go_wp2_with fail
  refine (hri _).mono ?_
  rintro e w4 ⟨rfl, hc4⟩
  have hb4 := hb3.trans (hc4.mono hb3.size)
  clear hc4
  go_upto_region 7 with fail
  have hb5 : Below W.heap.size W (w4.alloc (.cells #[.int .u8 3, .int .u64 0, .int .u64 0, .int .u64 0, .int .u64 0, .int .i64 0, .int .i64 512] 41)) := hb4.alloc hb4.size _
  generalize w4.alloc (.cells #[.int .u8 3, .int .u64 0, .int .u64 0, .int .u64 0, .int .u64 0, .int .i64 0, .int .i64 512] 41) = U at *
  clear hck hsa hri f0 f1 f2 HL3
  have E0 := D0 _ hb5
  have E1 := D1 _ hb5
  have E2 := D2 _ hb5
  have E3 := D3 _ hb5
  have E4 := D4 _ hb5
  go_wp2_with fail
  refine (hse _).mono ?_
  rintro e w6 ⟨rfl, hc6⟩
  have hb6 := hb5.trans (hc6.mono hb5.size)
  clear hc6
  go_upto_region 8 with fail
  have hb7 : Below W.heap.size W (w6.alloc (.cells #[.int .u8 12, .int .u8 0, .bool false, .bool false, .bool false, .int .i64 0] 61)) := hb6.alloc hb6.size _
  clear E0 E1 E2 E3 E4
  have F0 : ∀ w', Below (w6.alloc (.cells #[.int .u8 12, .int .u8 0, .bool false, .bool false, .bool false, .int .i64 0] 61)).heap.size (w6.alloc (.cells #[.int .u8 12, .int .u8 0, .bool false, .bool false, .bool false, .int .i64 0] 61)) w' → w'.cell? ⟨w6.heap.size, 0, none⟩ = some (.int .u8 12) := boxc (heap1_0 w6 _) rfl
  have F1 : ∀ w', Below (w6.alloc (.cells #[.int .u8 12, .int .u8 0, .bool false, .bool false, .bool false, .int .i64 0] 61)).heap.size (w6.alloc (.cells #[.int .u8 12, .int .u8 0, .bool false, .bool false, .bool false, .int .i64 0] 61)) w' → w'.cell? ⟨w6.heap.size, 1, none⟩ = some (.int .u8 0) := boxc (heap1_0 w6 _) rfl
  have F2 : ∀ w', Below (w6.alloc (.cells #[.int .u8 12, .int .u8 0, .bool false, .bool false, .bool false, .int .i64 0] 61)).heap.size (w6.alloc (.cells #[.int .u8 12, .int .u8 0, .bool false, .bool false, .bool false, .int .i64 0] 61)) w' → w'.cell? ⟨w6.heap.size, 2, none⟩ = some (.bool false) := boxc (heap1_0 w6 _) rfl
  have F3 : ∀ w', Below (w6.alloc (.cells #[.int .u8 12, .int .u8 0, .bool false, .bool false, .bool false, .int .i64 0] 61)).heap.size (w6.alloc (.cells #[.int .u8 12, .int .u8 0, .bool false, .bool false, .bool false, .int .i64 0] 61)) w' → w'.cell? ⟨w6.heap.size, 3, none⟩ = some (.bool false) := boxc (heap1_0 w6 _) rfl
  have F4 : ∀ w', Below (w6.alloc (.cells #[.int .u8 12, .int .u8 0, .bool false, .bool false, .bool false, .int .i64 0] 61)).heap.size (w6.alloc (.cells #[.int .u8 12, .int .u8 0, .bool false, .bool false, .bool false, .int .i64 0] 61)) w' → w'.cell? ⟨w6.heap.size, 4, none⟩ = some (.bool false) := boxc (heap1_0 w6 _) rfl
  have F5 : ∀ w', Below (w6.alloc (.cells #[.int .u8 12, .int .u8 0, .bool false, .bool false, .bool false, .int .i64 0] 61)).heap.size (w6.alloc (.cells #[.int .u8 12, .int .u8 0, .bool false, .bool false, .bool false, .int .i64 0] 61)) w' → w'.cell? ⟨w6.heap.size, 5, none⟩ = some (.int .i64 0) := boxc (heap1_0 w6 _) rfl
  generalize w6.alloc (.cells #[.int .u8 12, .int .u8 0, .bool false, .bool false, .bool false, .int .i64 0] 61) = R at *
  have hR7 : ∀ w', Below R.heap.size R w' → Below W.heap.size W w' := fun w' h => hb7.trans (h.mono hb7.size)
  replace D0 := fun w' (h : Below R.heap.size R w') => D0 w' (hR7 w' h)
  replace D1 := fun w' (h : Below R.heap.size R w') => D1 w' (hR7 w' h)
  replace D2 := fun w' (h : Below R.heap.size R w') => D2 w' (hR7 w' h)
  replace D3 := fun w' (h : Below R.heap.size R w') => D3 w' (hR7 w' h)
  replace D4 := fun w' (h : Below R.heap.size R w') => D4 w' (hR7 w' h)
  replace e0 := fun w' (h : Below R.heap.size R w') => e0 w' (hR7 w' h)
  replace e1 := fun w' (h : Below R.heap.size R w') => e1 w' (hR7 w' h)
  replace hlS := fun w' (h : Below R.heap.size R w') => hlS w' (hR7 w' h)
  have hmk := fun w1 => run_mkW108 (.slice (some ⟨b, o, none⟩) 3 c) (.slice none 0 0) (.int .i64 0) 2 (.int .u8 149) (.int .u8 0) (.int .u8 0) (.int .i16 0) (.int .i32 0) (.int .u8 12) (.int .u8 0) (.bool false) (.bool false) (.bool false) (.int .i64 0) S hS0 rfl w1
  obtain ⟨K, hKd⟩ : ∃ K, K = (.slice (some ⟨b, o, none⟩) 3 c :: .slice none 0 0 :: .int .i64 0 :: .int .i64 2 :: .int .u8 149 :: .int .u8 0 :: .int .u8 0 :: .int .i16 0 :: .int .i32 0 :: .int .u8 12 :: .int .u8 0 :: .bool false :: .bool false :: .bool false :: .int .i64 0 :: S : List Value) := ⟨_, rfl⟩
  rw [← hKd] at hmk
  have hKn : K.length = 604 := by rw [hKd]; simp [hS0]
  have hKE : K = [.slice (some ⟨b, o, none⟩) P3.length c, .slice none 0 0, .int .i64 0, .int .i64 2, .int .u8 149, .int .u8 0, .int .u8 0, .int .i16 0, .int .i32 0, .int .u8 12, .int .u8 0, .bool false, .bool false, .bool false, .int .i64 0] ++ SVl [.int .u8 1, .int .u64 7, .int .u64 0, .int .u64 7, .int .u64 7, .int .i64 0, .int .i64 0] := by rw [hKd, HSD.out]; rfl
  have hSo : ∀ v ∈ S, v.oneCell' = true := by rw [← HSD.out]; intro v hv; rcases List.mem_append.1 hv with h | h; exact (by decide : ∀ v ∈ [.int .u8 1, .int .u64 7, .int .u64 0, .int .u64 7, .int .u64 7, .int .i64 0, .int .i64 0], v.oneCell' = true) v h; exact restS_ones v h
  have hK1 : ∀ v ∈ K, v.oneCell' = true := by rw [hKd]; intro v hv; simp only [List.mem_cons] at hv; rcases hv with rfl | rfl | rfl | rfl | rfl | rfl | rfl | rfl | rfl | rfl | rfl | rfl | rfl | rfl | rfl | h <;> first | rfl | exact hSo v h
  have HKE := Lib.hid hKE
  clear hKE hKd
  have hsto : (storeCells ⟨R.heap.size, 0, none⟩ K 0).run Tryz.prog (R.alloc (.cells Tryz.zeroCells108 108)).drew = .ok () (R.alloc (.cells K.toArray 108)).drew := store_new108 R.drew K hKn hK1
  have hrR := Below.refl R.heap.size R
  clear hrf
  go_region_held3 (fun w' => Below R.heap.size R w') (first | assumption | exact sbelow_drew (by assumption) | exact sbelow_alloc (by assumption) (Nat.le_refl _) | exact sbelow_drew (sbelow_alloc hrR (Nat.le_refl _))) (skip)
  have hVw : Below w.heap.size w ((R.alloc (.cells K.toArray 108)).drew) := (hW0.trans (hb7.mono hW0.size)).trans ((sbelow_drew (sbelow_alloc hrR (Nat.le_refl _))).mono (Nat.le_trans hW0.size hb7.size))
  have hlK : (ldRow ⟨R.heap.size, 0, none⟩ 604).run Tryz.prog ((R.alloc (.cells K.toArray 108)).drew) = .ok K.toArray ((R.alloc (.cells K.toArray 108)).drew) := run_ldRow (fun k u hu => by rw [Nat.zero_add]; exact boxc (heap1_0 R (.cells K.toArray 108)) (by simpa using hu) _ (Below.drew (Below.refl _ _))) hKn
  generalize (R.alloc (.cells K.toArray 108)).drew = V at *
  have hstp := fun w1 (h : Below w.heap.size w w1) => rstep14_2 P3 (some ⟨b, o, none⟩) c 2 K HKE.out hKn w1
  go_wp2_with fail
  refine (hstp _ hVw).mono ?_
  rintro e w9 ⟨rfl, hc9⟩
  go_wp2_with fail
  go_ret2
  exact ⟨rfl, hVw.trans (hc9.mono hVw.size)⟩

end Go.Proofs.YtbfgffmebniooaaGreat
end

section
/- What a way of the closed run tells; the look's frame. No statement is proved here. -/
namespace Go.Proofs.YtbfgffmebniooaaGreat
open Go.RowKit
set_option linter.unusedSimpArgs false
set_option linter.unusedVariables false
set_option linter.unnecessarySimpa false
attribute [local go_sem ↓] ldFrom_589 ldFrom_604 mkS89_eq mkW94_eq mkW108_eq
set_option maxRecDepth 100000 in
set_option maxHeartbeats 4000000 in
theorem rresult14_0 (Ad : Option Addr) (c : Nat) (b : Nat) (w : World) (hat : SAt w w.heap.size 5 Ad 3 (insnsV P3)) (hb : b < w.heap.size) (hr : w.rangeAt b 0 (.int .i64 1 :: SVl [.int .u8 1, .int .u64 5, .int .u64 0, .int .u64 5, .int .u64 5, .int .i64 0, .int .i64 0])) :
    Calls Tryz.prog 62 #[.slice Ad 3 c, .int .i64 0, .slice (some ⟨b, 0, none⟩) 1 1] w fun e w' => e = .returned (.tuple #[.agg #[.int .u8 1, .int .u64 5, .int .u64 0, .int .u64 5, .int .u64 5, .int .i64 0, .int .i64 0], .bool true]) ∧ Below w.heap.size w w' := by
  have hse := fun (w1 : World) => rsem_P3_0 w1
  obtain ⟨q, o, rfl, hbb, d0, d1, d2, d3, d4⟩ := hat.insn (l := P3) (k := 0) (by decide)
  have D0 : ∀ w', Below w.heap.size w w' → w'.cell? ⟨q, o, none⟩ = some (.int .u8 183) := d0
  have D1 : ∀ w', Below w.heap.size w w' → w'.cell? ⟨q, o + 1, none⟩ = some (.int .u8 0) := d1
  have D2 : ∀ w', Below w.heap.size w w' → w'.cell? ⟨q, o + 2, none⟩ = some (.int .u8 0) := d2
  have D3 : ∀ w', Below w.heap.size w w' → w'.cell? ⟨q, o + 3, none⟩ = some (.int .i16 0) := d3
  have D4 : ∀ w', Below w.heap.size w w' → w'.cell? ⟨q, o + 4, none⟩ = some (.int .i32 5) := d4
  clear d0 d1 d2 d3 d4
  have W0 : ∀ w', Below w.heap.size w w' → w'.cell? ⟨b, 1, none⟩ = some (.int .u8 1) := fun w' h => by rw [h.cell hb]; exact hr 1 _ rfl
  have W1 : ∀ w', Below w.heap.size w w' → w'.cell? ⟨b, 2, none⟩ = some (.int .u64 5) := fun w' h => by rw [h.cell hb]; exact hr 2 _ rfl
  have W2 : ∀ w', Below w.heap.size w w' → w'.cell? ⟨b, 3, none⟩ = some (.int .u64 0) := fun w' h => by rw [h.cell hb]; exact hr 3 _ rfl
  have W3 : ∀ w', Below w.heap.size w w' → w'.cell? ⟨b, 4, none⟩ = some (.int .u64 5) := fun w' h => by rw [h.cell hb]; exact hr 4 _ rfl
  have W4 : ∀ w', Below w.heap.size w w' → w'.cell? ⟨b, 5, none⟩ = some (.int .u64 5) := fun w' h => by rw [h.cell hb]; exact hr 5 _ rfl
  have W5 : ∀ w', Below w.heap.size w w' → w'.cell? ⟨b, 6, none⟩ = some (.int .i64 0) := fun w' h => by rw [h.cell hb]; exact hr 6 _ rfl
  have W6 : ∀ w', Below w.heap.size w w' → w'.cell? ⟨b, 7, none⟩ = some (.int .i64 0) := fun w' h => by rw [h.cell hb]; exact hr 7 _ rfl
  clear hr
  have q0 : (w.alloc (.cells #[.int .u8 0, .int .u64 0, .int .u64 0, .int .u64 0, .int .u64 0, .int .i64 0, .int .i64 0] 41)).heap[w.heap.size]? = some (.cells #[.int .u8 0, .int .u64 0, .int .u64 0, .int .u64 0, .int .u64 0, .int .i64 0, .int .i64 0] 41) := heap1_0 _ _
  have a0 := boxc (k := 0) (u := .int .u8 0) q0 rfl
  have a1 := boxc (k := 1) (u := .int .u64 0) q0 rfl
  have a2 := boxc (k := 2) (u := .int .u64 0) q0 rfl
  have a3 := boxc (k := 3) (u := .int .u64 0) q0 rfl
  have a4 := boxc (k := 4) (u := .int .u64 0) q0 rfl
  have a5 := boxc (k := 5) (u := .int .i64 0) q0 rfl
  have a6 := boxc (k := 6) (u := .int .i64 0) q0 rfl
  have tA := boxt q0
  clear q0
  have hW0 : Below w.heap.size w (w.alloc (.cells #[.int .u8 0, .int .u64 0, .int .u64 0, .int .u64 0, .int .u64 0, .int .i64 0, .int .i64 0] 41)) := below_boxes1 _ _
  have hrf := Below.refl (w.alloc (.cells #[.int .u8 0, .int .u64 0, .int .u64 0, .int .u64 0, .int .u64 0, .int .i64 0, .int .i64 0] 41)).heap.size (w.alloc (.cells #[.int .u8 0, .int .u64 0, .int .u64 0, .int .u64 0, .int .u64 0, .int .i64 0, .int .i64 0] 41))
  go_enter Tryz.func62, Tryz.ntmps62
  go_upto_region 1 with fail
  generalize w.alloc (.cells #[.int .u8 0, .int .u64 0, .int .u64 0, .int .u64 0, .int .u64 0, .int .i64 0, .int .i64 0] 41) = W at *
  replace D0 := fun w' (h : Below W.heap.size W w') => D0 w' (hW0.trans (h.mono hW0.size))
  replace D1 := fun w' (h : Below W.heap.size W w') => D1 w' (hW0.trans (h.mono hW0.size))
  replace D2 := fun w' (h : Below W.heap.size W w') => D2 w' (hW0.trans (h.mono hW0.size))
  replace D3 := fun w' (h : Below W.heap.size W w') => D3 w' (hW0.trans (h.mono hW0.size))
  replace D4 := fun w' (h : Below W.heap.size W w') => D4 w' (hW0.trans (h.mono hW0.size))
  replace W0 := fun w' (h : Below W.heap.size W w') => W0 w' (hW0.trans (h.mono hW0.size))
  replace W1 := fun w' (h : Below W.heap.size W w') => W1 w' (hW0.trans (h.mono hW0.size))
  replace W2 := fun w' (h : Below W.heap.size W w') => W2 w' (hW0.trans (h.mono hW0.size))
  replace W3 := fun w' (h : Below W.heap.size W w') => W3 w' (hW0.trans (h.mono hW0.size))
  replace W4 := fun w' (h : Below W.heap.size W w') => W4 w' (hW0.trans (h.mono hW0.size))
  replace W5 := fun w' (h : Below W.heap.size W w') => W5 w' (hW0.trans (h.mono hW0.size))
  replace W6 := fun w' (h : Below W.heap.size W w') => W6 w' (hW0.trans (h.mono hW0.size))
  have E0 := D0 _ hrf
  have E1 := D1 _ hrf
  have E2 := D2 _ hrf
  have E3 := D3 _ hrf
  have E4 := D4 _ hrf
  go_wp2_with fail
  refine (hse _).mono ?_
  rintro e w1 ⟨rfl, hc1⟩
  have hb1 : Below W.heap.size W w1 := hc1
  clear hc1
  go_upto_region 4 with fail
  clear E0 E1 E2 E3 E4
  have hb2 : Below W.heap.size W (w1.alloc (.cells #[.int .u8 1, .int .u8 176, .bool true, .bool false, .bool false, .int .i64 0] 61)) := hb1.alloc hb1.size _
  have F0 := boxc (k := 0) (u := .int .u8 1) (heap1_0 w1 (.cells #[.int .u8 1, .int .u8 176, .bool true, .bool false, .bool false, .int .i64 0] 61)) rfl _ (Below.refl _ _)
  generalize w1.alloc (.cells #[.int .u8 1, .int .u8 176, .bool true, .bool false, .bool false, .int .i64 0] 61) = R at *
  have z0 := a0 _ hb2
  go_upto_region 10 with fail
  have D0_ := D0 _ hb2
  have D1_ := D1 _ hb2
  have D2_ := D2 _ hb2
  have D3_ := D3 _ hb2
  have D4_ := D4 _ hb2
  have W0_ := W0 _ hb2
  have W1_ := W1 _ hb2
  have W2_ := W2 _ hb2
  have W3_ := W3 _ hb2
  have W4_ := W4 _ hb2
  have W5_ := W5 _ hb2
  have W6_ := W6 _ hb2
  have a1_ := a1 _ hb2
  have a2_ := a2 _ hb2
  have a3_ := a3 _ hb2
  have a4_ := a4 _ hb2
  have a5_ := a5 _ hb2
  have a6_ := a6 _ hb2
  go_region
  clear D0 D0_ D1 D1_ D2 D2_ D3 D3_ D4 D4_ W0 W0_ W1 W1_ W2 W2_ W3 W3_ W4 W4_ W5 W5_ W6 W6_ a0 a1 a2 a3 a4 a5 a6 F0 hse hbb hrf
  have hRS : World.rangeAt ((((((((R).setCell ⟨w.heap.size, 0, none⟩ (.int .u8 1)).setCell ⟨w.heap.size, 1, none⟩ (.int .u64 5)).setCell ⟨w.heap.size, 2, none⟩ (.int .u64 0)).setCell ⟨w.heap.size, 3, none⟩ (.int .u64 5)).setCell ⟨w.heap.size, 4, none⟩ (.int .u64 5)).setCell ⟨w.heap.size, 5, none⟩ (.int .i64 0)).setCell ⟨w.heap.size, 6, none⟩ (.int .i64 0)) w.heap.size 0 [.int .u8 1, .int .u64 5, .int .u64 0, .int .u64 5, .int .u64 5, .int .i64 0, .int .i64 0] := World.rangeAt_setCells_same R w.heap.size 0 [.int .u8 1, .int .u64 5, .int .u64 0, .int .u64 5, .int .u64 5, .int .i64 0, .int .i64 0] (fun k hk => ⟨by have hk7 := seven hk; rcases hk7 with rfl | rfl | rfl | rfl | rfl | rfl | rfl <;> simp [z0, a1_, a2_, a3_, a4_, a5_, a6_], tA _ _ hb2⟩)
  replace hRS : World.rangeAt (World.drew ((((((((R).setCell ⟨w.heap.size, 0, none⟩ (.int .u8 1)).setCell ⟨w.heap.size, 1, none⟩ (.int .u64 5)).setCell ⟨w.heap.size, 2, none⟩ (.int .u64 0)).setCell ⟨w.heap.size, 3, none⟩ (.int .u64 5)).setCell ⟨w.heap.size, 4, none⟩ (.int .u64 5)).setCell ⟨w.heap.size, 5, none⟩ (.int .i64 0)).setCell ⟨w.heap.size, 6, none⟩ (.int .i64 0))) w.heap.size 0 [.int .u8 1, .int .u64 5, .int .u64 0, .int .u64 5, .int .u64 5, .int .i64 0, .int .i64 0] := (World.rangeAt_drew _ _ _ _).2 hRS
  have hV0 : Below w.heap.size w ((((((((R).setCell ⟨w.heap.size, 0, none⟩ (.int .u8 1)).setCell ⟨w.heap.size, 1, none⟩ (.int .u64 5)).setCell ⟨w.heap.size, 2, none⟩ (.int .u64 0)).setCell ⟨w.heap.size, 3, none⟩ (.int .u64 5)).setCell ⟨w.heap.size, 4, none⟩ (.int .u64 5)).setCell ⟨w.heap.size, 5, none⟩ (.int .i64 0)).setCell ⟨w.heap.size, 6, none⟩ (.int .i64 0)).drew := sbelow_drew (below_setCells w.heap.size (Nat.le_refl _) [.int .u8 1, .int .u64 5, .int .u64 0, .int .u64 5, .int .u64 5, .int .i64 0, .int .i64 0] 0 (hW0.trans (hb2.mono hW0.size)))
  have c0 : World.cell? ((((((((R).setCell ⟨w.heap.size, 0, none⟩ (.int .u8 1)).setCell ⟨w.heap.size, 1, none⟩ (.int .u64 5)).setCell ⟨w.heap.size, 2, none⟩ (.int .u64 0)).setCell ⟨w.heap.size, 3, none⟩ (.int .u64 5)).setCell ⟨w.heap.size, 4, none⟩ (.int .u64 5)).setCell ⟨w.heap.size, 5, none⟩ (.int .i64 0)).setCell ⟨w.heap.size, 6, none⟩ (.int .i64 0)).drew ⟨w.heap.size, 0, none⟩ = some (.int .u8 1) := by have := hRS 0 _ rfl; rwa [Nat.zero_add] at this
  have c1 : World.cell? ((((((((R).setCell ⟨w.heap.size, 0, none⟩ (.int .u8 1)).setCell ⟨w.heap.size, 1, none⟩ (.int .u64 5)).setCell ⟨w.heap.size, 2, none⟩ (.int .u64 0)).setCell ⟨w.heap.size, 3, none⟩ (.int .u64 5)).setCell ⟨w.heap.size, 4, none⟩ (.int .u64 5)).setCell ⟨w.heap.size, 5, none⟩ (.int .i64 0)).setCell ⟨w.heap.size, 6, none⟩ (.int .i64 0)).drew ⟨w.heap.size, 1, none⟩ = some (.int .u64 5) := by have := hRS 1 _ rfl; rwa [Nat.zero_add] at this
  have c2 : World.cell? ((((((((R).setCell ⟨w.heap.size, 0, none⟩ (.int .u8 1)).setCell ⟨w.heap.size, 1, none⟩ (.int .u64 5)).setCell ⟨w.heap.size, 2, none⟩ (.int .u64 0)).setCell ⟨w.heap.size, 3, none⟩ (.int .u64 5)).setCell ⟨w.heap.size, 4, none⟩ (.int .u64 5)).setCell ⟨w.heap.size, 5, none⟩ (.int .i64 0)).setCell ⟨w.heap.size, 6, none⟩ (.int .i64 0)).drew ⟨w.heap.size, 2, none⟩ = some (.int .u64 0) := by have := hRS 2 _ rfl; rwa [Nat.zero_add] at this
  have c3 : World.cell? ((((((((R).setCell ⟨w.heap.size, 0, none⟩ (.int .u8 1)).setCell ⟨w.heap.size, 1, none⟩ (.int .u64 5)).setCell ⟨w.heap.size, 2, none⟩ (.int .u64 0)).setCell ⟨w.heap.size, 3, none⟩ (.int .u64 5)).setCell ⟨w.heap.size, 4, none⟩ (.int .u64 5)).setCell ⟨w.heap.size, 5, none⟩ (.int .i64 0)).setCell ⟨w.heap.size, 6, none⟩ (.int .i64 0)).drew ⟨w.heap.size, 3, none⟩ = some (.int .u64 5) := by have := hRS 3 _ rfl; rwa [Nat.zero_add] at this
  have c4 : World.cell? ((((((((R).setCell ⟨w.heap.size, 0, none⟩ (.int .u8 1)).setCell ⟨w.heap.size, 1, none⟩ (.int .u64 5)).setCell ⟨w.heap.size, 2, none⟩ (.int .u64 0)).setCell ⟨w.heap.size, 3, none⟩ (.int .u64 5)).setCell ⟨w.heap.size, 4, none⟩ (.int .u64 5)).setCell ⟨w.heap.size, 5, none⟩ (.int .i64 0)).setCell ⟨w.heap.size, 6, none⟩ (.int .i64 0)).drew ⟨w.heap.size, 4, none⟩ = some (.int .u64 5) := by have := hRS 4 _ rfl; rwa [Nat.zero_add] at this
  have c5 : World.cell? ((((((((R).setCell ⟨w.heap.size, 0, none⟩ (.int .u8 1)).setCell ⟨w.heap.size, 1, none⟩ (.int .u64 5)).setCell ⟨w.heap.size, 2, none⟩ (.int .u64 0)).setCell ⟨w.heap.size, 3, none⟩ (.int .u64 5)).setCell ⟨w.heap.size, 4, none⟩ (.int .u64 5)).setCell ⟨w.heap.size, 5, none⟩ (.int .i64 0)).setCell ⟨w.heap.size, 6, none⟩ (.int .i64 0)).drew ⟨w.heap.size, 5, none⟩ = some (.int .i64 0) := by have := hRS 5 _ rfl; rwa [Nat.zero_add] at this
  have c6 : World.cell? ((((((((R).setCell ⟨w.heap.size, 0, none⟩ (.int .u8 1)).setCell ⟨w.heap.size, 1, none⟩ (.int .u64 5)).setCell ⟨w.heap.size, 2, none⟩ (.int .u64 0)).setCell ⟨w.heap.size, 3, none⟩ (.int .u64 5)).setCell ⟨w.heap.size, 4, none⟩ (.int .u64 5)).setCell ⟨w.heap.size, 5, none⟩ (.int .i64 0)).setCell ⟨w.heap.size, 6, none⟩ (.int .i64 0)).drew ⟨w.heap.size, 6, none⟩ = some (.int .i64 0) := by have := hRS 6 _ rfl; rwa [Nat.zero_add] at this
  clear hRS
  generalize World.drew ((((((((R).setCell ⟨w.heap.size, 0, none⟩ (.int .u8 1)).setCell ⟨w.heap.size, 1, none⟩ (.int .u64 5)).setCell ⟨w.heap.size, 2, none⟩ (.int .u64 0)).setCell ⟨w.heap.size, 3, none⟩ (.int .u64 5)).setCell ⟨w.heap.size, 4, none⟩ (.int .u64 5)).setCell ⟨w.heap.size, 5, none⟩ (.int .i64 0)).setCell ⟨w.heap.size, 6, none⟩ (.int .i64 0)) = V at *
  go_wp2_with fail
  exact bodyPost_ret (v := .tuple #[.agg #[.int .u8 1, .int .u64 5, .int .u64 0, .int .u64 5, .int .u64 5, .int .i64 0, .int .i64 0], .bool true]) (by simp [results, Tryz.results62, go_sem, *]) rfl ⟨rfl, hV0⟩

set_option maxRecDepth 100000 in
set_option maxHeartbeats 4000000 in
theorem rresult14_1 (Ad : Option Addr) (c : Nat) (b : Nat) (w : World) (hat : SAt w w.heap.size 5 Ad 3 (insnsV P3)) (hb : b < w.heap.size) (hr : w.rangeAt b 0 (.int .i64 2 :: SVl [.int .u8 1, .int .u64 7, .int .u64 0, .int .u64 7, .int .u64 7, .int .i64 0, .int .i64 0])) :
    Calls Tryz.prog 62 #[.slice Ad 3 c, .int .i64 1, .slice (some ⟨b, 0, none⟩) 1 1] w fun e w' => e = .returned (.tuple #[.agg #[.int .u8 1, .int .u64 7, .int .u64 0, .int .u64 7, .int .u64 7, .int .i64 0, .int .i64 0], .bool true]) ∧ Below w.heap.size w w' := by
  have hse := fun (w1 : World) => rsem_P3_1 w1
  obtain ⟨q, o, rfl, hbb, d0, d1, d2, d3, d4⟩ := hat.insn (l := P3) (k := 1) (by decide)
  have D0 : ∀ w', Below w.heap.size w w' → w'.cell? ⟨q, o + 5, none⟩ = some (.int .u8 7) := d0
  have D1 : ∀ w', Below w.heap.size w w' → w'.cell? ⟨q, o + 5 + 1, none⟩ = some (.int .u8 0) := d1
  have D2 : ∀ w', Below w.heap.size w w' → w'.cell? ⟨q, o + 5 + 2, none⟩ = some (.int .u8 0) := d2
  have D3 : ∀ w', Below w.heap.size w w' → w'.cell? ⟨q, o + 5 + 3, none⟩ = some (.int .i16 0) := d3
  have D4 : ∀ w', Below w.heap.size w w' → w'.cell? ⟨q, o + 5 + 4, none⟩ = some (.int .i32 2) := d4
  clear d0 d1 d2 d3 d4
  have W0 : ∀ w', Below w.heap.size w w' → w'.cell? ⟨b, 1, none⟩ = some (.int .u8 1) := fun w' h => by rw [h.cell hb]; exact hr 1 _ rfl
  have W1 : ∀ w', Below w.heap.size w w' → w'.cell? ⟨b, 2, none⟩ = some (.int .u64 7) := fun w' h => by rw [h.cell hb]; exact hr 2 _ rfl
  have W2 : ∀ w', Below w.heap.size w w' → w'.cell? ⟨b, 3, none⟩ = some (.int .u64 0) := fun w' h => by rw [h.cell hb]; exact hr 3 _ rfl
  have W3 : ∀ w', Below w.heap.size w w' → w'.cell? ⟨b, 4, none⟩ = some (.int .u64 7) := fun w' h => by rw [h.cell hb]; exact hr 4 _ rfl
  have W4 : ∀ w', Below w.heap.size w w' → w'.cell? ⟨b, 5, none⟩ = some (.int .u64 7) := fun w' h => by rw [h.cell hb]; exact hr 5 _ rfl
  have W5 : ∀ w', Below w.heap.size w w' → w'.cell? ⟨b, 6, none⟩ = some (.int .i64 0) := fun w' h => by rw [h.cell hb]; exact hr 6 _ rfl
  have W6 : ∀ w', Below w.heap.size w w' → w'.cell? ⟨b, 7, none⟩ = some (.int .i64 0) := fun w' h => by rw [h.cell hb]; exact hr 7 _ rfl
  clear hr
  have q0 : (w.alloc (.cells #[.int .u8 0, .int .u64 0, .int .u64 0, .int .u64 0, .int .u64 0, .int .i64 0, .int .i64 0] 41)).heap[w.heap.size]? = some (.cells #[.int .u8 0, .int .u64 0, .int .u64 0, .int .u64 0, .int .u64 0, .int .i64 0, .int .i64 0] 41) := heap1_0 _ _
  have a0 := boxc (k := 0) (u := .int .u8 0) q0 rfl
  have a1 := boxc (k := 1) (u := .int .u64 0) q0 rfl
  have a2 := boxc (k := 2) (u := .int .u64 0) q0 rfl
  have a3 := boxc (k := 3) (u := .int .u64 0) q0 rfl
  have a4 := boxc (k := 4) (u := .int .u64 0) q0 rfl
  have a5 := boxc (k := 5) (u := .int .i64 0) q0 rfl
  have a6 := boxc (k := 6) (u := .int .i64 0) q0 rfl
  have tA := boxt q0
  clear q0
  have hW0 : Below w.heap.size w (w.alloc (.cells #[.int .u8 0, .int .u64 0, .int .u64 0, .int .u64 0, .int .u64 0, .int .i64 0, .int .i64 0] 41)) := below_boxes1 _ _
  have hrf := Below.refl (w.alloc (.cells #[.int .u8 0, .int .u64 0, .int .u64 0, .int .u64 0, .int .u64 0, .int .i64 0, .int .i64 0] 41)).heap.size (w.alloc (.cells #[.int .u8 0, .int .u64 0, .int .u64 0, .int .u64 0, .int .u64 0, .int .i64 0, .int .i64 0] 41))
  go_enter Tryz.func62, Tryz.ntmps62
  go_upto_region 1 with fail
  generalize w.alloc (.cells #[.int .u8 0, .int .u64 0, .int .u64 0, .int .u64 0, .int .u64 0, .int .i64 0, .int .i64 0] 41) = W at *
  replace D0 := fun w' (h : Below W.heap.size W w') => D0 w' (hW0.trans (h.mono hW0.size))
  replace D1 := fun w' (h : Below W.heap.size W w') => D1 w' (hW0.trans (h.mono hW0.size))
  replace D2 := fun w' (h : Below W.heap.size W w') => D2 w' (hW0.trans (h.mono hW0.size))
  replace D3 := fun w' (h : Below W.heap.size W w') => D3 w' (hW0.trans (h.mono hW0.size))
  replace D4 := fun w' (h : Below W.heap.size W w') => D4 w' (hW0.trans (h.mono hW0.size))
  replace W0 := fun w' (h : Below W.heap.size W w') => W0 w' (hW0.trans (h.mono hW0.size))
  replace W1 := fun w' (h : Below W.heap.size W w') => W1 w' (hW0.trans (h.mono hW0.size))
  replace W2 := fun w' (h : Below W.heap.size W w') => W2 w' (hW0.trans (h.mono hW0.size))
  replace W3 := fun w' (h : Below W.heap.size W w') => W3 w' (hW0.trans (h.mono hW0.size))
  replace W4 := fun w' (h : Below W.heap.size W w') => W4 w' (hW0.trans (h.mono hW0.size))
  replace W5 := fun w' (h : Below W.heap.size W w') => W5 w' (hW0.trans (h.mono hW0.size))
  replace W6 := fun w' (h : Below W.heap.size W w') => W6 w' (hW0.trans (h.mono hW0.size))
  have E0 := D0 _ hrf
  have E1 := D1 _ hrf
  have E2 := D2 _ hrf
  have E3 := D3 _ hrf
  have E4 := D4 _ hrf
  go_wp2_with fail
  refine (hse _).mono ?_
  rintro e w1 ⟨rfl, hc1⟩
  have hb1 : Below W.heap.size W w1 := hc1
  clear hc1
  go_upto_region 4 with fail
  clear E0 E1 E2 E3 E4
  have hb2 : Below W.heap.size W (w1.alloc (.cells #[.int .u8 1, .int .u8 0, .bool true, .bool false, .bool false, .int .i64 0] 61)) := hb1.alloc hb1.size _
  have F0 := boxc (k := 0) (u := .int .u8 1) (heap1_0 w1 (.cells #[.int .u8 1, .int .u8 0, .bool true, .bool false, .bool false, .int .i64 0] 61)) rfl _ (Below.refl _ _)
  generalize w1.alloc (.cells #[.int .u8 1, .int .u8 0, .bool true, .bool false, .bool false, .int .i64 0] 61) = R at *
  have z0 := a0 _ hb2
  go_upto_region 10 with fail
  have D0_ := D0 _ hb2
  have D1_ := D1 _ hb2
  have D2_ := D2 _ hb2
  have D3_ := D3 _ hb2
  have D4_ := D4 _ hb2
  have W0_ := W0 _ hb2
  have W1_ := W1 _ hb2
  have W2_ := W2 _ hb2
  have W3_ := W3 _ hb2
  have W4_ := W4 _ hb2
  have W5_ := W5 _ hb2
  have W6_ := W6 _ hb2
  have a1_ := a1 _ hb2
  have a2_ := a2 _ hb2
  have a3_ := a3 _ hb2
  have a4_ := a4 _ hb2
  have a5_ := a5 _ hb2
  have a6_ := a6 _ hb2
  go_region
  clear D0 D0_ D1 D1_ D2 D2_ D3 D3_ D4 D4_ W0 W0_ W1 W1_ W2 W2_ W3 W3_ W4 W4_ W5 W5_ W6 W6_ a0 a1 a2 a3 a4 a5 a6 F0 hse hbb hrf
  have hRS : World.rangeAt ((((((((R).setCell ⟨w.heap.size, 0, none⟩ (.int .u8 1)).setCell ⟨w.heap.size, 1, none⟩ (.int .u64 7)).setCell ⟨w.heap.size, 2, none⟩ (.int .u64 0)).setCell ⟨w.heap.size, 3, none⟩ (.int .u64 7)).setCell ⟨w.heap.size, 4, none⟩ (.int .u64 7)).setCell ⟨w.heap.size, 5, none⟩ (.int .i64 0)).setCell ⟨w.heap.size, 6, none⟩ (.int .i64 0)) w.heap.size 0 [.int .u8 1, .int .u64 7, .int .u64 0, .int .u64 7, .int .u64 7, .int .i64 0, .int .i64 0] := World.rangeAt_setCells_same R w.heap.size 0 [.int .u8 1, .int .u64 7, .int .u64 0, .int .u64 7, .int .u64 7, .int .i64 0, .int .i64 0] (fun k hk => ⟨by have hk7 := seven hk; rcases hk7 with rfl | rfl | rfl | rfl | rfl | rfl | rfl <;> simp [z0, a1_, a2_, a3_, a4_, a5_, a6_], tA _ _ hb2⟩)
  replace hRS : World.rangeAt (World.drew ((((((((R).setCell ⟨w.heap.size, 0, none⟩ (.int .u8 1)).setCell ⟨w.heap.size, 1, none⟩ (.int .u64 7)).setCell ⟨w.heap.size, 2, none⟩ (.int .u64 0)).setCell ⟨w.heap.size, 3, none⟩ (.int .u64 7)).setCell ⟨w.heap.size, 4, none⟩ (.int .u64 7)).setCell ⟨w.heap.size, 5, none⟩ (.int .i64 0)).setCell ⟨w.heap.size, 6, none⟩ (.int .i64 0))) w.heap.size 0 [.int .u8 1, .int .u64 7, .int .u64 0, .int .u64 7, .int .u64 7, .int .i64 0, .int .i64 0] := (World.rangeAt_drew _ _ _ _).2 hRS
  have hV0 : Below w.heap.size w ((((((((R).setCell ⟨w.heap.size, 0, none⟩ (.int .u8 1)).setCell ⟨w.heap.size, 1, none⟩ (.int .u64 7)).setCell ⟨w.heap.size, 2, none⟩ (.int .u64 0)).setCell ⟨w.heap.size, 3, none⟩ (.int .u64 7)).setCell ⟨w.heap.size, 4, none⟩ (.int .u64 7)).setCell ⟨w.heap.size, 5, none⟩ (.int .i64 0)).setCell ⟨w.heap.size, 6, none⟩ (.int .i64 0)).drew := sbelow_drew (below_setCells w.heap.size (Nat.le_refl _) [.int .u8 1, .int .u64 7, .int .u64 0, .int .u64 7, .int .u64 7, .int .i64 0, .int .i64 0] 0 (hW0.trans (hb2.mono hW0.size)))
  have c0 : World.cell? ((((((((R).setCell ⟨w.heap.size, 0, none⟩ (.int .u8 1)).setCell ⟨w.heap.size, 1, none⟩ (.int .u64 7)).setCell ⟨w.heap.size, 2, none⟩ (.int .u64 0)).setCell ⟨w.heap.size, 3, none⟩ (.int .u64 7)).setCell ⟨w.heap.size, 4, none⟩ (.int .u64 7)).setCell ⟨w.heap.size, 5, none⟩ (.int .i64 0)).setCell ⟨w.heap.size, 6, none⟩ (.int .i64 0)).drew ⟨w.heap.size, 0, none⟩ = some (.int .u8 1) := by have := hRS 0 _ rfl; rwa [Nat.zero_add] at this
  have c1 : World.cell? ((((((((R).setCell ⟨w.heap.size, 0, none⟩ (.int .u8 1)).setCell ⟨w.heap.size, 1, none⟩ (.int .u64 7)).setCell ⟨w.heap.size, 2, none⟩ (.int .u64 0)).setCell ⟨w.heap.size, 3, none⟩ (.int .u64 7)).setCell ⟨w.heap.size, 4, none⟩ (.int .u64 7)).setCell ⟨w.heap.size, 5, none⟩ (.int .i64 0)).setCell ⟨w.heap.size, 6, none⟩ (.int .i64 0)).drew ⟨w.heap.size, 1, none⟩ = some (.int .u64 7) := by have := hRS 1 _ rfl; rwa [Nat.zero_add] at this
  have c2 : World.cell? ((((((((R).setCell ⟨w.heap.size, 0, none⟩ (.int .u8 1)).setCell ⟨w.heap.size, 1, none⟩ (.int .u64 7)).setCell ⟨w.heap.size, 2, none⟩ (.int .u64 0)).setCell ⟨w.heap.size, 3, none⟩ (.int .u64 7)).setCell ⟨w.heap.size, 4, none⟩ (.int .u64 7)).setCell ⟨w.heap.size, 5, none⟩ (.int .i64 0)).setCell ⟨w.heap.size, 6, none⟩ (.int .i64 0)).drew ⟨w.heap.size, 2, none⟩ = some (.int .u64 0) := by have := hRS 2 _ rfl; rwa [Nat.zero_add] at this
  have c3 : World.cell? ((((((((R).setCell ⟨w.heap.size, 0, none⟩ (.int .u8 1)).setCell ⟨w.heap.size, 1, none⟩ (.int .u64 7)).setCell ⟨w.heap.size, 2, none⟩ (.int .u64 0)).setCell ⟨w.heap.size, 3, none⟩ (.int .u64 7)).setCell ⟨w.heap.size, 4, none⟩ (.int .u64 7)).setCell ⟨w.heap.size, 5, none⟩ (.int .i64 0)).setCell ⟨w.heap.size, 6, none⟩ (.int .i64 0)).drew ⟨w.heap.size, 3, none⟩ = some (.int .u64 7) := by have := hRS 3 _ rfl; rwa [Nat.zero_add] at this
  have c4 : World.cell? ((((((((R).setCell ⟨w.heap.size, 0, none⟩ (.int .u8 1)).setCell ⟨w.heap.size, 1, none⟩ (.int .u64 7)).setCell ⟨w.heap.size, 2, none⟩ (.int .u64 0)).setCell ⟨w.heap.size, 3, none⟩ (.int .u64 7)).setCell ⟨w.heap.size, 4, none⟩ (.int .u64 7)).setCell ⟨w.heap.size, 5, none⟩ (.int .i64 0)).setCell ⟨w.heap.size, 6, none⟩ (.int .i64 0)).drew ⟨w.heap.size, 4, none⟩ = some (.int .u64 7) := by have := hRS 4 _ rfl; rwa [Nat.zero_add] at this
  have c5 : World.cell? ((((((((R).setCell ⟨w.heap.size, 0, none⟩ (.int .u8 1)).setCell ⟨w.heap.size, 1, none⟩ (.int .u64 7)).setCell ⟨w.heap.size, 2, none⟩ (.int .u64 0)).setCell ⟨w.heap.size, 3, none⟩ (.int .u64 7)).setCell ⟨w.heap.size, 4, none⟩ (.int .u64 7)).setCell ⟨w.heap.size, 5, none⟩ (.int .i64 0)).setCell ⟨w.heap.size, 6, none⟩ (.int .i64 0)).drew ⟨w.heap.size, 5, none⟩ = some (.int .i64 0) := by have := hRS 5 _ rfl; rwa [Nat.zero_add] at this
  have c6 : World.cell? ((((((((R).setCell ⟨w.heap.size, 0, none⟩ (.int .u8 1)).setCell ⟨w.heap.size, 1, none⟩ (.int .u64 7)).setCell ⟨w.heap.size, 2, none⟩ (.int .u64 0)).setCell ⟨w.heap.size, 3, none⟩ (.int .u64 7)).setCell ⟨w.heap.size, 4, none⟩ (.int .u64 7)).setCell ⟨w.heap.size, 5, none⟩ (.int .i64 0)).setCell ⟨w.heap.size, 6, none⟩ (.int .i64 0)).drew ⟨w.heap.size, 6, none⟩ = some (.int .i64 0) := by have := hRS 6 _ rfl; rwa [Nat.zero_add] at this
  clear hRS
  generalize World.drew ((((((((R).setCell ⟨w.heap.size, 0, none⟩ (.int .u8 1)).setCell ⟨w.heap.size, 1, none⟩ (.int .u64 7)).setCell ⟨w.heap.size, 2, none⟩ (.int .u64 0)).setCell ⟨w.heap.size, 3, none⟩ (.int .u64 7)).setCell ⟨w.heap.size, 4, none⟩ (.int .u64 7)).setCell ⟨w.heap.size, 5, none⟩ (.int .i64 0)).setCell ⟨w.heap.size, 6, none⟩ (.int .i64 0)) = V at *
  go_wp2_with fail
  exact bodyPost_ret (v := .tuple #[.agg #[.int .u8 1, .int .u64 7, .int .u64 0, .int .u64 7, .int .u64 7, .int .i64 0, .int .i64 0], .bool true]) (by simp [results, Tryz.results62, go_sem, *]) rfl ⟨rfl, hV0⟩

set_option maxRecDepth 100000 in
set_option maxHeartbeats 4000000 in
theorem rresult14_2 (Ad : Option Addr) (c : Nat) (w : World) (hat : SAt w w.heap.size 5 Ad 3 (insnsV P3)) :
    Calls Tryz.prog 62 #[.slice Ad 3 c, .int .i64 2, .slice none 0 0] w fun e w' => e = .returned (.tuple #[.agg #[.int .u8 0, .int .u64 0, .int .u64 0, .int .u64 0, .int .u64 0, .int .i64 0, .int .i64 0], .bool false]) ∧ Below w.heap.size w w' := by
  have hse := fun (w1 : World) => rsem_P3_2 w1
  obtain ⟨q, o, rfl, hbb, d0, d1, d2, d3, d4⟩ := hat.insn (l := P3) (k := 2) (by decide)
  have D0 : ∀ w', Below w.heap.size w w' → w'.cell? ⟨q, o + 10, none⟩ = some (.int .u8 149) := d0
  have D1 : ∀ w', Below w.heap.size w w' → w'.cell? ⟨q, o + 10 + 1, none⟩ = some (.int .u8 0) := d1
  have D2 : ∀ w', Below w.heap.size w w' → w'.cell? ⟨q, o + 10 + 2, none⟩ = some (.int .u8 0) := d2
  have D3 : ∀ w', Below w.heap.size w w' → w'.cell? ⟨q, o + 10 + 3, none⟩ = some (.int .i16 0) := d3
  have D4 : ∀ w', Below w.heap.size w w' → w'.cell? ⟨q, o + 10 + 4, none⟩ = some (.int .i32 0) := d4
  clear d0 d1 d2 d3 d4
  have q0 : (w.alloc (.cells #[.int .u8 0, .int .u64 0, .int .u64 0, .int .u64 0, .int .u64 0, .int .i64 0, .int .i64 0] 41)).heap[w.heap.size]? = some (.cells #[.int .u8 0, .int .u64 0, .int .u64 0, .int .u64 0, .int .u64 0, .int .i64 0, .int .i64 0] 41) := heap1_0 _ _
  have a0 := boxc (k := 0) (u := .int .u8 0) q0 rfl
  have a1 := boxc (k := 1) (u := .int .u64 0) q0 rfl
  have a2 := boxc (k := 2) (u := .int .u64 0) q0 rfl
  have a3 := boxc (k := 3) (u := .int .u64 0) q0 rfl
  have a4 := boxc (k := 4) (u := .int .u64 0) q0 rfl
  have a5 := boxc (k := 5) (u := .int .i64 0) q0 rfl
  have a6 := boxc (k := 6) (u := .int .i64 0) q0 rfl
  have tA := boxt q0
  clear q0
  have hW0 : Below w.heap.size w (w.alloc (.cells #[.int .u8 0, .int .u64 0, .int .u64 0, .int .u64 0, .int .u64 0, .int .i64 0, .int .i64 0] 41)) := below_boxes1 _ _
  have hrf := Below.refl (w.alloc (.cells #[.int .u8 0, .int .u64 0, .int .u64 0, .int .u64 0, .int .u64 0, .int .i64 0, .int .i64 0] 41)).heap.size (w.alloc (.cells #[.int .u8 0, .int .u64 0, .int .u64 0, .int .u64 0, .int .u64 0, .int .i64 0, .int .i64 0] 41))
  go_enter Tryz.func62, Tryz.ntmps62
  go_upto_region 1 with fail
  generalize w.alloc (.cells #[.int .u8 0, .int .u64 0, .int .u64 0, .int .u64 0, .int .u64 0, .int .i64 0, .int .i64 0] 41) = W at *
  replace D0 := fun w' (h : Below W.heap.size W w') => D0 w' (hW0.trans (h.mono hW0.size))
  replace D1 := fun w' (h : Below W.heap.size W w') => D1 w' (hW0.trans (h.mono hW0.size))
  replace D2 := fun w' (h : Below W.heap.size W w') => D2 w' (hW0.trans (h.mono hW0.size))
  replace D3 := fun w' (h : Below W.heap.size W w') => D3 w' (hW0.trans (h.mono hW0.size))
  replace D4 := fun w' (h : Below W.heap.size W w') => D4 w' (hW0.trans (h.mono hW0.size))
  have z0 := a0 _ hrf
  have z1 := a1 _ hrf
  have z2 := a2 _ hrf
  have z3 := a3 _ hrf
  have z4 := a4 _ hrf
  have z5 := a5 _ hrf
  have z6 := a6 _ hrf
  go_wp2_with fail
  refine bodyPost_ret (v := .tuple #[.agg #[.int .u8 0, .int .u64 0, .int .u64 0, .int .u64 0, .int .u64 0, .int .i64 0, .int .i64 0], .bool false]) (by simp [results, Tryz.results62, go_sem, *]) rfl ⟨rfl, ?_⟩
  (repeat (refine Below.setCell ?_ (by first | exact Nat.le_refl _ | exact Nat.le_succ _ | (simp; done) | (simp; omega)) _))
  exact hW0.trans (hrf.mono hW0.size)

abbrev lookL (Ad : Option Addr) (c Jb Jo cj : Nat) (kp : Value) (N : Nat) (steps : Int) : List Value := [.slice Ad 3 c, .slice none 0 0, .int .i64 0, .slice (some ⟨Jb, Jo, none⟩) 3 cj, kp, .int .i64 0, .int .i64 0, .int .i64 steps, .slice (some ⟨N, 0, none⟩) 3 3]
/-- What the look of the closed run holds: its block L, the notes' block N behind it, the program, no joint. -/
structure LookOk (w : World) (Ad : Option Addr) (c Jb Jo cj : Nat) (kp : Value) (L N : Nat) (steps : Int) (notes : List Value) : Prop where
  ln : L < N
  nw : N < w.heap.size
  look : w.rangeAt L 0 (lookL Ad c Jb Jo cj kp N steps)
  lookF : ∀ k, w.frozen? ⟨L, k, none⟩ = false
  nts : w.rangeAt N 0 notes
  ntsF : ∀ k, w.frozen? ⟨N, k, none⟩ = false
  hat : SAt w L 5 Ad 3 (insnsV P3)
  jlt : Jb < L
  joint : ∀ k, k < 3 → w.cell? ⟨Jb, Jo + k, none⟩ = some (.bool false)
section
variable {w Y : World} {Ad : Option Addr} {c Jb Jo cj : Nat} {kp : Value} {L N : Nat} {steps : Int} {notes A B C : List Value}
theorem range_below {b : Nat} {cs : List Value} {D : Nat} (h : w.rangeAt b 0 cs) (hb : Below D w Y) (hlt : b < D) : Y.rangeAt b 0 cs := fun k u hu => by
  rw [hb.cell (p := ⟨b, 0 + k, none⟩) hlt]; exact h k u hu
theorem LookOk.ls (h : LookOk w Ad c Jb Jo cj kp L N steps notes) : L < w.heap.size := Nat.lt_trans h.ln h.nw
theorem LookOk.js (h : LookOk w Ad c Jb Jo cj kp L N steps notes) : Jb < w.heap.size := Nat.lt_trans h.jlt h.ls
theorem LookOk.below (h : LookOk w Ad c Jb Jo cj kp L N steps notes) (hb : Below w.heap.size w Y) : LookOk Y Ad c Jb Jo cj kp L N steps notes where
  ln := h.ln
  nw := Nat.lt_of_lt_of_le h.nw hb.size
  look := range_below h.look hb h.ls
  lookF := fun k => (hb.frozen (p := ⟨L, k, none⟩) h.ls).trans (h.lookF k)
  nts := range_below h.nts hb h.nw
  ntsF := fun k => (hb.frozen (p := ⟨N, k, none⟩) h.nw).trans (h.ntsF k)
  hat := h.hat.below (hb.mono (Nat.le_of_lt h.ls))
  jlt := h.jlt
  joint := fun k hk => (hb.cell (p := ⟨Jb, Jo + k, none⟩) h.js).trans (h.joint k hk)
theorem LookOk.put (h : LookOk w Ad c Jb Jo cj kp L N steps (A ++ (B ++ C))) (hb : Below w.heap.size w Y) (vs : List Value) (hl : vs.length = B.length) :
    LookOk (Y.setCells N A.length vs) Ad c Jb Jo cj kp L N steps (A ++ (vs ++ C)) ∧ Below L w (Y.setCells N A.length vs) := by
  have h1 := h.below hb
  have hbL : Below L w (Y.setCells N A.length vs) := below_setCells N (Nat.le_of_lt h.ln) vs _ (hb.mono (Nat.le_of_lt h.ls))
  refine ⟨⟨h.ln, ?_, World.rangeAt_setCells_apart h1.look _ _ _ (.inl (by have := h.ln; omega)), fun k => by rw [World.frozen?_setCells]; exact h1.lookF k, range_put h1.nts hl, fun k => by rw [World.frozen?_setCells]; exact h1.ntsF k, h.hat.below hbL, h.jlt, fun k hk => by rw [hbL.cell (p := ⟨Jb, Jo + k, none⟩) h.jlt]; exact h.joint k hk⟩, hbL⟩
  exact Nat.lt_of_lt_of_le h1.nw (below_setCells (B := 0) (a := Y) N (Nat.zero_le _) vs _ (Below.refl _ _)).size
theorem LookOk.count (h : LookOk w Ad c Jb Jo cj kp L N steps notes) (hb : Below w.heap.size w Y) (t : Int) :
    LookOk (Y.setCell ⟨L, 7, none⟩ (.int .i64 t)) Ad c Jb Jo cj kp L N t notes ∧ Below L w (Y.setCell ⟨L, 7, none⟩ (.int .i64 t)) := by
  have h1 := h.below hb
  have hbL : Below L w (Y.setCell ⟨L, 7, none⟩ (.int .i64 t)) := Below.setCell (hb.mono (Nat.le_of_lt h.ls)) (Nat.le_refl _) _
  have e : Y.setCell ⟨L, 7, none⟩ (.int .i64 t) = Y.setCells L 7 [.int .i64 t] := rfl
  refine ⟨⟨h.ln, ?_, ?_, fun k => by rw [e, World.frozen?_setCells]; exact h1.lookF k, ?_, fun k => by rw [e, World.frozen?_setCells]; exact h1.ntsF k, h.hat.below hbL, h.jlt, fun k hk => by rw [hbL.cell (p := ⟨Jb, Jo + k, none⟩) h.jlt]; exact h.joint k hk⟩, hbL⟩
  · rw [e]; exact Nat.lt_of_lt_of_le h1.nw (below_setCells (B := 0) (a := Y) L (Nat.zero_le _) _ _ (Below.refl _ _)).size
  · rw [e]
    have := range_put (W := Y) (b := L) (A := [.slice Ad 3 c, .slice none 0 0, .int .i64 0, .slice (some ⟨Jb, Jo, none⟩) 3 cj, kp, .int .i64 0, .int .i64 0]) (B := [.int .i64 steps]) (C := [.slice (some ⟨N, 0, none⟩) 3 3]) (vs := [.int .i64 t]) h1.look rfl
    exact this
  · rw [e]; exact World.rangeAt_setCells_apart h1.nts _ _ _ (.inl (by have := h.ln; omega))
end

end Go.Proofs.YtbfgffmebniooaaGreat
end

section
/- What the look of the closed run notes. No statement is proved here. -/
namespace Go.Proofs.YtbfgffmebniooaaGreat
open Go.RowKit
set_option linter.unusedSimpArgs false
set_option linter.unusedVariables false
set_option linter.unnecessarySimpa false
attribute [local go_sem ↓] ldFrom_589 ldFrom_604 mkS89_eq mkW94_eq mkW108_eq
theorem drew_heap (w : World) : w.drew.heap = w.heap := rfl
theorem heap_put_other (w : World) (g : Nat) (o : Nat) (vs : List Value) {i : Nat} (hi : i < w.heap.size) (hne : i ≠ g) : (w.setCells g o vs).heap[i]? = w.heap[i]? := World.heap_setCells_other w g o vs hi hne
theorem rtarget_P3_0 (Ad : Option Addr) (c : Nat) (w : World) (hat : SAt w w.heap.size 5 Ad 3 (insnsV P3)) : Calls Tryz.prog 38 #[.slice Ad 3 c, .int .i64 0] w fun e w' => e = .returned (.tuple #[.int .i64 0, .bool false]) ∧ Below w.heap.size w w' := by
  have := rtarget_any P3 P3_ok Ad c (by decide) 0 (by decide) (by decide) w hat
  rw [show targetM P3 0 = (0, false) by decide +kernel] at this
  exact this
theorem rtarget_P3_1 (Ad : Option Addr) (c : Nat) (w : World) (hat : SAt w w.heap.size 5 Ad 3 (insnsV P3)) : Calls Tryz.prog 38 #[.slice Ad 3 c, .int .i64 1] w fun e w' => e = .returned (.tuple #[.int .i64 0, .bool false]) ∧ Below w.heap.size w w' := by
  have := rtarget_any P3 P3_ok Ad c (by decide) 1 (by decide) (by decide) w hat
  rw [show targetM P3 1 = (0, false) by decide +kernel] at this
  exact this
theorem rtarget_P3_2 (Ad : Option Addr) (c : Nat) (w : World) (hat : SAt w w.heap.size 5 Ad 3 (insnsV P3)) : Calls Tryz.prog 38 #[.slice Ad 3 c, .int .i64 2] w fun e w' => e = .returned (.tuple #[.int .i64 0, .bool false]) ∧ Below w.heap.size w w' := by
  have := rtarget_any P3 P3_ok Ad c (by decide) 2 (by decide) (by decide) w hat
  rw [show targetM P3 2 = (0, false) by decide +kernel] at this
  exact this
set_option maxRecDepth 100000 in
set_option maxHeartbeats 4000000 in
theorem rnote15_0 (Ad : Option Addr) (c Jb Jo cj : Nat) (kp : Value) (L N : Nat) (steps : Int) (w : World) (hk : LookOk w Ad c Jb Jo cj kp L N steps [.bool false, .bool false, .bool false, .int .u8 0, .int .u64 0, .int .u64 0, .int .u64 0, .int .u64 0, .int .i64 0, .int .i64 0, .bool false, .bool false, .bool false, .int .u8 0, .int .u64 0, .int .u64 0, .int .u64 0, .int .u64 0, .int .i64 0, .int .i64 0, .bool false, .bool false, .bool false, .int .u8 0, .int .u64 0, .int .u64 0, .int .u64 0, .int .u64 0, .int .i64 0, .int .i64 0]) (b : Nat) (hb : b < w.heap.size) (hr : w.rangeAt b 0 (.int .i64 1 :: SVl [.int .u8 1, .int .u64 5, .int .u64 0, .int .u64 5, .int .u64 5, .int .i64 0, .int .i64 0])) :
    Calls Tryz.prog 44 #[.pointer (some ⟨L, 0, none⟩), .int .i64 0, .slice (some ⟨b, 0, none⟩) 1 1] w fun e w' => e = .returned (.tuple #[]) ∧ LookOk w' Ad c Jb Jo cj kp L N steps [.bool true, .bool false, .bool false, .int .u8 1, .int .u64 5, .int .u64 0, .int .u64 5, .int .u64 5, .int .i64 0, .int .i64 0, .bool false, .bool false, .bool false, .int .u8 0, .int .u64 0, .int .u64 0, .int .u64 0, .int .u64 0, .int .i64 0, .int .i64 0, .bool false, .bool false, .bool false, .int .u8 0, .int .u64 0, .int .u64 0, .int .u64 0, .int .u64 0, .int .i64 0, .int .i64 0] ∧ Below L w w' ∧ ∀ k, k < w.heap.size → k ≠ N → w'.heap[k]? = w.heap[k]? := by
  have HLK := Lib.hid hk
  have hrs := fun (w1 : World) (hb1 : Below w.heap.size w w1) => rresult14_0 Ad c b w1 ((hk.hat.below (hb1.mono (Nat.le_of_lt hk.ls))).more (Nat.le_trans (Nat.le_of_lt hk.ls) hb1.size)) (Nat.lt_of_lt_of_le hb hb1.size) (fun k u hu => by rw [hb1.cell (p := ⟨b, 0 + k, none⟩) hb]; exact hr k u hu)
  have htg := fun (w1 : World) (hb1 : Below w.heap.size w w1) => rtarget_P3_0 Ad c w1 ((hk.hat.below (hb1.mono (Nat.le_of_lt hk.ls))).more (Nat.le_trans (Nat.le_of_lt hk.ls) hb1.size))
  have hse := fun (w1 : World) => rsem_P3_0 w1
  have hlen := hk.look 8 _ rfl
  have hl0 := hk.look 0 _ rfl
  have hfN := hk.ntsF
  simp only [Nat.zero_add] at hlen hl0
  have n0 := hk.nts 0 (.bool false) rfl
  have n1 := hk.nts 1 (.bool false) rfl
  have n2 := hk.nts 2 (.bool false) rfl
  have n3 := hk.nts 3 (.int .u8 0) rfl
  have n4 := hk.nts 4 (.int .u64 0) rfl
  have n5 := hk.nts 5 (.int .u64 0) rfl
  have n6 := hk.nts 6 (.int .u64 0) rfl
  have n7 := hk.nts 7 (.int .u64 0) rfl
  have n8 := hk.nts 8 (.int .i64 0) rfl
  have n9 := hk.nts 9 (.int .i64 0) rfl
  simp only [Nat.zero_add] at n0 n1 n2 n3 n4 n5 n6 n7 n8 n9
  have hat1 := hk.hat.more (Nat.le_of_lt hk.ls)
  have hls := hk.ls
  have hnw := hk.nw
  replace hlen := fun w' (h : Below w.heap.size w w') => (h.cell (p := ⟨L, 8, none⟩) hls).trans hlen
  replace hl0 := fun w' (h : Below w.heap.size w w') => (h.cell (p := ⟨L, 0, none⟩) hls).trans hl0
  replace n0 := fun w' (h : Below w.heap.size w w') => (h.cell (p := ⟨N, 0, none⟩) hnw).trans n0
  replace n1 := fun w' (h : Below w.heap.size w w') => (h.cell (p := ⟨N, 1, none⟩) hnw).trans n1
  replace n2 := fun w' (h : Below w.heap.size w w') => (h.cell (p := ⟨N, 2, none⟩) hnw).trans n2
  replace n3 := fun w' (h : Below w.heap.size w w') => (h.cell (p := ⟨N, 3, none⟩) hnw).trans n3
  replace n4 := fun w' (h : Below w.heap.size w w') => (h.cell (p := ⟨N, 4, none⟩) hnw).trans n4
  replace n5 := fun w' (h : Below w.heap.size w w') => (h.cell (p := ⟨N, 5, none⟩) hnw).trans n5
  replace n6 := fun w' (h : Below w.heap.size w w') => (h.cell (p := ⟨N, 6, none⟩) hnw).trans n6
  replace n7 := fun w' (h : Below w.heap.size w w') => (h.cell (p := ⟨N, 7, none⟩) hnw).trans n7
  replace n8 := fun w' (h : Below w.heap.size w w') => (h.cell (p := ⟨N, 8, none⟩) hnw).trans n8
  replace n9 := fun w' (h : Below w.heap.size w w') => (h.cell (p := ⟨N, 9, none⟩) hnw).trans n9
  replace hfN := fun k w' (h : Below w.heap.size w w') => (h.frozen (p := ⟨N, k, none⟩) hnw).trans (hfN k)
  obtain ⟨q, o, rfl, hbb, d0, d1, d2, d3, d4⟩ := hat1.insn (l := P3) (k := 0) (by decide)
  have D0 : ∀ w', Below w.heap.size w w' → w'.cell? ⟨q, o, none⟩ = some (.int .u8 183) := d0
  have D1 : ∀ w', Below w.heap.size w w' → w'.cell? ⟨q, o + 1, none⟩ = some (.int .u8 0) := d1
  have D2 : ∀ w', Below w.heap.size w w' → w'.cell? ⟨q, o + 2, none⟩ = some (.int .u8 0) := d2
  have D3 : ∀ w', Below w.heap.size w w' → w'.cell? ⟨q, o + 3, none⟩ = some (.int .i16 0) := d3
  have D4 : ∀ w', Below w.heap.size w w' → w'.cell? ⟨q, o + 4, none⟩ = some (.int .i32 5) := d4
  clear d0 d1 d2 d3 d4 hk hat1 hls hnw hr hb
  have hrf := Below.refl w.heap.size w
  go_enter Tryz.func44, Tryz.ntmps44
  go_upto_region 1 with fail
  have hU : Below w.heap.size w (w.alloc (.cells #[.bool false, .bool false, .bool false, .int .u8 0, .int .u64 0, .int .u64 0, .int .u64 0, .int .u64 0, .int .i64 0, .int .i64 0] 43)) := below_boxes1 _ _
  have y0 := boxc (k := 0) (u := .bool false) (heap1_0 w (.cells #[.bool false, .bool false, .bool false, .int .u8 0, .int .u64 0, .int .u64 0, .int .u64 0, .int .u64 0, .int .i64 0, .int .i64 0] 43)) rfl
  have y1 := boxc (k := 1) (u := .bool false) (heap1_0 w (.cells #[.bool false, .bool false, .bool false, .int .u8 0, .int .u64 0, .int .u64 0, .int .u64 0, .int .u64 0, .int .i64 0, .int .i64 0] 43)) rfl
  have y2 := boxc (k := 2) (u := .bool false) (heap1_0 w (.cells #[.bool false, .bool false, .bool false, .int .u8 0, .int .u64 0, .int .u64 0, .int .u64 0, .int .u64 0, .int .i64 0, .int .i64 0] 43)) rfl
  have y3 := boxc (k := 3) (u := .int .u8 0) (heap1_0 w (.cells #[.bool false, .bool false, .bool false, .int .u8 0, .int .u64 0, .int .u64 0, .int .u64 0, .int .u64 0, .int .i64 0, .int .i64 0] 43)) rfl
  have y4 := boxc (k := 4) (u := .int .u64 0) (heap1_0 w (.cells #[.bool false, .bool false, .bool false, .int .u8 0, .int .u64 0, .int .u64 0, .int .u64 0, .int .u64 0, .int .i64 0, .int .i64 0] 43)) rfl
  have y5 := boxc (k := 5) (u := .int .u64 0) (heap1_0 w (.cells #[.bool false, .bool false, .bool false, .int .u8 0, .int .u64 0, .int .u64 0, .int .u64 0, .int .u64 0, .int .i64 0, .int .i64 0] 43)) rfl
  have y6 := boxc (k := 6) (u := .int .u64 0) (heap1_0 w (.cells #[.bool false, .bool false, .bool false, .int .u8 0, .int .u64 0, .int .u64 0, .int .u64 0, .int .u64 0, .int .i64 0, .int .i64 0] 43)) rfl
  have y7 := boxc (k := 7) (u := .int .u64 0) (heap1_0 w (.cells #[.bool false, .bool false, .bool false, .int .u8 0, .int .u64 0, .int .u64 0, .int .u64 0, .int .u64 0, .int .i64 0, .int .i64 0] 43)) rfl
  have y8 := boxc (k := 8) (u := .int .i64 0) (heap1_0 w (.cells #[.bool false, .bool false, .bool false, .int .u8 0, .int .u64 0, .int .u64 0, .int .u64 0, .int .u64 0, .int .i64 0, .int .i64 0] 43)) rfl
  have y9 := boxc (k := 9) (u := .int .i64 0) (heap1_0 w (.cells #[.bool false, .bool false, .bool false, .int .u8 0, .int .u64 0, .int .u64 0, .int .u64 0, .int .u64 0, .int .i64 0, .int .i64 0] 43)) rfl
  have ty := boxt (heap1_0 w (.cells #[.bool false, .bool false, .bool false, .int .u8 0, .int .u64 0, .int .u64 0, .int .u64 0, .int .u64 0, .int .i64 0, .int .i64 0] 43))
  have hUs : (w.alloc (.cells #[.bool false, .bool false, .bool false, .int .u8 0, .int .u64 0, .int .u64 0, .int .u64 0, .int .u64 0, .int .i64 0, .int .i64 0] 43)).heap.size = w.heap.size + 1 := by simp
  have hUr : World.rangeAt (w.alloc (.cells #[.bool false, .bool false, .bool false, .int .u8 0, .int .u64 0, .int .u64 0, .int .u64 0, .int .u64 0, .int .i64 0, .int .i64 0] 43)) w.heap.size 0 [.bool false, .bool false, .bool false, .int .u8 0, .int .u64 0, .int .u64 0, .int .u64 0, .int .u64 0, .int .i64 0, .int .i64 0] := range_of_block (heap1_0 w _)
  generalize w.alloc (.cells #[.bool false, .bool false, .bool false, .int .u8 0, .int .u64 0, .int .u64 0, .int .u64 0, .int .u64 0, .int .i64 0, .int .i64 0] 43) = U at *
  go_wp2_with fail
  refine (hrs _ hU).mono ?_
  rintro e w1 ⟨rfl, hc1⟩
  have hb1 := hU.trans (hc1.mono hU.size)
  have hu1 : Below U.heap.size U w1 := hc1
  clear hc1
  go_upto_region 2 with fail
  have hT : Below w.heap.size w (w1.alloc (.cells #[.int .u8 1, .int .u64 5, .int .u64 0, .int .u64 5, .int .u64 5, .int .i64 0, .int .i64 0] 41)) := hb1.alloc hb1.size _
  have hTu : Below U.heap.size U (w1.alloc (.cells #[.int .u8 1, .int .u64 5, .int .u64 0, .int .u64 5, .int .u64 5, .int .i64 0, .int .i64 0] 41)) := hu1.alloc hu1.size _
  have x0 := boxc (k := 0) (u := .int .u8 1) (heap1_0 w1 (.cells #[.int .u8 1, .int .u64 5, .int .u64 0, .int .u64 5, .int .u64 5, .int .i64 0, .int .i64 0] 41)) rfl _ (Below.refl _ _)
  have x1 := boxc (k := 1) (u := .int .u64 5) (heap1_0 w1 (.cells #[.int .u8 1, .int .u64 5, .int .u64 0, .int .u64 5, .int .u64 5, .int .i64 0, .int .i64 0] 41)) rfl _ (Below.refl _ _)
  have x2 := boxc (k := 2) (u := .int .u64 0) (heap1_0 w1 (.cells #[.int .u8 1, .int .u64 5, .int .u64 0, .int .u64 5, .int .u64 5, .int .i64 0, .int .i64 0] 41)) rfl _ (Below.refl _ _)
  have x3 := boxc (k := 3) (u := .int .u64 5) (heap1_0 w1 (.cells #[.int .u8 1, .int .u64 5, .int .u64 0, .int .u64 5, .int .u64 5, .int .i64 0, .int .i64 0] 41)) rfl _ (Below.refl _ _)
  have x4 := boxc (k := 4) (u := .int .u64 5) (heap1_0 w1 (.cells #[.int .u8 1, .int .u64 5, .int .u64 0, .int .u64 5, .int .u64 5, .int .i64 0, .int .i64 0] 41)) rfl _ (Below.refl _ _)
  have x5 := boxc (k := 5) (u := .int .i64 0) (heap1_0 w1 (.cells #[.int .u8 1, .int .u64 5, .int .u64 0, .int .u64 5, .int .u64 5, .int .i64 0, .int .i64 0] 41)) rfl _ (Below.refl _ _)
  have x6 := boxc (k := 6) (u := .int .i64 0) (heap1_0 w1 (.cells #[.int .u8 1, .int .u64 5, .int .u64 0, .int .u64 5, .int .u64 5, .int .i64 0, .int .i64 0] 41)) rfl _ (Below.refl _ _)
  generalize w1.alloc (.cells #[.int .u8 1, .int .u64 5, .int .u64 0, .int .u64 5, .int .u64 5, .int .i64 0, .int .i64 0] 41) = T at *
  have Y0 := y0 _ hTu
  have Y1 := y1 _ hTu
  have Y2 := y2 _ hTu
  have Y3 := y3 _ hTu
  have Y4 := y4 _ hTu
  have Y5 := y5 _ hTu
  have Y6 := y6 _ hTu
  have Y7 := y7 _ hTu
  have Y8 := y8 _ hTu
  have Y9 := y9 _ hTu
  have tY := fun k => ty k _ hTu
  clear ty y0 y1 y2 y3 y4 y5 y6 y7 y8 y9
  have hTr := range_below hUr hTu (by rw [hUs]; omega)
  clear hUr
  go_upto_region 7 with fail
  clear Y0 Y1 Y2 Y3 Y4 Y5 Y6 Y7 Y8 Y9 tY x0 x1 x2 x3 x4 x5 x6
  have hX : Below w.heap.size w (((((((((T).setCell ⟨w.heap.size, 3, none⟩ (.int .u8 1)).setCell ⟨w.heap.size, 4, none⟩ (.int .u64 5)).setCell ⟨w.heap.size, 5, none⟩ (.int .u64 0)).setCell ⟨w.heap.size, 6, none⟩ (.int .u64 5)).setCell ⟨w.heap.size, 7, none⟩ (.int .u64 5)).setCell ⟨w.heap.size, 8, none⟩ (.int .i64 0)).setCell ⟨w.heap.size, 9, none⟩ (.int .i64 0)).setCell ⟨w.heap.size, 0, none⟩ (.bool true)) := below_setCells w.heap.size (Nat.le_refl _) [.bool true] 0 (below_setCells w.heap.size (Nat.le_refl _) [.int .u8 1, .int .u64 5, .int .u64 0, .int .u64 5, .int .u64 5, .int .i64 0, .int .i64 0] 3 hT)
  have hXr : World.rangeAt (((((((((T).setCell ⟨w.heap.size, 3, none⟩ (.int .u8 1)).setCell ⟨w.heap.size, 4, none⟩ (.int .u64 5)).setCell ⟨w.heap.size, 5, none⟩ (.int .u64 0)).setCell ⟨w.heap.size, 6, none⟩ (.int .u64 5)).setCell ⟨w.heap.size, 7, none⟩ (.int .u64 5)).setCell ⟨w.heap.size, 8, none⟩ (.int .i64 0)).setCell ⟨w.heap.size, 9, none⟩ (.int .i64 0)).setCell ⟨w.heap.size, 0, none⟩ (.bool true)) w.heap.size 0 [.bool true, .bool false, .bool false, .int .u8 1, .int .u64 5, .int .u64 0, .int .u64 5, .int .u64 5, .int .i64 0, .int .i64 0] := range_put (A := []) (B := [.bool false]) (C := [.bool false, .bool false, .int .u8 1, .int .u64 5, .int .u64 0, .int .u64 5, .int .u64 5, .int .i64 0, .int .i64 0]) (vs := [.bool true]) (range_put (A := [.bool false, .bool false, .bool false]) (B := [.int .u8 0, .int .u64 0, .int .u64 0, .int .u64 0, .int .u64 0, .int .i64 0, .int .i64 0]) (C := []) (vs := [.int .u8 1, .int .u64 5, .int .u64 0, .int .u64 5, .int .u64 5, .int .i64 0, .int .i64 0]) hTr rfl) rfl
  have hXs : w.heap.size < (((((((((T).setCell ⟨w.heap.size, 3, none⟩ (.int .u8 1)).setCell ⟨w.heap.size, 4, none⟩ (.int .u64 5)).setCell ⟨w.heap.size, 5, none⟩ (.int .u64 0)).setCell ⟨w.heap.size, 6, none⟩ (.int .u64 5)).setCell ⟨w.heap.size, 7, none⟩ (.int .u64 5)).setCell ⟨w.heap.size, 8, none⟩ (.int .i64 0)).setCell ⟨w.heap.size, 9, none⟩ (.int .i64 0)).setCell ⟨w.heap.size, 0, none⟩ (.bool true)).heap.size := Nat.lt_of_lt_of_le (by have := hTu.size; omega) (below_setCells (B := 0) (a := T) w.heap.size (Nat.zero_le _) [.bool true] 0 (below_setCells w.heap.size (Nat.zero_le _) [.int .u8 1, .int .u64 5, .int .u64 0, .int .u64 5, .int .u64 5, .int .i64 0, .int .i64 0] 3 (Below.refl 0 T))).size
  generalize ((((((((T).setCell ⟨w.heap.size, 3, none⟩ (.int .u8 1)).setCell ⟨w.heap.size, 4, none⟩ (.int .u64 5)).setCell ⟨w.heap.size, 5, none⟩ (.int .u64 0)).setCell ⟨w.heap.size, 6, none⟩ (.int .u64 5)).setCell ⟨w.heap.size, 7, none⟩ (.int .u64 5)).setCell ⟨w.heap.size, 8, none⟩ (.int .i64 0)).setCell ⟨w.heap.size, 9, none⟩ (.int .i64 0)).setCell ⟨w.heap.size, 0, none⟩ (.bool true) = X at *
  clear hTr hTu hT hu1 hb1 hU hUs
  have v0 : ∀ w', Below X.heap.size X w' → w'.cell? ⟨w.heap.size, 0, none⟩ = some (.bool true) := fun w' h => by have := range_below hXr h hXs 0 _ rfl; rwa [Nat.zero_add] at this
  have v1 : ∀ w', Below X.heap.size X w' → w'.cell? ⟨w.heap.size, 1, none⟩ = some (.bool false) := fun w' h => by have := range_below hXr h hXs 1 _ rfl; rwa [Nat.zero_add] at this
  have v2 : ∀ w', Below X.heap.size X w' → w'.cell? ⟨w.heap.size, 2, none⟩ = some (.bool false) := fun w' h => by have := range_below hXr h hXs 2 _ rfl; rwa [Nat.zero_add] at this
  have v3 : ∀ w', Below X.heap.size X w' → w'.cell? ⟨w.heap.size, 3, none⟩ = some (.int .u8 1) := fun w' h => by have := range_below hXr h hXs 3 _ rfl; rwa [Nat.zero_add] at this
  have v4 : ∀ w', Below X.heap.size X w' → w'.cell? ⟨w.heap.size, 4, none⟩ = some (.int .u64 5) := fun w' h => by have := range_below hXr h hXs 4 _ rfl; rwa [Nat.zero_add] at this
  have v5 : ∀ w', Below X.heap.size X w' → w'.cell? ⟨w.heap.size, 5, none⟩ = some (.int .u64 0) := fun w' h => by have := range_below hXr h hXs 5 _ rfl; rwa [Nat.zero_add] at this
  have v6 : ∀ w', Below X.heap.size X w' → w'.cell? ⟨w.heap.size, 6, none⟩ = some (.int .u64 5) := fun w' h => by have := range_below hXr h hXs 6 _ rfl; rwa [Nat.zero_add] at this
  have v7 : ∀ w', Below X.heap.size X w' → w'.cell? ⟨w.heap.size, 7, none⟩ = some (.int .u64 5) := fun w' h => by have := range_below hXr h hXs 7 _ rfl; rwa [Nat.zero_add] at this
  have v8 : ∀ w', Below X.heap.size X w' → w'.cell? ⟨w.heap.size, 8, none⟩ = some (.int .i64 0) := fun w' h => by have := range_below hXr h hXs 8 _ rfl; rwa [Nat.zero_add] at this
  have v9 : ∀ w', Below X.heap.size X w' → w'.cell? ⟨w.heap.size, 9, none⟩ = some (.int .i64 0) := fun w' h => by have := range_below hXr h hXs 9 _ rfl; rwa [Nat.zero_add] at this
  clear hXr
  go_wp2_with fail
  refine (hse _).mono ?_
  rintro e w3 ⟨rfl, hc3⟩
  have hb3 := hX.trans (hc3.mono hX.size)
  have hx3 : Below X.heap.size X w3 := hc3
  clear hc3
  go_upto_region 8 with fail
  have hR : Below w.heap.size w (w3.alloc (.cells #[.int .u8 1, .int .u8 176, .bool true, .bool false, .bool false, .int .i64 0] 61)) := hb3.alloc hb3.size _
  have hRx : Below X.heap.size X (w3.alloc (.cells #[.int .u8 1, .int .u8 176, .bool true, .bool false, .bool false, .int .i64 0] 61)) := hx3.alloc hx3.size _
  have r0 := boxc (k := 0) (u := .int .u8 1) (heap1_0 w3 (.cells #[.int .u8 1, .int .u8 176, .bool true, .bool false, .bool false, .int .i64 0] 61)) rfl
  generalize w3.alloc (.cells #[.int .u8 1, .int .u8 176, .bool true, .bool false, .bool false, .int .i64 0] 61) = R at *
  go_wp2_with fail
  refine (htg _ hR).mono ?_
  rintro e w4 ⟨rfl, hc4⟩
  have hb4 := hR.trans (hc4.mono hR.size)
  have hx4 := hRx.trans (hc4.mono hRx.size)
  have r0_ := r0 _ hc4
  clear hc4 r0
  go_wp2_with fail
  go_loopw [13] (fun k wr => k = .int .i64 0 ∧ wr = w4) (fun k _ => 0)
  case atStart => exact ⟨rfl, rfl⟩
  case round =>
    obtain ⟨rfl, rfl⟩ := hrel
    go_upto_region 14 with fail
    have V0 := v0 _ hx4
    have V1 := v1 _ hx4
    have V2 := v2 _ hx4
    have V3 := v3 _ hx4
    have V4 := v4 _ hx4
    have V5 := v5 _ hx4
    have V6 := v6 _ hx4
    have V7 := v7 _ hx4
    have V8 := v8 _ hx4
    have V9 := v9 _ hx4
    go_region
    have hfin : LookOk (((((((((((wr).setCell ⟨N, 0, none⟩ (.bool true)).setCell ⟨N, 1, none⟩ (.bool false)).setCell ⟨N, 2, none⟩ (.bool false)).setCell ⟨N, 3, none⟩ (.int .u8 1)).setCell ⟨N, 4, none⟩ (.int .u64 5)).setCell ⟨N, 5, none⟩ (.int .u64 0)).setCell ⟨N, 6, none⟩ (.int .u64 5)).setCell ⟨N, 7, none⟩ (.int .u64 5)).setCell ⟨N, 8, none⟩ (.int .i64 0)).setCell ⟨N, 9, none⟩ (.int .i64 0)) (some ⟨q, o, none⟩) c Jb Jo cj kp L N steps [.bool true, .bool false, .bool false, .int .u8 1, .int .u64 5, .int .u64 0, .int .u64 5, .int .u64 5, .int .i64 0, .int .i64 0, .bool false, .bool false, .bool false, .int .u8 0, .int .u64 0, .int .u64 0, .int .u64 0, .int .u64 0, .int .i64 0, .int .i64 0, .bool false, .bool false, .bool false, .int .u8 0, .int .u64 0, .int .u64 0, .int .u64 0, .int .u64 0, .int .i64 0, .int .i64 0] ∧ Below L w (((((((((((wr).setCell ⟨N, 0, none⟩ (.bool true)).setCell ⟨N, 1, none⟩ (.bool false)).setCell ⟨N, 2, none⟩ (.bool false)).setCell ⟨N, 3, none⟩ (.int .u8 1)).setCell ⟨N, 4, none⟩ (.int .u64 5)).setCell ⟨N, 5, none⟩ (.int .u64 0)).setCell ⟨N, 6, none⟩ (.int .u64 5)).setCell ⟨N, 7, none⟩ (.int .u64 5)).setCell ⟨N, 8, none⟩ (.int .i64 0)).setCell ⟨N, 9, none⟩ (.int .i64 0)) := (HLK.out).put (A := []) (B := [.bool false, .bool false, .bool false, .int .u8 0, .int .u64 0, .int .u64 0, .int .u64 0, .int .u64 0, .int .i64 0, .int .i64 0]) (C := [.bool false, .bool false, .bool false, .int .u8 0, .int .u64 0, .int .u64 0, .int .u64 0, .int .u64 0, .int .i64 0, .int .i64 0, .bool false, .bool false, .bool false, .int .u8 0, .int .u64 0, .int .u64 0, .int .u64 0, .int .u64 0, .int .i64 0, .int .i64 0]) (Y := wr) hb4 [.bool true, .bool false, .bool false, .int .u8 1, .int .u64 5, .int .u64 0, .int .u64 5, .int .u64 5, .int .i64 0, .int .i64 0] rfl
    have hfin2 : LookOk (World.drew (((((((((((wr).setCell ⟨N, 0, none⟩ (.bool true)).setCell ⟨N, 1, none⟩ (.bool false)).setCell ⟨N, 2, none⟩ (.bool false)).setCell ⟨N, 3, none⟩ (.int .u8 1)).setCell ⟨N, 4, none⟩ (.int .u64 5)).setCell ⟨N, 5, none⟩ (.int .u64 0)).setCell ⟨N, 6, none⟩ (.int .u64 5)).setCell ⟨N, 7, none⟩ (.int .u64 5)).setCell ⟨N, 8, none⟩ (.int .i64 0)).setCell ⟨N, 9, none⟩ (.int .i64 0))) (some ⟨q, o, none⟩) c Jb Jo cj kp L N steps [.bool true, .bool false, .bool false, .int .u8 1, .int .u64 5, .int .u64 0, .int .u64 5, .int .u64 5, .int .i64 0, .int .i64 0, .bool false, .bool false, .bool false, .int .u8 0, .int .u64 0, .int .u64 0, .int .u64 0, .int .u64 0, .int .i64 0, .int .i64 0, .bool false, .bool false, .bool false, .int .u8 0, .int .u64 0, .int .u64 0, .int .u64 0, .int .u64 0, .int .i64 0, .int .i64 0] ∧ Below L w (World.drew (((((((((((wr).setCell ⟨N, 0, none⟩ (.bool true)).setCell ⟨N, 1, none⟩ (.bool false)).setCell ⟨N, 2, none⟩ (.bool false)).setCell ⟨N, 3, none⟩ (.int .u8 1)).setCell ⟨N, 4, none⟩ (.int .u64 5)).setCell ⟨N, 5, none⟩ (.int .u64 0)).setCell ⟨N, 6, none⟩ (.int .u64 5)).setCell ⟨N, 7, none⟩ (.int .u64 5)).setCell ⟨N, 8, none⟩ (.int .i64 0)).setCell ⟨N, 9, none⟩ (.int .i64 0))) := ⟨hfin.1.below (Below.drew (Below.refl _ _)), hfin.2.drew⟩
    have hoth0 : ∀ k, k < w.heap.size → k ≠ N → World.heap (((((((((((wr).setCell ⟨N, 0, none⟩ (.bool true)).setCell ⟨N, 1, none⟩ (.bool false)).setCell ⟨N, 2, none⟩ (.bool false)).setCell ⟨N, 3, none⟩ (.int .u8 1)).setCell ⟨N, 4, none⟩ (.int .u64 5)).setCell ⟨N, 5, none⟩ (.int .u64 0)).setCell ⟨N, 6, none⟩ (.int .u64 5)).setCell ⟨N, 7, none⟩ (.int .u64 5)).setCell ⟨N, 8, none⟩ (.int .i64 0)).setCell ⟨N, 9, none⟩ (.int .i64 0)) = World.heap (wr.setCells N 0 [.bool true, .bool false, .bool false, .int .u8 1, .int .u64 5, .int .u64 0, .int .u64 5, .int .u64 5, .int .i64 0, .int .i64 0]) := fun _ _ _ => rfl
    have hoth : ∀ k, k < w.heap.size → k ≠ N → (World.drew (((((((((((wr).setCell ⟨N, 0, none⟩ (.bool true)).setCell ⟨N, 1, none⟩ (.bool false)).setCell ⟨N, 2, none⟩ (.bool false)).setCell ⟨N, 3, none⟩ (.int .u8 1)).setCell ⟨N, 4, none⟩ (.int .u64 5)).setCell ⟨N, 5, none⟩ (.int .u64 0)).setCell ⟨N, 6, none⟩ (.int .u64 5)).setCell ⟨N, 7, none⟩ (.int .u64 5)).setCell ⟨N, 8, none⟩ (.int .i64 0)).setCell ⟨N, 9, none⟩ (.int .i64 0))).heap[k]? = w.heap[k]? := fun k hk hne => by rw [drew_heap, hoth0 k hk hne, heap_put_other wr N 0 [.bool true, .bool false, .bool false, .int .u8 1, .int .u64 5, .int .u64 0, .int .u64 5, .int .u64 5, .int .i64 0, .int .i64 0] (Nat.lt_of_lt_of_le hk hb4.size) hne]; exact hb4.block k hk
    clear hfin
    generalize World.drew (((((((((((wr).setCell ⟨N, 0, none⟩ (.bool true)).setCell ⟨N, 1, none⟩ (.bool false)).setCell ⟨N, 2, none⟩ (.bool false)).setCell ⟨N, 3, none⟩ (.int .u8 1)).setCell ⟨N, 4, none⟩ (.int .u64 5)).setCell ⟨N, 5, none⟩ (.int .u64 0)).setCell ⟨N, 6, none⟩ (.int .u64 5)).setCell ⟨N, 7, none⟩ (.int .u64 5)).setCell ⟨N, 8, none⟩ (.int .i64 0)).setCell ⟨N, 9, none⟩ (.int .i64 0)) = V at *
    exact ⟨rfl, .tuple #[], by simp [results, Tryz.results44], rfl, hfin2.1, hfin2.2, hoth⟩

set_option maxRecDepth 100000 in
set_option maxHeartbeats 4000000 in
theorem rnote15_1 (Ad : Option Addr) (c Jb Jo cj : Nat) (kp : Value) (L N : Nat) (steps : Int) (w : World) (hk : LookOk w Ad c Jb Jo cj kp L N steps [.bool true, .bool false, .bool false, .int .u8 1, .int .u64 5, .int .u64 0, .int .u64 5, .int .u64 5, .int .i64 0, .int .i64 0, .bool false, .bool false, .bool false, .int .u8 0, .int .u64 0, .int .u64 0, .int .u64 0, .int .u64 0, .int .i64 0, .int .i64 0, .bool false, .bool false, .bool false, .int .u8 0, .int .u64 0, .int .u64 0, .int .u64 0, .int .u64 0, .int .i64 0, .int .i64 0]) (b : Nat) (hb : b < w.heap.size) (hr : w.rangeAt b 0 (.int .i64 2 :: SVl [.int .u8 1, .int .u64 7, .int .u64 0, .int .u64 7, .int .u64 7, .int .i64 0, .int .i64 0])) :
    Calls Tryz.prog 44 #[.pointer (some ⟨L, 0, none⟩), .int .i64 1, .slice (some ⟨b, 0, none⟩) 1 1] w fun e w' => e = .returned (.tuple #[]) ∧ LookOk w' Ad c Jb Jo cj kp L N steps [.bool true, .bool false, .bool false, .int .u8 1, .int .u64 5, .int .u64 0, .int .u64 5, .int .u64 5, .int .i64 0, .int .i64 0, .bool true, .bool false, .bool false, .int .u8 1, .int .u64 7, .int .u64 0, .int .u64 7, .int .u64 7, .int .i64 0, .int .i64 0, .bool false, .bool false, .bool false, .int .u8 0, .int .u64 0, .int .u64 0, .int .u64 0, .int .u64 0, .int .i64 0, .int .i64 0] ∧ Below L w w' ∧ ∀ k, k < w.heap.size → k ≠ N → w'.heap[k]? = w.heap[k]? := by
  have HLK := Lib.hid hk
  have hrs := fun (w1 : World) (hb1 : Below w.heap.size w w1) => rresult14_1 Ad c b w1 ((hk.hat.below (hb1.mono (Nat.le_of_lt hk.ls))).more (Nat.le_trans (Nat.le_of_lt hk.ls) hb1.size)) (Nat.lt_of_lt_of_le hb hb1.size) (fun k u hu => by rw [hb1.cell (p := ⟨b, 0 + k, none⟩) hb]; exact hr k u hu)
  have htg := fun (w1 : World) (hb1 : Below w.heap.size w w1) => rtarget_P3_1 Ad c w1 ((hk.hat.below (hb1.mono (Nat.le_of_lt hk.ls))).more (Nat.le_trans (Nat.le_of_lt hk.ls) hb1.size))
  have hse := fun (w1 : World) => rsem_P3_1 w1
  have hlen := hk.look 8 _ rfl
  have hl0 := hk.look 0 _ rfl
  have hfN := hk.ntsF
  simp only [Nat.zero_add] at hlen hl0
  have n0 := hk.nts 10 (.bool false) rfl
  have n1 := hk.nts 11 (.bool false) rfl
  have n2 := hk.nts 12 (.bool false) rfl
  have n3 := hk.nts 13 (.int .u8 0) rfl
  have n4 := hk.nts 14 (.int .u64 0) rfl
  have n5 := hk.nts 15 (.int .u64 0) rfl
  have n6 := hk.nts 16 (.int .u64 0) rfl
  have n7 := hk.nts 17 (.int .u64 0) rfl
  have n8 := hk.nts 18 (.int .i64 0) rfl
  have n9 := hk.nts 19 (.int .i64 0) rfl
  simp only [Nat.zero_add] at n0 n1 n2 n3 n4 n5 n6 n7 n8 n9
  have hat1 := hk.hat.more (Nat.le_of_lt hk.ls)
  have hls := hk.ls
  have hnw := hk.nw
  replace hlen := fun w' (h : Below w.heap.size w w') => (h.cell (p := ⟨L, 8, none⟩) hls).trans hlen
  replace hl0 := fun w' (h : Below w.heap.size w w') => (h.cell (p := ⟨L, 0, none⟩) hls).trans hl0
  replace n0 := fun w' (h : Below w.heap.size w w') => (h.cell (p := ⟨N, 10, none⟩) hnw).trans n0
  replace n1 := fun w' (h : Below w.heap.size w w') => (h.cell (p := ⟨N, 11, none⟩) hnw).trans n1
  replace n2 := fun w' (h : Below w.heap.size w w') => (h.cell (p := ⟨N, 12, none⟩) hnw).trans n2
  replace n3 := fun w' (h : Below w.heap.size w w') => (h.cell (p := ⟨N, 13, none⟩) hnw).trans n3
  replace n4 := fun w' (h : Below w.heap.size w w') => (h.cell (p := ⟨N, 14, none⟩) hnw).trans n4
  replace n5 := fun w' (h : Below w.heap.size w w') => (h.cell (p := ⟨N, 15, none⟩) hnw).trans n5
  replace n6 := fun w' (h : Below w.heap.size w w') => (h.cell (p := ⟨N, 16, none⟩) hnw).trans n6
  replace n7 := fun w' (h : Below w.heap.size w w') => (h.cell (p := ⟨N, 17, none⟩) hnw).trans n7
  replace n8 := fun w' (h : Below w.heap.size w w') => (h.cell (p := ⟨N, 18, none⟩) hnw).trans n8
  replace n9 := fun w' (h : Below w.heap.size w w') => (h.cell (p := ⟨N, 19, none⟩) hnw).trans n9
  replace hfN := fun k w' (h : Below w.heap.size w w') => (h.frozen (p := ⟨N, k, none⟩) hnw).trans (hfN k)
  obtain ⟨q, o, rfl, hbb, d0, d1, d2, d3, d4⟩ := hat1.insn (l := P3) (k := 1) (by decide)
  have D0 : ∀ w', Below w.heap.size w w' → w'.cell? ⟨q, o + 5, none⟩ = some (.int .u8 7) := d0
  have D1 : ∀ w', Below w.heap.size w w' → w'.cell? ⟨q, o + 5 + 1, none⟩ = some (.int .u8 0) := d1
  have D2 : ∀ w', Below w.heap.size w w' → w'.cell? ⟨q, o + 5 + 2, none⟩ = some (.int .u8 0) := d2
  have D3 : ∀ w', Below w.heap.size w w' → w'.cell? ⟨q, o + 5 + 3, none⟩ = some (.int .i16 0) := d3
  have D4 : ∀ w', Below w.heap.size w w' → w'.cell? ⟨q, o + 5 + 4, none⟩ = some (.int .i32 2) := d4
  clear d0 d1 d2 d3 d4 hk hat1 hls hnw hr hb
  have hrf := Below.refl w.heap.size w
  go_enter Tryz.func44, Tryz.ntmps44
  go_upto_region 1 with fail
  have hU : Below w.heap.size w (w.alloc (.cells #[.bool false, .bool false, .bool false, .int .u8 0, .int .u64 0, .int .u64 0, .int .u64 0, .int .u64 0, .int .i64 0, .int .i64 0] 43)) := below_boxes1 _ _
  have y0 := boxc (k := 0) (u := .bool false) (heap1_0 w (.cells #[.bool false, .bool false, .bool false, .int .u8 0, .int .u64 0, .int .u64 0, .int .u64 0, .int .u64 0, .int .i64 0, .int .i64 0] 43)) rfl
  have y1 := boxc (k := 1) (u := .bool false) (heap1_0 w (.cells #[.bool false, .bool false, .bool false, .int .u8 0, .int .u64 0, .int .u64 0, .int .u64 0, .int .u64 0, .int .i64 0, .int .i64 0] 43)) rfl
  have y2 := boxc (k := 2) (u := .bool false) (heap1_0 w (.cells #[.bool false, .bool false, .bool false, .int .u8 0, .int .u64 0, .int .u64 0, .int .u64 0, .int .u64 0, .int .i64 0, .int .i64 0] 43)) rfl
  have y3 := boxc (k := 3) (u := .int .u8 0) (heap1_0 w (.cells #[.bool false, .bool false, .bool false, .int .u8 0, .int .u64 0, .int .u64 0, .int .u64 0, .int .u64 0, .int .i64 0, .int .i64 0] 43)) rfl
  have y4 := boxc (k := 4) (u := .int .u64 0) (heap1_0 w (.cells #[.bool false, .bool false, .bool false, .int .u8 0, .int .u64 0, .int .u64 0, .int .u64 0, .int .u64 0, .int .i64 0, .int .i64 0] 43)) rfl
  have y5 := boxc (k := 5) (u := .int .u64 0) (heap1_0 w (.cells #[.bool false, .bool false, .bool false, .int .u8 0, .int .u64 0, .int .u64 0, .int .u64 0, .int .u64 0, .int .i64 0, .int .i64 0] 43)) rfl
  have y6 := boxc (k := 6) (u := .int .u64 0) (heap1_0 w (.cells #[.bool false, .bool false, .bool false, .int .u8 0, .int .u64 0, .int .u64 0, .int .u64 0, .int .u64 0, .int .i64 0, .int .i64 0] 43)) rfl
  have y7 := boxc (k := 7) (u := .int .u64 0) (heap1_0 w (.cells #[.bool false, .bool false, .bool false, .int .u8 0, .int .u64 0, .int .u64 0, .int .u64 0, .int .u64 0, .int .i64 0, .int .i64 0] 43)) rfl
  have y8 := boxc (k := 8) (u := .int .i64 0) (heap1_0 w (.cells #[.bool false, .bool false, .bool false, .int .u8 0, .int .u64 0, .int .u64 0, .int .u64 0, .int .u64 0, .int .i64 0, .int .i64 0] 43)) rfl
  have y9 := boxc (k := 9) (u := .int .i64 0) (heap1_0 w (.cells #[.bool false, .bool false, .bool false, .int .u8 0, .int .u64 0, .int .u64 0, .int .u64 0, .int .u64 0, .int .i64 0, .int .i64 0] 43)) rfl
  have ty := boxt (heap1_0 w (.cells #[.bool false, .bool false, .bool false, .int .u8 0, .int .u64 0, .int .u64 0, .int .u64 0, .int .u64 0, .int .i64 0, .int .i64 0] 43))
  have hUs : (w.alloc (.cells #[.bool false, .bool false, .bool false, .int .u8 0, .int .u64 0, .int .u64 0, .int .u64 0, .int .u64 0, .int .i64 0, .int .i64 0] 43)).heap.size = w.heap.size + 1 := by simp
  have hUr : World.rangeAt (w.alloc (.cells #[.bool false, .bool false, .bool false, .int .u8 0, .int .u64 0, .int .u64 0, .int .u64 0, .int .u64 0, .int .i64 0, .int .i64 0] 43)) w.heap.size 0 [.bool false, .bool false, .bool false, .int .u8 0, .int .u64 0, .int .u64 0, .int .u64 0, .int .u64 0, .int .i64 0, .int .i64 0] := range_of_block (heap1_0 w _)
  generalize w.alloc (.cells #[.bool false, .bool false, .bool false, .int .u8 0, .int .u64 0, .int .u64 0, .int .u64 0, .int .u64 0, .int .i64 0, .int .i64 0] 43) = U at *
  go_wp2_with fail
  refine (hrs _ hU).mono ?_
  rintro e w1 ⟨rfl, hc1⟩
  have hb1 := hU.trans (hc1.mono hU.size)
  have hu1 : Below U.heap.size U w1 := hc1
  clear hc1
  go_upto_region 2 with fail
  have hT : Below w.heap.size w (w1.alloc (.cells #[.int .u8 1, .int .u64 7, .int .u64 0, .int .u64 7, .int .u64 7, .int .i64 0, .int .i64 0] 41)) := hb1.alloc hb1.size _
  have hTu : Below U.heap.size U (w1.alloc (.cells #[.int .u8 1, .int .u64 7, .int .u64 0, .int .u64 7, .int .u64 7, .int .i64 0, .int .i64 0] 41)) := hu1.alloc hu1.size _
  have x0 := boxc (k := 0) (u := .int .u8 1) (heap1_0 w1 (.cells #[.int .u8 1, .int .u64 7, .int .u64 0, .int .u64 7, .int .u64 7, .int .i64 0, .int .i64 0] 41)) rfl _ (Below.refl _ _)
  have x1 := boxc (k := 1) (u := .int .u64 7) (heap1_0 w1 (.cells #[.int .u8 1, .int .u64 7, .int .u64 0, .int .u64 7, .int .u64 7, .int .i64 0, .int .i64 0] 41)) rfl _ (Below.refl _ _)
  have x2 := boxc (k := 2) (u := .int .u64 0) (heap1_0 w1 (.cells #[.int .u8 1, .int .u64 7, .int .u64 0, .int .u64 7, .int .u64 7, .int .i64 0, .int .i64 0] 41)) rfl _ (Below.refl _ _)
  have x3 := boxc (k := 3) (u := .int .u64 7) (heap1_0 w1 (.cells #[.int .u8 1, .int .u64 7, .int .u64 0, .int .u64 7, .int .u64 7, .int .i64 0, .int .i64 0] 41)) rfl _ (Below.refl _ _)
  have x4 := boxc (k := 4) (u := .int .u64 7) (heap1_0 w1 (.cells #[.int .u8 1, .int .u64 7, .int .u64 0, .int .u64 7, .int .u64 7, .int .i64 0, .int .i64 0] 41)) rfl _ (Below.refl _ _)
  have x5 := boxc (k := 5) (u := .int .i64 0) (heap1_0 w1 (.cells #[.int .u8 1, .int .u64 7, .int .u64 0, .int .u64 7, .int .u64 7, .int .i64 0, .int .i64 0] 41)) rfl _ (Below.refl _ _)
  have x6 := boxc (k := 6) (u := .int .i64 0) (heap1_0 w1 (.cells #[.int .u8 1, .int .u64 7, .int .u64 0, .int .u64 7, .int .u64 7, .int .i64 0, .int .i64 0] 41)) rfl _ (Below.refl _ _)
  generalize w1.alloc (.cells #[.int .u8 1, .int .u64 7, .int .u64 0, .int .u64 7, .int .u64 7, .int .i64 0, .int .i64 0] 41) = T at *
  have Y0 := y0 _ hTu
  have Y1 := y1 _ hTu
  have Y2 := y2 _ hTu
  have Y3 := y3 _ hTu
  have Y4 := y4 _ hTu
  have Y5 := y5 _ hTu
  have Y6 := y6 _ hTu
  have Y7 := y7 _ hTu
  have Y8 := y8 _ hTu
  have Y9 := y9 _ hTu
  have tY := fun k => ty k _ hTu
  clear ty y0 y1 y2 y3 y4 y5 y6 y7 y8 y9
  have hTr := range_below hUr hTu (by rw [hUs]; omega)
  clear hUr
  go_upto_region 7 with fail
  clear Y0 Y1 Y2 Y3 Y4 Y5 Y6 Y7 Y8 Y9 tY x0 x1 x2 x3 x4 x5 x6
  have hX : Below w.heap.size w (((((((((T).setCell ⟨w.heap.size, 3, none⟩ (.int .u8 1)).setCell ⟨w.heap.size, 4, none⟩ (.int .u64 7)).setCell ⟨w.heap.size, 5, none⟩ (.int .u64 0)).setCell ⟨w.heap.size, 6, none⟩ (.int .u64 7)).setCell ⟨w.heap.size, 7, none⟩ (.int .u64 7)).setCell ⟨w.heap.size, 8, none⟩ (.int .i64 0)).setCell ⟨w.heap.size, 9, none⟩ (.int .i64 0)).setCell ⟨w.heap.size, 0, none⟩ (.bool true)) := below_setCells w.heap.size (Nat.le_refl _) [.bool true] 0 (below_setCells w.heap.size (Nat.le_refl _) [.int .u8 1, .int .u64 7, .int .u64 0, .int .u64 7, .int .u64 7, .int .i64 0, .int .i64 0] 3 hT)
  have hXr : World.rangeAt (((((((((T).setCell ⟨w.heap.size, 3, none⟩ (.int .u8 1)).setCell ⟨w.heap.size, 4, none⟩ (.int .u64 7)).setCell ⟨w.heap.size, 5, none⟩ (.int .u64 0)).setCell ⟨w.heap.size, 6, none⟩ (.int .u64 7)).setCell ⟨w.heap.size, 7, none⟩ (.int .u64 7)).setCell ⟨w.heap.size, 8, none⟩ (.int .i64 0)).setCell ⟨w.heap.size, 9, none⟩ (.int .i64 0)).setCell ⟨w.heap.size, 0, none⟩ (.bool true)) w.heap.size 0 [.bool true, .bool false, .bool false, .int .u8 1, .int .u64 7, .int .u64 0, .int .u64 7, .int .u64 7, .int .i64 0, .int .i64 0] := range_put (A := []) (B := [.bool false]) (C := [.bool false, .bool false, .int .u8 1, .int .u64 7, .int .u64 0, .int .u64 7, .int .u64 7, .int .i64 0, .int .i64 0]) (vs := [.bool true]) (range_put (A := [.bool false, .bool false, .bool false]) (B := [.int .u8 0, .int .u64 0, .int .u64 0, .int .u64 0, .int .u64 0, .int .i64 0, .int .i64 0]) (C := []) (vs := [.int .u8 1, .int .u64 7, .int .u64 0, .int .u64 7, .int .u64 7, .int .i64 0, .int .i64 0]) hTr rfl) rfl
  have hXs : w.heap.size < (((((((((T).setCell ⟨w.heap.size, 3, none⟩ (.int .u8 1)).setCell ⟨w.heap.size, 4, none⟩ (.int .u64 7)).setCell ⟨w.heap.size, 5, none⟩ (.int .u64 0)).setCell ⟨w.heap.size, 6, none⟩ (.int .u64 7)).setCell ⟨w.heap.size, 7, none⟩ (.int .u64 7)).setCell ⟨w.heap.size, 8, none⟩ (.int .i64 0)).setCell ⟨w.heap.size, 9, none⟩ (.int .i64 0)).setCell ⟨w.heap.size, 0, none⟩ (.bool true)).heap.size := Nat.lt_of_lt_of_le (by have := hTu.size; omega) (below_setCells (B := 0) (a := T) w.heap.size (Nat.zero_le _) [.bool true] 0 (below_setCells w.heap.size (Nat.zero_le _) [.int .u8 1, .int .u64 7, .int .u64 0, .int .u64 7, .int .u64 7, .int .i64 0, .int .i64 0] 3 (Below.refl 0 T))).size
  generalize ((((((((T).setCell ⟨w.heap.size, 3, none⟩ (.int .u8 1)).setCell ⟨w.heap.size, 4, none⟩ (.int .u64 7)).setCell ⟨w.heap.size, 5, none⟩ (.int .u64 0)).setCell ⟨w.heap.size, 6, none⟩ (.int .u64 7)).setCell ⟨w.heap.size, 7, none⟩ (.int .u64 7)).setCell ⟨w.heap.size, 8, none⟩ (.int .i64 0)).setCell ⟨w.heap.size, 9, none⟩ (.int .i64 0)).setCell ⟨w.heap.size, 0, none⟩ (.bool true) = X at *
  clear hTr hTu hT hu1 hb1 hU hUs
  have v0 : ∀ w', Below X.heap.size X w' → w'.cell? ⟨w.heap.size, 0, none⟩ = some (.bool true) := fun w' h => by have := range_below hXr h hXs 0 _ rfl; rwa [Nat.zero_add] at this
  have v1 : ∀ w', Below X.heap.size X w' → w'.cell? ⟨w.heap.size, 1, none⟩ = some (.bool false) := fun w' h => by have := range_below hXr h hXs 1 _ rfl; rwa [Nat.zero_add] at this
  have v2 : ∀ w', Below X.heap.size X w' → w'.cell? ⟨w.heap.size, 2, none⟩ = some (.bool false) := fun w' h => by have := range_below hXr h hXs 2 _ rfl; rwa [Nat.zero_add] at this
  have v3 : ∀ w', Below X.heap.size X w' → w'.cell? ⟨w.heap.size, 3, none⟩ = some (.int .u8 1) := fun w' h => by have := range_below hXr h hXs 3 _ rfl; rwa [Nat.zero_add] at this
  have v4 : ∀ w', Below X.heap.size X w' → w'.cell? ⟨w.heap.size, 4, none⟩ = some (.int .u64 7) := fun w' h => by have := range_below hXr h hXs 4 _ rfl; rwa [Nat.zero_add] at this
  have v5 : ∀ w', Below X.heap.size X w' → w'.cell? ⟨w.heap.size, 5, none⟩ = some (.int .u64 0) := fun w' h => by have := range_below hXr h hXs 5 _ rfl; rwa [Nat.zero_add] at this
  have v6 : ∀ w', Below X.heap.size X w' → w'.cell? ⟨w.heap.size, 6, none⟩ = some (.int .u64 7) := fun w' h => by have := range_below hXr h hXs 6 _ rfl; rwa [Nat.zero_add] at this
  have v7 : ∀ w', Below X.heap.size X w' → w'.cell? ⟨w.heap.size, 7, none⟩ = some (.int .u64 7) := fun w' h => by have := range_below hXr h hXs 7 _ rfl; rwa [Nat.zero_add] at this
  have v8 : ∀ w', Below X.heap.size X w' → w'.cell? ⟨w.heap.size, 8, none⟩ = some (.int .i64 0) := fun w' h => by have := range_below hXr h hXs 8 _ rfl; rwa [Nat.zero_add] at this
  have v9 : ∀ w', Below X.heap.size X w' → w'.cell? ⟨w.heap.size, 9, none⟩ = some (.int .i64 0) := fun w' h => by have := range_below hXr h hXs 9 _ rfl; rwa [Nat.zero_add] at this
  clear hXr
  go_wp2_with fail
  refine (hse _).mono ?_
  rintro e w3 ⟨rfl, hc3⟩
  have hb3 := hX.trans (hc3.mono hX.size)
  have hx3 : Below X.heap.size X w3 := hc3
  clear hc3
  go_upto_region 8 with fail
  have hR : Below w.heap.size w (w3.alloc (.cells #[.int .u8 1, .int .u8 0, .bool true, .bool false, .bool false, .int .i64 0] 61)) := hb3.alloc hb3.size _
  have hRx : Below X.heap.size X (w3.alloc (.cells #[.int .u8 1, .int .u8 0, .bool true, .bool false, .bool false, .int .i64 0] 61)) := hx3.alloc hx3.size _
  have r0 := boxc (k := 0) (u := .int .u8 1) (heap1_0 w3 (.cells #[.int .u8 1, .int .u8 0, .bool true, .bool false, .bool false, .int .i64 0] 61)) rfl
  generalize w3.alloc (.cells #[.int .u8 1, .int .u8 0, .bool true, .bool false, .bool false, .int .i64 0] 61) = R at *
  go_wp2_with fail
  refine (htg _ hR).mono ?_
  rintro e w4 ⟨rfl, hc4⟩
  have hb4 := hR.trans (hc4.mono hR.size)
  have hx4 := hRx.trans (hc4.mono hRx.size)
  have r0_ := r0 _ hc4
  clear hc4 r0
  go_wp2_with fail
  go_loopw [13] (fun k wr => k = .int .i64 0 ∧ wr = w4) (fun k _ => 0)
  case atStart => exact ⟨rfl, rfl⟩
  case round =>
    obtain ⟨rfl, rfl⟩ := hrel
    go_upto_region 14 with fail
    have V0 := v0 _ hx4
    have V1 := v1 _ hx4
    have V2 := v2 _ hx4
    have V3 := v3 _ hx4
    have V4 := v4 _ hx4
    have V5 := v5 _ hx4
    have V6 := v6 _ hx4
    have V7 := v7 _ hx4
    have V8 := v8 _ hx4
    have V9 := v9 _ hx4
    go_region
    have hfin : LookOk (((((((((((wr).setCell ⟨N, 10, none⟩ (.bool true)).setCell ⟨N, 11, none⟩ (.bool false)).setCell ⟨N, 12, none⟩ (.bool false)).setCell ⟨N, 13, none⟩ (.int .u8 1)).setCell ⟨N, 14, none⟩ (.int .u64 7)).setCell ⟨N, 15, none⟩ (.int .u64 0)).setCell ⟨N, 16, none⟩ (.int .u64 7)).setCell ⟨N, 17, none⟩ (.int .u64 7)).setCell ⟨N, 18, none⟩ (.int .i64 0)).setCell ⟨N, 19, none⟩ (.int .i64 0)) (some ⟨q, o, none⟩) c Jb Jo cj kp L N steps [.bool true, .bool false, .bool false, .int .u8 1, .int .u64 5, .int .u64 0, .int .u64 5, .int .u64 5, .int .i64 0, .int .i64 0, .bool true, .bool false, .bool false, .int .u8 1, .int .u64 7, .int .u64 0, .int .u64 7, .int .u64 7, .int .i64 0, .int .i64 0, .bool false, .bool false, .bool false, .int .u8 0, .int .u64 0, .int .u64 0, .int .u64 0, .int .u64 0, .int .i64 0, .int .i64 0] ∧ Below L w (((((((((((wr).setCell ⟨N, 10, none⟩ (.bool true)).setCell ⟨N, 11, none⟩ (.bool false)).setCell ⟨N, 12, none⟩ (.bool false)).setCell ⟨N, 13, none⟩ (.int .u8 1)).setCell ⟨N, 14, none⟩ (.int .u64 7)).setCell ⟨N, 15, none⟩ (.int .u64 0)).setCell ⟨N, 16, none⟩ (.int .u64 7)).setCell ⟨N, 17, none⟩ (.int .u64 7)).setCell ⟨N, 18, none⟩ (.int .i64 0)).setCell ⟨N, 19, none⟩ (.int .i64 0)) := (HLK.out).put (A := [.bool true, .bool false, .bool false, .int .u8 1, .int .u64 5, .int .u64 0, .int .u64 5, .int .u64 5, .int .i64 0, .int .i64 0]) (B := [.bool false, .bool false, .bool false, .int .u8 0, .int .u64 0, .int .u64 0, .int .u64 0, .int .u64 0, .int .i64 0, .int .i64 0]) (C := [.bool false, .bool false, .bool false, .int .u8 0, .int .u64 0, .int .u64 0, .int .u64 0, .int .u64 0, .int .i64 0, .int .i64 0]) (Y := wr) hb4 [.bool true, .bool false, .bool false, .int .u8 1, .int .u64 7, .int .u64 0, .int .u64 7, .int .u64 7, .int .i64 0, .int .i64 0] rfl
    have hfin2 : LookOk (World.drew (((((((((((wr).setCell ⟨N, 10, none⟩ (.bool true)).setCell ⟨N, 11, none⟩ (.bool false)).setCell ⟨N, 12, none⟩ (.bool false)).setCell ⟨N, 13, none⟩ (.int .u8 1)).setCell ⟨N, 14, none⟩ (.int .u64 7)).setCell ⟨N, 15, none⟩ (.int .u64 0)).setCell ⟨N, 16, none⟩ (.int .u64 7)).setCell ⟨N, 17, none⟩ (.int .u64 7)).setCell ⟨N, 18, none⟩ (.int .i64 0)).setCell ⟨N, 19, none⟩ (.int .i64 0))) (some ⟨q, o, none⟩) c Jb Jo cj kp L N steps [.bool true, .bool false, .bool false, .int .u8 1, .int .u64 5, .int .u64 0, .int .u64 5, .int .u64 5, .int .i64 0, .int .i64 0, .bool true, .bool false, .bool false, .int .u8 1, .int .u64 7, .int .u64 0, .int .u64 7, .int .u64 7, .int .i64 0, .int .i64 0, .bool false, .bool false, .bool false, .int .u8 0, .int .u64 0, .int .u64 0, .int .u64 0, .int .u64 0, .int .i64 0, .int .i64 0] ∧ Below L w (World.drew (((((((((((wr).setCell ⟨N, 10, none⟩ (.bool true)).setCell ⟨N, 11, none⟩ (.bool false)).setCell ⟨N, 12, none⟩ (.bool false)).setCell ⟨N, 13, none⟩ (.int .u8 1)).setCell ⟨N, 14, none⟩ (.int .u64 7)).setCell ⟨N, 15, none⟩ (.int .u64 0)).setCell ⟨N, 16, none⟩ (.int .u64 7)).setCell ⟨N, 17, none⟩ (.int .u64 7)).setCell ⟨N, 18, none⟩ (.int .i64 0)).setCell ⟨N, 19, none⟩ (.int .i64 0))) := ⟨hfin.1.below (Below.drew (Below.refl _ _)), hfin.2.drew⟩
    have hoth0 : ∀ k, k < w.heap.size → k ≠ N → World.heap (((((((((((wr).setCell ⟨N, 10, none⟩ (.bool true)).setCell ⟨N, 11, none⟩ (.bool false)).setCell ⟨N, 12, none⟩ (.bool false)).setCell ⟨N, 13, none⟩ (.int .u8 1)).setCell ⟨N, 14, none⟩ (.int .u64 7)).setCell ⟨N, 15, none⟩ (.int .u64 0)).setCell ⟨N, 16, none⟩ (.int .u64 7)).setCell ⟨N, 17, none⟩ (.int .u64 7)).setCell ⟨N, 18, none⟩ (.int .i64 0)).setCell ⟨N, 19, none⟩ (.int .i64 0)) = World.heap (wr.setCells N 10 [.bool true, .bool false, .bool false, .int .u8 1, .int .u64 7, .int .u64 0, .int .u64 7, .int .u64 7, .int .i64 0, .int .i64 0]) := fun _ _ _ => rfl
    have hoth : ∀ k, k < w.heap.size → k ≠ N → (World.drew (((((((((((wr).setCell ⟨N, 10, none⟩ (.bool true)).setCell ⟨N, 11, none⟩ (.bool false)).setCell ⟨N, 12, none⟩ (.bool false)).setCell ⟨N, 13, none⟩ (.int .u8 1)).setCell ⟨N, 14, none⟩ (.int .u64 7)).setCell ⟨N, 15, none⟩ (.int .u64 0)).setCell ⟨N, 16, none⟩ (.int .u64 7)).setCell ⟨N, 17, none⟩ (.int .u64 7)).setCell ⟨N, 18, none⟩ (.int .i64 0)).setCell ⟨N, 19, none⟩ (.int .i64 0))).heap[k]? = w.heap[k]? := fun k hk hne => by rw [drew_heap, hoth0 k hk hne, heap_put_other wr N 10 [.bool true, .bool false, .bool false, .int .u8 1, .int .u64 7, .int .u64 0, .int .u64 7, .int .u64 7, .int .i64 0, .int .i64 0] (Nat.lt_of_lt_of_le hk hb4.size) hne]; exact hb4.block k hk
    clear hfin
    generalize World.drew (((((((((((wr).setCell ⟨N, 10, none⟩ (.bool true)).setCell ⟨N, 11, none⟩ (.bool false)).setCell ⟨N, 12, none⟩ (.bool false)).setCell ⟨N, 13, none⟩ (.int .u8 1)).setCell ⟨N, 14, none⟩ (.int .u64 7)).setCell ⟨N, 15, none⟩ (.int .u64 0)).setCell ⟨N, 16, none⟩ (.int .u64 7)).setCell ⟨N, 17, none⟩ (.int .u64 7)).setCell ⟨N, 18, none⟩ (.int .i64 0)).setCell ⟨N, 19, none⟩ (.int .i64 0)) = V at *
    exact ⟨rfl, .tuple #[], by simp [results, Tryz.results44], rfl, hfin2.1, hfin2.2, hoth⟩

set_option maxRecDepth 100000 in
set_option maxHeartbeats 4000000 in
theorem rnote15_2 (Ad : Option Addr) (c Jb Jo cj : Nat) (kp : Value) (L N : Nat) (steps : Int) (w : World) (hk : LookOk w Ad c Jb Jo cj kp L N steps [.bool true, .bool false, .bool false, .int .u8 1, .int .u64 5, .int .u64 0, .int .u64 5, .int .u64 5, .int .i64 0, .int .i64 0, .bool true, .bool false, .bool false, .int .u8 1, .int .u64 7, .int .u64 0, .int .u64 7, .int .u64 7, .int .i64 0, .int .i64 0, .bool false, .bool false, .bool false, .int .u8 0, .int .u64 0, .int .u64 0, .int .u64 0, .int .u64 0, .int .i64 0, .int .i64 0]) :
    Calls Tryz.prog 44 #[.pointer (some ⟨L, 0, none⟩), .int .i64 2, .slice none 0 0] w fun e w' => e = .returned (.tuple #[]) ∧ LookOk w' Ad c Jb Jo cj kp L N steps [.bool true, .bool false, .bool false, .int .u8 1, .int .u64 5, .int .u64 0, .int .u64 5, .int .u64 5, .int .i64 0, .int .i64 0, .bool true, .bool false, .bool false, .int .u8 1, .int .u64 7, .int .u64 0, .int .u64 7, .int .u64 7, .int .i64 0, .int .i64 0, .bool true, .bool false, .bool false, .int .u8 0, .int .u64 0, .int .u64 0, .int .u64 0, .int .u64 0, .int .i64 0, .int .i64 0] ∧ Below L w w' ∧ ∀ k, k < w.heap.size → k ≠ N → w'.heap[k]? = w.heap[k]? := by
  have HLK := Lib.hid hk
  have hrs := fun (w1 : World) (hb1 : Below w.heap.size w w1) => rresult14_2 Ad c w1 ((hk.hat.below (hb1.mono (Nat.le_of_lt hk.ls))).more (Nat.le_trans (Nat.le_of_lt hk.ls) hb1.size))
  have htg := fun (w1 : World) (hb1 : Below w.heap.size w w1) => rtarget_P3_2 Ad c w1 ((hk.hat.below (hb1.mono (Nat.le_of_lt hk.ls))).more (Nat.le_trans (Nat.le_of_lt hk.ls) hb1.size))
  have hse := fun (w1 : World) => rsem_P3_2 w1
  have hlen := hk.look 8 _ rfl
  have hl0 := hk.look 0 _ rfl
  have hfN := hk.ntsF
  simp only [Nat.zero_add] at hlen hl0
  have n0 := hk.nts 20 (.bool false) rfl
  have n1 := hk.nts 21 (.bool false) rfl
  have n2 := hk.nts 22 (.bool false) rfl
  have n3 := hk.nts 23 (.int .u8 0) rfl
  have n4 := hk.nts 24 (.int .u64 0) rfl
  have n5 := hk.nts 25 (.int .u64 0) rfl
  have n6 := hk.nts 26 (.int .u64 0) rfl
  have n7 := hk.nts 27 (.int .u64 0) rfl
  have n8 := hk.nts 28 (.int .i64 0) rfl
  have n9 := hk.nts 29 (.int .i64 0) rfl
  simp only [Nat.zero_add] at n0 n1 n2 n3 n4 n5 n6 n7 n8 n9
  have hat1 := hk.hat.more (Nat.le_of_lt hk.ls)
  have hls := hk.ls
  have hnw := hk.nw
  replace hlen := fun w' (h : Below w.heap.size w w') => (h.cell (p := ⟨L, 8, none⟩) hls).trans hlen
  replace hl0 := fun w' (h : Below w.heap.size w w') => (h.cell (p := ⟨L, 0, none⟩) hls).trans hl0
  replace n0 := fun w' (h : Below w.heap.size w w') => (h.cell (p := ⟨N, 20, none⟩) hnw).trans n0
  replace n1 := fun w' (h : Below w.heap.size w w') => (h.cell (p := ⟨N, 21, none⟩) hnw).trans n1
  replace n2 := fun w' (h : Below w.heap.size w w') => (h.cell (p := ⟨N, 22, none⟩) hnw).trans n2
  replace n3 := fun w' (h : Below w.heap.size w w') => (h.cell (p := ⟨N, 23, none⟩) hnw).trans n3
  replace n4 := fun w' (h : Below w.heap.size w w') => (h.cell (p := ⟨N, 24, none⟩) hnw).trans n4
  replace n5 := fun w' (h : Below w.heap.size w w') => (h.cell (p := ⟨N, 25, none⟩) hnw).trans n5
  replace n6 := fun w' (h : Below w.heap.size w w') => (h.cell (p := ⟨N, 26, none⟩) hnw).trans n6
  replace n7 := fun w' (h : Below w.heap.size w w') => (h.cell (p := ⟨N, 27, none⟩) hnw).trans n7
  replace n8 := fun w' (h : Below w.heap.size w w') => (h.cell (p := ⟨N, 28, none⟩) hnw).trans n8
  replace n9 := fun w' (h : Below w.heap.size w w') => (h.cell (p := ⟨N, 29, none⟩) hnw).trans n9
  replace hfN := fun k w' (h : Below w.heap.size w w') => (h.frozen (p := ⟨N, k, none⟩) hnw).trans (hfN k)
  obtain ⟨q, o, rfl, hbb, d0, d1, d2, d3, d4⟩ := hat1.insn (l := P3) (k := 2) (by decide)
  have D0 : ∀ w', Below w.heap.size w w' → w'.cell? ⟨q, o + 10, none⟩ = some (.int .u8 149) := d0
  have D1 : ∀ w', Below w.heap.size w w' → w'.cell? ⟨q, o + 10 + 1, none⟩ = some (.int .u8 0) := d1
  have D2 : ∀ w', Below w.heap.size w w' → w'.cell? ⟨q, o + 10 + 2, none⟩ = some (.int .u8 0) := d2
  have D3 : ∀ w', Below w.heap.size w w' → w'.cell? ⟨q, o + 10 + 3, none⟩ = some (.int .i16 0) := d3
  have D4 : ∀ w', Below w.heap.size w w' → w'.cell? ⟨q, o + 10 + 4, none⟩ = some (.int .i32 0) := d4
  clear d0 d1 d2 d3 d4 hk hat1 hls hnw
  have hrf := Below.refl w.heap.size w
  go_enter Tryz.func44, Tryz.ntmps44
  go_upto_region 1 with fail
  have hU : Below w.heap.size w (w.alloc (.cells #[.bool false, .bool false, .bool false, .int .u8 0, .int .u64 0, .int .u64 0, .int .u64 0, .int .u64 0, .int .i64 0, .int .i64 0] 43)) := below_boxes1 _ _
  have y0 := boxc (k := 0) (u := .bool false) (heap1_0 w (.cells #[.bool false, .bool false, .bool false, .int .u8 0, .int .u64 0, .int .u64 0, .int .u64 0, .int .u64 0, .int .i64 0, .int .i64 0] 43)) rfl
  have y1 := boxc (k := 1) (u := .bool false) (heap1_0 w (.cells #[.bool false, .bool false, .bool false, .int .u8 0, .int .u64 0, .int .u64 0, .int .u64 0, .int .u64 0, .int .i64 0, .int .i64 0] 43)) rfl
  have y2 := boxc (k := 2) (u := .bool false) (heap1_0 w (.cells #[.bool false, .bool false, .bool false, .int .u8 0, .int .u64 0, .int .u64 0, .int .u64 0, .int .u64 0, .int .i64 0, .int .i64 0] 43)) rfl
  have y3 := boxc (k := 3) (u := .int .u8 0) (heap1_0 w (.cells #[.bool false, .bool false, .bool false, .int .u8 0, .int .u64 0, .int .u64 0, .int .u64 0, .int .u64 0, .int .i64 0, .int .i64 0] 43)) rfl
  have y4 := boxc (k := 4) (u := .int .u64 0) (heap1_0 w (.cells #[.bool false, .bool false, .bool false, .int .u8 0, .int .u64 0, .int .u64 0, .int .u64 0, .int .u64 0, .int .i64 0, .int .i64 0] 43)) rfl
  have y5 := boxc (k := 5) (u := .int .u64 0) (heap1_0 w (.cells #[.bool false, .bool false, .bool false, .int .u8 0, .int .u64 0, .int .u64 0, .int .u64 0, .int .u64 0, .int .i64 0, .int .i64 0] 43)) rfl
  have y6 := boxc (k := 6) (u := .int .u64 0) (heap1_0 w (.cells #[.bool false, .bool false, .bool false, .int .u8 0, .int .u64 0, .int .u64 0, .int .u64 0, .int .u64 0, .int .i64 0, .int .i64 0] 43)) rfl
  have y7 := boxc (k := 7) (u := .int .u64 0) (heap1_0 w (.cells #[.bool false, .bool false, .bool false, .int .u8 0, .int .u64 0, .int .u64 0, .int .u64 0, .int .u64 0, .int .i64 0, .int .i64 0] 43)) rfl
  have y8 := boxc (k := 8) (u := .int .i64 0) (heap1_0 w (.cells #[.bool false, .bool false, .bool false, .int .u8 0, .int .u64 0, .int .u64 0, .int .u64 0, .int .u64 0, .int .i64 0, .int .i64 0] 43)) rfl
  have y9 := boxc (k := 9) (u := .int .i64 0) (heap1_0 w (.cells #[.bool false, .bool false, .bool false, .int .u8 0, .int .u64 0, .int .u64 0, .int .u64 0, .int .u64 0, .int .i64 0, .int .i64 0] 43)) rfl
  have ty := boxt (heap1_0 w (.cells #[.bool false, .bool false, .bool false, .int .u8 0, .int .u64 0, .int .u64 0, .int .u64 0, .int .u64 0, .int .i64 0, .int .i64 0] 43))
  have hUs : (w.alloc (.cells #[.bool false, .bool false, .bool false, .int .u8 0, .int .u64 0, .int .u64 0, .int .u64 0, .int .u64 0, .int .i64 0, .int .i64 0] 43)).heap.size = w.heap.size + 1 := by simp
  have hUr : World.rangeAt (w.alloc (.cells #[.bool false, .bool false, .bool false, .int .u8 0, .int .u64 0, .int .u64 0, .int .u64 0, .int .u64 0, .int .i64 0, .int .i64 0] 43)) w.heap.size 0 [.bool false, .bool false, .bool false, .int .u8 0, .int .u64 0, .int .u64 0, .int .u64 0, .int .u64 0, .int .i64 0, .int .i64 0] := range_of_block (heap1_0 w _)
  generalize w.alloc (.cells #[.bool false, .bool false, .bool false, .int .u8 0, .int .u64 0, .int .u64 0, .int .u64 0, .int .u64 0, .int .i64 0, .int .i64 0] 43) = U at *
  go_wp2_with fail
  refine (hrs _ hU).mono ?_
  rintro e w1 ⟨rfl, hc1⟩
  have hb1 := hU.trans (hc1.mono hU.size)
  have hu1 : Below U.heap.size U w1 := hc1
  clear hc1
  go_upto_region 2 with fail
  have hT : Below w.heap.size w (w1.alloc (.cells #[.int .u8 0, .int .u64 0, .int .u64 0, .int .u64 0, .int .u64 0, .int .i64 0, .int .i64 0] 41)) := hb1.alloc hb1.size _
  have hTu : Below U.heap.size U (w1.alloc (.cells #[.int .u8 0, .int .u64 0, .int .u64 0, .int .u64 0, .int .u64 0, .int .i64 0, .int .i64 0] 41)) := hu1.alloc hu1.size _
  have x0 := boxc (k := 0) (u := .int .u8 0) (heap1_0 w1 (.cells #[.int .u8 0, .int .u64 0, .int .u64 0, .int .u64 0, .int .u64 0, .int .i64 0, .int .i64 0] 41)) rfl _ (Below.refl _ _)
  have x1 := boxc (k := 1) (u := .int .u64 0) (heap1_0 w1 (.cells #[.int .u8 0, .int .u64 0, .int .u64 0, .int .u64 0, .int .u64 0, .int .i64 0, .int .i64 0] 41)) rfl _ (Below.refl _ _)
  have x2 := boxc (k := 2) (u := .int .u64 0) (heap1_0 w1 (.cells #[.int .u8 0, .int .u64 0, .int .u64 0, .int .u64 0, .int .u64 0, .int .i64 0, .int .i64 0] 41)) rfl _ (Below.refl _ _)
  have x3 := boxc (k := 3) (u := .int .u64 0) (heap1_0 w1 (.cells #[.int .u8 0, .int .u64 0, .int .u64 0, .int .u64 0, .int .u64 0, .int .i64 0, .int .i64 0] 41)) rfl _ (Below.refl _ _)
  have x4 := boxc (k := 4) (u := .int .u64 0) (heap1_0 w1 (.cells #[.int .u8 0, .int .u64 0, .int .u64 0, .int .u64 0, .int .u64 0, .int .i64 0, .int .i64 0] 41)) rfl _ (Below.refl _ _)
  have x5 := boxc (k := 5) (u := .int .i64 0) (heap1_0 w1 (.cells #[.int .u8 0, .int .u64 0, .int .u64 0, .int .u64 0, .int .u64 0, .int .i64 0, .int .i64 0] 41)) rfl _ (Below.refl _ _)
  have x6 := boxc (k := 6) (u := .int .i64 0) (heap1_0 w1 (.cells #[.int .u8 0, .int .u64 0, .int .u64 0, .int .u64 0, .int .u64 0, .int .i64 0, .int .i64 0] 41)) rfl _ (Below.refl _ _)
  generalize w1.alloc (.cells #[.int .u8 0, .int .u64 0, .int .u64 0, .int .u64 0, .int .u64 0, .int .i64 0, .int .i64 0] 41) = T at *
  have Y0 := y0 _ hTu
  have Y1 := y1 _ hTu
  have Y2 := y2 _ hTu
  have Y3 := y3 _ hTu
  have Y4 := y4 _ hTu
  have Y5 := y5 _ hTu
  have Y6 := y6 _ hTu
  have Y7 := y7 _ hTu
  have Y8 := y8 _ hTu
  have Y9 := y9 _ hTu
  have tY := fun k => ty k _ hTu
  clear ty y0 y1 y2 y3 y4 y5 y6 y7 y8 y9
  have hTr := range_below hUr hTu (by rw [hUs]; omega)
  clear hUr
  go_upto_region 7 with fail
  clear Y0 Y1 Y2 Y3 Y4 Y5 Y6 Y7 Y8 Y9 tY x0 x1 x2 x3 x4 x5 x6
  have hX : Below w.heap.size w ((T).setCell ⟨w.heap.size, 0, none⟩ (.bool true)) := below_setCells w.heap.size (Nat.le_refl _) [.bool true] 0 hT
  have hXr : World.rangeAt ((T).setCell ⟨w.heap.size, 0, none⟩ (.bool true)) w.heap.size 0 [.bool true, .bool false, .bool false, .int .u8 0, .int .u64 0, .int .u64 0, .int .u64 0, .int .u64 0, .int .i64 0, .int .i64 0] := range_put (A := []) (B := [.bool false]) (C := [.bool false, .bool false, .int .u8 0, .int .u64 0, .int .u64 0, .int .u64 0, .int .u64 0, .int .i64 0, .int .i64 0]) (vs := [.bool true]) (hTr) rfl
  have hXs : w.heap.size < ((T).setCell ⟨w.heap.size, 0, none⟩ (.bool true)).heap.size := Nat.lt_of_lt_of_le (by have := hTu.size; omega) (below_setCells (B := 0) (a := T) w.heap.size (Nat.zero_le _) [.bool true] 0 (Below.refl 0 T)).size
  generalize (T).setCell ⟨w.heap.size, 0, none⟩ (.bool true) = X at *
  clear hTr hTu hT hu1 hb1 hU hUs
  have v0 : ∀ w', Below X.heap.size X w' → w'.cell? ⟨w.heap.size, 0, none⟩ = some (.bool true) := fun w' h => by have := range_below hXr h hXs 0 _ rfl; rwa [Nat.zero_add] at this
  have v1 : ∀ w', Below X.heap.size X w' → w'.cell? ⟨w.heap.size, 1, none⟩ = some (.bool false) := fun w' h => by have := range_below hXr h hXs 1 _ rfl; rwa [Nat.zero_add] at this
  have v2 : ∀ w', Below X.heap.size X w' → w'.cell? ⟨w.heap.size, 2, none⟩ = some (.bool false) := fun w' h => by have := range_below hXr h hXs 2 _ rfl; rwa [Nat.zero_add] at this
  have v3 : ∀ w', Below X.heap.size X w' → w'.cell? ⟨w.heap.size, 3, none⟩ = some (.int .u8 0) := fun w' h => by have := range_below hXr h hXs 3 _ rfl; rwa [Nat.zero_add] at this
  have v4 : ∀ w', Below X.heap.size X w' → w'.cell? ⟨w.heap.size, 4, none⟩ = some (.int .u64 0) := fun w' h => by have := range_below hXr h hXs 4 _ rfl; rwa [Nat.zero_add] at this
  have v5 : ∀ w', Below X.heap.size X w' → w'.cell? ⟨w.heap.size, 5, none⟩ = some (.int .u64 0) := fun w' h => by have := range_below hXr h hXs 5 _ rfl; rwa [Nat.zero_add] at this
  have v6 : ∀ w', Below X.heap.size X w' → w'.cell? ⟨w.heap.size, 6, none⟩ = some (.int .u64 0) := fun w' h => by have := range_below hXr h hXs 6 _ rfl; rwa [Nat.zero_add] at this
  have v7 : ∀ w', Below X.heap.size X w' → w'.cell? ⟨w.heap.size, 7, none⟩ = some (.int .u64 0) := fun w' h => by have := range_below hXr h hXs 7 _ rfl; rwa [Nat.zero_add] at this
  have v8 : ∀ w', Below X.heap.size X w' → w'.cell? ⟨w.heap.size, 8, none⟩ = some (.int .i64 0) := fun w' h => by have := range_below hXr h hXs 8 _ rfl; rwa [Nat.zero_add] at this
  have v9 : ∀ w', Below X.heap.size X w' → w'.cell? ⟨w.heap.size, 9, none⟩ = some (.int .i64 0) := fun w' h => by have := range_below hXr h hXs 9 _ rfl; rwa [Nat.zero_add] at this
  clear hXr
  go_wp2_with fail
  refine (hse _).mono ?_
  rintro e w3 ⟨rfl, hc3⟩
  have hb3 := hX.trans (hc3.mono hX.size)
  have hx3 : Below X.heap.size X w3 := hc3
  clear hc3
  go_upto_region 8 with fail
  have hR : Below w.heap.size w (w3.alloc (.cells #[.int .u8 12, .int .u8 0, .bool false, .bool false, .bool false, .int .i64 0] 61)) := hb3.alloc hb3.size _
  have hRx : Below X.heap.size X (w3.alloc (.cells #[.int .u8 12, .int .u8 0, .bool false, .bool false, .bool false, .int .i64 0] 61)) := hx3.alloc hx3.size _
  have r0 := boxc (k := 0) (u := .int .u8 12) (heap1_0 w3 (.cells #[.int .u8 12, .int .u8 0, .bool false, .bool false, .bool false, .int .i64 0] 61)) rfl
  generalize w3.alloc (.cells #[.int .u8 12, .int .u8 0, .bool false, .bool false, .bool false, .int .i64 0] 61) = R at *
  go_wp2_with fail
  refine (htg _ hR).mono ?_
  rintro e w4 ⟨rfl, hc4⟩
  have hb4 := hR.trans (hc4.mono hR.size)
  have hx4 := hRx.trans (hc4.mono hRx.size)
  have r0_ := r0 _ hc4
  clear hc4 r0
  go_wp2_with fail
  go_loopw [13] (fun k wr => k = .int .i64 0 ∧ wr = w4) (fun k _ => 0)
  case atStart => exact ⟨rfl, rfl⟩
  case round =>
    obtain ⟨rfl, rfl⟩ := hrel
    go_upto_region 14 with fail
    have V0 := v0 _ hx4
    have V1 := v1 _ hx4
    have V2 := v2 _ hx4
    have V3 := v3 _ hx4
    have V4 := v4 _ hx4
    have V5 := v5 _ hx4
    have V6 := v6 _ hx4
    have V7 := v7 _ hx4
    have V8 := v8 _ hx4
    have V9 := v9 _ hx4
    go_region
    have hfin : LookOk (((((((((((wr).setCell ⟨N, 20, none⟩ (.bool true)).setCell ⟨N, 21, none⟩ (.bool false)).setCell ⟨N, 22, none⟩ (.bool false)).setCell ⟨N, 23, none⟩ (.int .u8 0)).setCell ⟨N, 24, none⟩ (.int .u64 0)).setCell ⟨N, 25, none⟩ (.int .u64 0)).setCell ⟨N, 26, none⟩ (.int .u64 0)).setCell ⟨N, 27, none⟩ (.int .u64 0)).setCell ⟨N, 28, none⟩ (.int .i64 0)).setCell ⟨N, 29, none⟩ (.int .i64 0)) (some ⟨q, o, none⟩) c Jb Jo cj kp L N steps [.bool true, .bool false, .bool false, .int .u8 1, .int .u64 5, .int .u64 0, .int .u64 5, .int .u64 5, .int .i64 0, .int .i64 0, .bool true, .bool false, .bool false, .int .u8 1, .int .u64 7, .int .u64 0, .int .u64 7, .int .u64 7, .int .i64 0, .int .i64 0, .bool true, .bool false, .bool false, .int .u8 0, .int .u64 0, .int .u64 0, .int .u64 0, .int .u64 0, .int .i64 0, .int .i64 0] ∧ Below L w (((((((((((wr).setCell ⟨N, 20, none⟩ (.bool true)).setCell ⟨N, 21, none⟩ (.bool false)).setCell ⟨N, 22, none⟩ (.bool false)).setCell ⟨N, 23, none⟩ (.int .u8 0)).setCell ⟨N, 24, none⟩ (.int .u64 0)).setCell ⟨N, 25, none⟩ (.int .u64 0)).setCell ⟨N, 26, none⟩ (.int .u64 0)).setCell ⟨N, 27, none⟩ (.int .u64 0)).setCell ⟨N, 28, none⟩ (.int .i64 0)).setCell ⟨N, 29, none⟩ (.int .i64 0)) := (HLK.out).put (A := [.bool true, .bool false, .bool false, .int .u8 1, .int .u64 5, .int .u64 0, .int .u64 5, .int .u64 5, .int .i64 0, .int .i64 0, .bool true, .bool false, .bool false, .int .u8 1, .int .u64 7, .int .u64 0, .int .u64 7, .int .u64 7, .int .i64 0, .int .i64 0]) (B := [.bool false, .bool false, .bool false, .int .u8 0, .int .u64 0, .int .u64 0, .int .u64 0, .int .u64 0, .int .i64 0, .int .i64 0]) (C := []) (Y := wr) hb4 [.bool true, .bool false, .bool false, .int .u8 0, .int .u64 0, .int .u64 0, .int .u64 0, .int .u64 0, .int .i64 0, .int .i64 0] rfl
    have hfin2 : LookOk (World.drew (((((((((((wr).setCell ⟨N, 20, none⟩ (.bool true)).setCell ⟨N, 21, none⟩ (.bool false)).setCell ⟨N, 22, none⟩ (.bool false)).setCell ⟨N, 23, none⟩ (.int .u8 0)).setCell ⟨N, 24, none⟩ (.int .u64 0)).setCell ⟨N, 25, none⟩ (.int .u64 0)).setCell ⟨N, 26, none⟩ (.int .u64 0)).setCell ⟨N, 27, none⟩ (.int .u64 0)).setCell ⟨N, 28, none⟩ (.int .i64 0)).setCell ⟨N, 29, none⟩ (.int .i64 0))) (some ⟨q, o, none⟩) c Jb Jo cj kp L N steps [.bool true, .bool false, .bool false, .int .u8 1, .int .u64 5, .int .u64 0, .int .u64 5, .int .u64 5, .int .i64 0, .int .i64 0, .bool true, .bool false, .bool false, .int .u8 1, .int .u64 7, .int .u64 0, .int .u64 7, .int .u64 7, .int .i64 0, .int .i64 0, .bool true, .bool false, .bool false, .int .u8 0, .int .u64 0, .int .u64 0, .int .u64 0, .int .u64 0, .int .i64 0, .int .i64 0] ∧ Below L w (World.drew (((((((((((wr).setCell ⟨N, 20, none⟩ (.bool true)).setCell ⟨N, 21, none⟩ (.bool false)).setCell ⟨N, 22, none⟩ (.bool false)).setCell ⟨N, 23, none⟩ (.int .u8 0)).setCell ⟨N, 24, none⟩ (.int .u64 0)).setCell ⟨N, 25, none⟩ (.int .u64 0)).setCell ⟨N, 26, none⟩ (.int .u64 0)).setCell ⟨N, 27, none⟩ (.int .u64 0)).setCell ⟨N, 28, none⟩ (.int .i64 0)).setCell ⟨N, 29, none⟩ (.int .i64 0))) := ⟨hfin.1.below (Below.drew (Below.refl _ _)), hfin.2.drew⟩
    have hoth0 : ∀ k, k < w.heap.size → k ≠ N → World.heap (((((((((((wr).setCell ⟨N, 20, none⟩ (.bool true)).setCell ⟨N, 21, none⟩ (.bool false)).setCell ⟨N, 22, none⟩ (.bool false)).setCell ⟨N, 23, none⟩ (.int .u8 0)).setCell ⟨N, 24, none⟩ (.int .u64 0)).setCell ⟨N, 25, none⟩ (.int .u64 0)).setCell ⟨N, 26, none⟩ (.int .u64 0)).setCell ⟨N, 27, none⟩ (.int .u64 0)).setCell ⟨N, 28, none⟩ (.int .i64 0)).setCell ⟨N, 29, none⟩ (.int .i64 0)) = World.heap (wr.setCells N 20 [.bool true, .bool false, .bool false, .int .u8 0, .int .u64 0, .int .u64 0, .int .u64 0, .int .u64 0, .int .i64 0, .int .i64 0]) := fun _ _ _ => rfl
    have hoth : ∀ k, k < w.heap.size → k ≠ N → (World.drew (((((((((((wr).setCell ⟨N, 20, none⟩ (.bool true)).setCell ⟨N, 21, none⟩ (.bool false)).setCell ⟨N, 22, none⟩ (.bool false)).setCell ⟨N, 23, none⟩ (.int .u8 0)).setCell ⟨N, 24, none⟩ (.int .u64 0)).setCell ⟨N, 25, none⟩ (.int .u64 0)).setCell ⟨N, 26, none⟩ (.int .u64 0)).setCell ⟨N, 27, none⟩ (.int .u64 0)).setCell ⟨N, 28, none⟩ (.int .i64 0)).setCell ⟨N, 29, none⟩ (.int .i64 0))).heap[k]? = w.heap[k]? := fun k hk hne => by rw [drew_heap, hoth0 k hk hne, heap_put_other wr N 20 [.bool true, .bool false, .bool false, .int .u8 0, .int .u64 0, .int .u64 0, .int .u64 0, .int .u64 0, .int .i64 0, .int .i64 0] (Nat.lt_of_lt_of_le hk hb4.size) hne]; exact hb4.block k hk
    clear hfin
    generalize World.drew (((((((((((wr).setCell ⟨N, 20, none⟩ (.bool true)).setCell ⟨N, 21, none⟩ (.bool false)).setCell ⟨N, 22, none⟩ (.bool false)).setCell ⟨N, 23, none⟩ (.int .u8 0)).setCell ⟨N, 24, none⟩ (.int .u64 0)).setCell ⟨N, 25, none⟩ (.int .u64 0)).setCell ⟨N, 26, none⟩ (.int .u64 0)).setCell ⟨N, 27, none⟩ (.int .u64 0)).setCell ⟨N, 28, none⟩ (.int .i64 0)).setCell ⟨N, 29, none⟩ (.int .i64 0)) = V at *
    exact ⟨rfl, .tuple #[], by simp [results, Tryz.results44], rfl, hfin2.1, hfin2.2, hoth⟩

end Go.Proofs.YtbfgffmebniooaaGreat
end

section
/- The look of the closed run, at its three places. No statement is proved here. -/
namespace Go.Proofs.YtbfgffmebniooaaGreat
open Go.RowKit
set_option linter.unusedSimpArgs false
set_option linter.unusedVariables false
set_option linter.unnecessarySimpa false
def KeepLN (L N : Nat) (w w' : World) : Prop := w.heap.size ≤ w'.heap.size ∧ ∀ k, k < w.heap.size → k ≠ L → k ≠ N → w'.heap[k]? = w.heap[k]?
section
variable {L N : Nat} {a b c : World}
theorem KeepLN.refl : KeepLN L N a a := ⟨Nat.le_refl _, fun _ _ _ _ => rfl⟩
theorem KeepLN.trans (h : KeepLN L N a b) (k : KeepLN L N b c) : KeepLN L N a c := ⟨Nat.le_trans h.1 k.1, fun i hi h1 h2 => (k.2 i (Nat.lt_of_lt_of_le hi h.1) h1 h2).trans (h.2 i hi h1 h2)⟩
theorem KeepLN.of (h : Below a.heap.size a b) : KeepLN L N a b := ⟨h.size, fun k hk _ _ => h.block k hk⟩
theorem KeepLN.drew (h : KeepLN L N a b) : KeepLN L N a b.drew := h
theorem KeepLN.cell (h : KeepLN L N a b) {g o : Nat} (hg : g < a.heap.size) (h1 : g ≠ L) (h2 : g ≠ N) : b.cell? ⟨g, o, none⟩ = a.cell? ⟨g, o, none⟩ := by
  simp only [World.cell?, h.2 g hg h1 h2]
end

attribute [local go_sem ↓] ldFrom_589 ldFrom_604 mkS89_eq mkW94_eq mkW108_eq
/-- What a look leaves behind. -/
def AtOk (Ad : Option Addr) (c Jb Jo cj : Nat) (kp : Value) (L N : Nat) (w w' : World) : Prop := LookOk w' Ad c Jb Jo cj kp L N 3 [.bool true, .bool false, .bool false, .int .u8 1, .int .u64 5, .int .u64 0, .int .u64 5, .int .u64 5, .int .i64 0, .int .i64 0, .bool true, .bool false, .bool false, .int .u8 1, .int .u64 7, .int .u64 0, .int .u64 7, .int .u64 7, .int .i64 0, .int .i64 0, .bool true, .bool false, .bool false, .int .u8 0, .int .u64 0, .int .u64 0, .int .u64 0, .int .u64 0, .int .i64 0, .int .i64 0] ∧ Below L w w' ∧ KeepLN L N w w'
theorem keep_note {L N : Nat} {w w' : World} (h : Below L w w') (ho : ∀ k, k < w.heap.size → k ≠ N → w'.heap[k]? = w.heap[k]?) : KeepLN L N w w' := ⟨h.size, fun k hk _ hn => ho k hk hn⟩
set_option maxRecDepth 100000 in
set_option maxHeartbeats 4000000 in
theorem rat15_2 (Ad : Option Addr) (c Jb Jo cj : Nat) (kp : Value) (L N : Nat) (w : World) (hk : LookOk w Ad c Jb Jo cj kp L N 2 [.bool true, .bool false, .bool false, .int .u8 1, .int .u64 5, .int .u64 0, .int .u64 5, .int .u64 5, .int .i64 0, .int .i64 0, .bool true, .bool false, .bool false, .int .u8 1, .int .u64 7, .int .u64 0, .int .u64 7, .int .u64 7, .int .i64 0, .int .i64 0, .bool false, .bool false, .bool false, .int .u8 0, .int .u64 0, .int .u64 0, .int .u64 0, .int .u64 0, .int .i64 0, .int .i64 0]) :
    Calls Tryz.prog 30 #[.pointer (some ⟨L, 0, none⟩), .int .i64 2, .agg (SVl [.int .u8 1, .int .u64 7, .int .u64 0, .int .u64 7, .int .u64 7, .int .i64 0, .int .i64 0]).toArray] w fun e w' => e = .returned (.bool true) ∧ AtOk Ad c Jb Jo cj kp L N w w' := by
  have hat1 : SAt w w.heap.size 5 Ad 3 (insnsV P3) := hk.hat.more (Nat.le_of_lt hk.ls)
  have q0 := heap1_0 w (.cells (SVl [.int .u8 1, .int .u64 7, .int .u64 0, .int .u64 7, .int .u64 7, .int .i64 0, .int .i64 0]).toArray 82)
  have hRS : World.rangeAt (w.alloc (.cells (SVl [.int .u8 1, .int .u64 7, .int .u64 0, .int .u64 7, .int .u64 7, .int .i64 0, .int .i64 0]).toArray 82)) w.heap.size 0 (SVl [.int .u8 1, .int .u64 7, .int .u64 0, .int .u64 7, .int .u64 7, .int .i64 0, .int .i64 0]) := range_of_block q0
  clear q0
  have hW0 : Below w.heap.size w (w.alloc (.cells (SVl [.int .u8 1, .int .u64 7, .int .u64 0, .int .u64 7, .int .u64 7, .int .i64 0, .int .i64 0]).toArray 82)) := below_boxes1 _ _
  have hWs : (w.alloc (.cells (SVl [.int .u8 1, .int .u64 7, .int .u64 0, .int .u64 7, .int .u64 7, .int .i64 0, .int .i64 0]).toArray 82)).heap.size = w.heap.size + 1 := by simp
  have hkW := hk.below hW0
  have hls := hk.ls
  have hln := hk.ln
  have l1 := hkW.look 1 _ rfl
  have l2 := hkW.look 2 _ rfl
  have l3 := hkW.look 3 _ rfl
  have l0 := hkW.look 0 _ rfl
  have l7 := hkW.look 7 _ rfl
  have lf := hkW.lookF
  simp only [Nat.zero_add] at l0 l1 l2 l3 l7
  have j2 := hkW.joint 2 (by decide)
  skip
  have HCT := Lib.hid (hk.count hW0 3)
  have hSl : (SVl [.int .u8 1, .int .u64 7, .int .u64 0, .int .u64 7, .int .u64 7, .int .i64 0, .int .i64 0]).length = 589 := SVl_len rfl
  have hstp := fun w1 (h : SAt w1 w1.heap.size 5 Ad 3 (insnsV P3)) => rStep14_2 Ad c w1 h
  generalize SVl [.int .u8 1, .int .u64 7, .int .u64 0, .int .u64 7, .int .u64 7, .int .i64 0, .int .i64 0] = S at *
  go_enter Tryz.func30, Tryz.ntmps30
  go_upto_region 1 with fail
  generalize w.alloc (.cells S.toArray 82) = W at *
  have hrW := Below.refl W.heap.size W
  clear hk hkW
  go_upto_region 8 with fail
  have hVs : (W.setCell ⟨L, 7, none⟩ (.int .i64 3)).heap.size = w.heap.size + 1 := by rw [← hWs]; exact Nat.le_antisymm (by simp) (by simp)
  have hRV : World.rangeAt (W.setCell ⟨L, 7, none⟩ (.int .i64 3)) w.heap.size 0 S := World.rangeAt_setCells_apart hRS L 7 [.int .i64 3] (.inl (by omega))
  have hKV : KeepLN L N W (W.setCell ⟨L, 7, none⟩ (.int .i64 3)) := ⟨by simp, fun k hk h1 _ => heap_put_other W L 7 [.int .i64 3] hk h1⟩
  generalize W.setCell ⟨L, 7, none⟩ (.int .i64 3) = V at *
  clear l0 l1 l2 l3 l7 lf hRS hrW
  obtain ⟨hkV, hbV⟩ := HCT.out
  clear HCT
  have m0 := hkV.look 0 _ rfl
  have m1 := hkV.look 1 _ rfl
  have m2 := hkV.look 2 _ rfl
  simp only [Nat.zero_add] at m0 m1 m2
  have hLV : L < V.heap.size := by omega
  replace m0 := fun w' (h : Below V.heap.size V w') => (h.cell (p := ⟨L, 0, none⟩) hLV).trans m0
  replace m1 := fun w' (h : Below V.heap.size V w') => (h.cell (p := ⟨L, 1, none⟩) hLV).trans m1
  replace m2 := fun w' (h : Below V.heap.size V w') => (h.cell (p := ⟨L, 2, none⟩) hLV).trans m2
  have hlS : ∀ w', Below V.heap.size V w' → (ldRow ⟨w.heap.size, 0, none⟩ 589).run Tryz.prog w' = .ok S.toArray w' := fun w' h => run_ldRow (range_below hRV h (by rw [hVs]; omega)) hSl
  replace hstp := fun w1 (h : Below V.heap.size V w1) => hstp w1 ((hkV.hat.below (h.mono (Nat.le_of_lt hLV))).more (Nat.le_trans (Nat.le_of_lt hLV) h.size))
  have HKV := Lib.hid hkV
  have HVS := Lib.hid hVs
  clear hkV hat1 hRV hVs hWs
  have hrV := Below.refl V.heap.size V
  go_region_held3 (fun w' => Below V.heap.size V w') (first | assumption | exact sbelow_drew (by assumption) | exact sbelow_alloc (by assumption) (Nat.le_refl _))
    (first | (go_at_call 43; refine (hstp _ (by assumption)).mono ?_; rintro e w2 ⟨rfl, hc2⟩; have hS2 : Below V.heap.size V w2 := below_step (by assumption) (Nat.le_refl _) hc2))
  have hk2 := HKV.out.below hS2
  have hN := HKV.out.nw
  have hKw2 : KeepLN L N w w2 := ((KeepLN.of hW0).trans hKV).trans (KeepLN.of hS2)
  have hBw2 : Below L w w2 := hbV.trans (hS2.mono (Nat.le_of_lt hLV))
  have hnt := rnote15_2 Ad c Jb Jo cj kp L N 3 w2 hk2
  clear hk2 HKV hlS m0 m1 m2 hstp hKV hbV HVS hrV hc2 hS2 hW0 hN hLV
  go_wp2_with fail
  refine hnt.mono ?_
  rintro e w3 ⟨rfl, hk3, hb3, ho3⟩
  clear hnt
  have HF := Lib.hid (And.intro hk3 (And.intro (hBw2.trans hb3) (hKw2.trans (keep_note hb3 ho3))))
  clear hk3 hb3 ho3 hBw2 hKw2
  go_wp2_with fail
  go_loopw [9] (fun k wr => k = .int .i64 0 ∧ wr = w3) (fun k _ => 0)
  case atStart => exact ⟨rfl, rfl⟩
  case round =>
    obtain ⟨rfl, rfl⟩ := hrel
    have p3 := HF.out.1.look 3 _ rfl
    simp only [Nat.zero_add] at p3
    have j2 := HF.out.1.joint 2 (by decide)
    go_wp2_with fail
    go_ret
    exact ⟨rfl, HF.out⟩

set_option maxRecDepth 100000 in
set_option maxHeartbeats 4000000 in
theorem rat15_1 (Ad : Option Addr) (c Jb Jo cj : Nat) (kp : Value) (L N : Nat) (w : World) (hk : LookOk w Ad c Jb Jo cj kp L N 1 [.bool true, .bool false, .bool false, .int .u8 1, .int .u64 5, .int .u64 0, .int .u64 5, .int .u64 5, .int .i64 0, .int .i64 0, .bool false, .bool false, .bool false, .int .u8 0, .int .u64 0, .int .u64 0, .int .u64 0, .int .u64 0, .int .i64 0, .int .i64 0, .bool false, .bool false, .bool false, .int .u8 0, .int .u64 0, .int .u64 0, .int .u64 0, .int .u64 0, .int .i64 0, .int .i64 0]) :
    Calls Tryz.prog 30 #[.pointer (some ⟨L, 0, none⟩), .int .i64 1, .agg (SVl [.int .u8 1, .int .u64 5, .int .u64 0, .int .u64 5, .int .u64 5, .int .i64 0, .int .i64 0]).toArray] w fun e w' => e = .returned (.bool true) ∧ AtOk Ad c Jb Jo cj kp L N w w' := by
  have hat1 : SAt w w.heap.size 5 Ad 3 (insnsV P3) := hk.hat.more (Nat.le_of_lt hk.ls)
  have q0 := heap1_0 w (.cells (SVl [.int .u8 1, .int .u64 5, .int .u64 0, .int .u64 5, .int .u64 5, .int .i64 0, .int .i64 0]).toArray 82)
  have hRS : World.rangeAt (w.alloc (.cells (SVl [.int .u8 1, .int .u64 5, .int .u64 0, .int .u64 5, .int .u64 5, .int .i64 0, .int .i64 0]).toArray 82)) w.heap.size 0 (SVl [.int .u8 1, .int .u64 5, .int .u64 0, .int .u64 5, .int .u64 5, .int .i64 0, .int .i64 0]) := range_of_block q0
  clear q0
  have hW0 : Below w.heap.size w (w.alloc (.cells (SVl [.int .u8 1, .int .u64 5, .int .u64 0, .int .u64 5, .int .u64 5, .int .i64 0, .int .i64 0]).toArray 82)) := below_boxes1 _ _
  have hWs : (w.alloc (.cells (SVl [.int .u8 1, .int .u64 5, .int .u64 0, .int .u64 5, .int .u64 5, .int .i64 0, .int .i64 0]).toArray 82)).heap.size = w.heap.size + 1 := by simp
  have hkW := hk.below hW0
  have hls := hk.ls
  have hln := hk.ln
  have l1 := hkW.look 1 _ rfl
  have l2 := hkW.look 2 _ rfl
  have l3 := hkW.look 3 _ rfl
  have l0 := hkW.look 0 _ rfl
  have l7 := hkW.look 7 _ rfl
  have lf := hkW.lookF
  simp only [Nat.zero_add] at l0 l1 l2 l3 l7
  have j1 := hkW.joint 1 (by decide)
  skip
  have HCT := Lib.hid (hk.count hW0 2)
  have hSl : (SVl [.int .u8 1, .int .u64 5, .int .u64 0, .int .u64 5, .int .u64 5, .int .i64 0, .int .i64 0]).length = 589 := SVl_len rfl
  have hstp := fun w1 (h : SAt w1 w1.heap.size 5 Ad 3 (insnsV P3)) => rStep14_1 Ad c w1 h
  generalize SVl [.int .u8 1, .int .u64 5, .int .u64 0, .int .u64 5, .int .u64 5, .int .i64 0, .int .i64 0] = S at *
  go_enter Tryz.func30, Tryz.ntmps30
  go_upto_region 1 with fail
  generalize w.alloc (.cells S.toArray 82) = W at *
  have hrW := Below.refl W.heap.size W
  clear hk hkW
  go_upto_region 8 with fail
  have hVs : (W.setCell ⟨L, 7, none⟩ (.int .i64 2)).heap.size = w.heap.size + 1 := by rw [← hWs]; exact Nat.le_antisymm (by simp) (by simp)
  have hRV : World.rangeAt (W.setCell ⟨L, 7, none⟩ (.int .i64 2)) w.heap.size 0 S := World.rangeAt_setCells_apart hRS L 7 [.int .i64 2] (.inl (by omega))
  have hKV : KeepLN L N W (W.setCell ⟨L, 7, none⟩ (.int .i64 2)) := ⟨by simp, fun k hk h1 _ => heap_put_other W L 7 [.int .i64 2] hk h1⟩
  generalize W.setCell ⟨L, 7, none⟩ (.int .i64 2) = V at *
  clear l0 l1 l2 l3 l7 lf hRS hrW
  obtain ⟨hkV, hbV⟩ := HCT.out
  clear HCT
  have m0 := hkV.look 0 _ rfl
  have m1 := hkV.look 1 _ rfl
  have m2 := hkV.look 2 _ rfl
  simp only [Nat.zero_add] at m0 m1 m2
  have hLV : L < V.heap.size := by omega
  replace m0 := fun w' (h : Below V.heap.size V w') => (h.cell (p := ⟨L, 0, none⟩) hLV).trans m0
  replace m1 := fun w' (h : Below V.heap.size V w') => (h.cell (p := ⟨L, 1, none⟩) hLV).trans m1
  replace m2 := fun w' (h : Below V.heap.size V w') => (h.cell (p := ⟨L, 2, none⟩) hLV).trans m2
  have hlS : ∀ w', Below V.heap.size V w' → (ldRow ⟨w.heap.size, 0, none⟩ 589).run Tryz.prog w' = .ok S.toArray w' := fun w' h => run_ldRow (range_below hRV h (by rw [hVs]; omega)) hSl
  replace hstp := fun w1 (h : Below V.heap.size V w1) => hstp w1 ((hkV.hat.below (h.mono (Nat.le_of_lt hLV))).more (Nat.le_trans (Nat.le_of_lt hLV) h.size))
  have HKV := Lib.hid hkV
  have HVS := Lib.hid hVs
  clear hkV hat1 hRV hVs hWs
  have hrV := Below.refl V.heap.size V
  go_region_held3 (fun w' => Below V.heap.size V w') (first | assumption | exact sbelow_drew (by assumption) | exact sbelow_alloc (by assumption) (Nat.le_refl _))
    (first | (go_at_call 43; refine (hstp _ (by assumption)).mono ?_; rintro e w2 ⟨b, rfl, hb0, hr2, hc2⟩; have hS2 : Below V.heap.size V w2 := below_step (by assumption) (Nat.le_refl _) hc2))
  have hk2 := HKV.out.below hS2
  have hN := HKV.out.nw
  have hKw2 : KeepLN L N w w2 := ((KeepLN.of hW0).trans hKV).trans (KeepLN.of hS2)
  have hBw2 : Below L w w2 := hbV.trans (hS2.mono (Nat.le_of_lt hLV))
  have hbw : b < w2.heap.size := World.block_lt_of_cell? w2 _ (hr2 0 _ rfl)
  have hb1 : V.heap.size ≤ b := hb0
  have hbN : b ≠ N := by omega
  have hbL : b ≠ L := by omega
  clear hb1
  have hnt := rnote15_1 Ad c Jb Jo cj kp L N 2 w2 hk2 b hbw hr2
  clear hk2 HKV hlS m0 m1 m2 hstp hKV hbV HVS hrV hc2 hS2 hW0 hN hLV hb0
  go_wp2_with fail
  refine hnt.mono ?_
  rintro e w3 ⟨rfl, hk3, hb3, ho3⟩
  clear hnt
  have hK3 : KeepLN L N w2 w3 := keep_note hb3 ho3
  have hB3 := hBw2.trans hb3
  have hKw3 := hKw2.trans hK3
  have hr3 : w3.rangeAt b 0 (.int .i64 2 :: SVl [.int .u8 1, .int .u64 7, .int .u64 0, .int .u64 7, .int .u64 7, .int .i64 0, .int .i64 0]) := fun k u hu => by rw [hK3.cell hbw hbL hbN]; exact hr2 k u hu
  have hbw3 : b < w3.heap.size := Nat.lt_of_lt_of_le hbw hK3.1
  clear hr2 hbw hK3 hb3 ho3 hBw2 hKw2
  have g0 : ∀ w', KeepLN L N w3 w' → w'.cell? ⟨b, 0, none⟩ = some (.int .i64 2) := fun w' h => by have := hr3 0 _ rfl; rw [h.cell hbw3 hbL hbN]; exact this
  have hlW : ∀ w', KeepLN L N w3 w' → (ldRow ⟨b, 1, none⟩ 589).run Tryz.prog w' = .ok (SVl [.int .u8 1, .int .u64 7, .int .u64 0, .int .u64 7, .int .u64 7, .int .i64 0, .int .i64 0]).toArray w' := fun w' h => run_ldRow (fun k u hu => by rw [h.cell hbw3 hbL hbN]; have := hr3 (k + 1) u (by simpa using hu); rwa [show 0 + (k + 1) = 1 + k by omega] at this) (SVl_len rfl)
  have hat3 := rat15_2 Ad c Jb Jo cj kp L N w3.drew (hk3.below (Below.drew (Below.refl _ _)))
  generalize SVl [.int .u8 1, .int .u64 7, .int .u64 0, .int .u64 7, .int .u64 7, .int .i64 0, .int .i64 0] = S1 at *
  clear hr3
  go_wp2_with fail
  go_loopw [9] (fun k wr => (k = .int .i64 0 ∧ wr = w3) ∨ (k = .int .i64 1 ∧ AtOk Ad c Jb Jo cj kp L N w wr)) (fun k _ => 1 - (intOf k).toNat)
  case atStart => exact .inl ⟨rfl, rfl⟩
  case round =>
    rcases hrel with ⟨rfl, rfl⟩ | ⟨rfl, hA⟩
    · go_upto_region 17 with fail
      have hrK : KeepLN L N wr wr := KeepLN.refl
      go_region_held3 (fun w' => KeepLN L N wr w') (first | assumption | exact KeepLN.drew (by assumption))
        (first | (go_at_call 30; refine hat3.mono ?_; rintro e w5 ⟨rfl, hA5⟩; have hS5 : KeepLN L N wr w5 := hA5.2.2))
      have HA5 := Lib.hid (show AtOk Ad c Jb Jo cj kp L N w w5 from ⟨hA5.1, hB3.trans ((Below.drew (Below.refl _ _)).trans hA5.2.1), hKw3.trans hA5.2.2⟩)
      clear hA5 hS5 hB3 hKw3 hk3
      go_wp2_with fail
      go_roundw
      case rel => exact .inr ⟨by go_num, HA5.out⟩
      case measure => simp [intOf]
    · have p3 := hA.1.look 3 _ rfl
      simp only [Nat.zero_add] at p3
      have j1 := hA.1.joint 1 (by decide)
      have HA := Lib.hid hA
      clear hA
      go_wp2_with fail
      go_ret
      exact ⟨rfl, HA.out⟩

set_option maxRecDepth 100000 in
set_option maxHeartbeats 4000000 in
theorem rat15_0 (Ad : Option Addr) (c Jb Jo cj : Nat) (kp : Value) (L N : Nat) (w : World) (hk : LookOk w Ad c Jb Jo cj kp L N 0 [.bool false, .bool false, .bool false, .int .u8 0, .int .u64 0, .int .u64 0, .int .u64 0, .int .u64 0, .int .i64 0, .int .i64 0, .bool false, .bool false, .bool false, .int .u8 0, .int .u64 0, .int .u64 0, .int .u64 0, .int .u64 0, .int .i64 0, .int .i64 0, .bool false, .bool false, .bool false, .int .u8 0, .int .u64 0, .int .u64 0, .int .u64 0, .int .u64 0, .int .i64 0, .int .i64 0]) :
    Calls Tryz.prog 30 #[.pointer (some ⟨L, 0, none⟩), .int .i64 0, .agg (SVl [.int .u8 0, .int .u64 0, .int .u64 0, .int .u64 0, .int .u64 0, .int .i64 0, .int .i64 0]).toArray] w fun e w' => e = .returned (.bool true) ∧ AtOk Ad c Jb Jo cj kp L N w w' := by
  have hat1 : SAt w w.heap.size 5 Ad 3 (insnsV P3) := hk.hat.more (Nat.le_of_lt hk.ls)
  have q0 := heap1_0 w (.cells (SVl [.int .u8 0, .int .u64 0, .int .u64 0, .int .u64 0, .int .u64 0, .int .i64 0, .int .i64 0]).toArray 82)
  have hRS : World.rangeAt (w.alloc (.cells (SVl [.int .u8 0, .int .u64 0, .int .u64 0, .int .u64 0, .int .u64 0, .int .i64 0, .int .i64 0]).toArray 82)) w.heap.size 0 (SVl [.int .u8 0, .int .u64 0, .int .u64 0, .int .u64 0, .int .u64 0, .int .i64 0, .int .i64 0]) := range_of_block q0
  clear q0
  have hW0 : Below w.heap.size w (w.alloc (.cells (SVl [.int .u8 0, .int .u64 0, .int .u64 0, .int .u64 0, .int .u64 0, .int .i64 0, .int .i64 0]).toArray 82)) := below_boxes1 _ _
  have hWs : (w.alloc (.cells (SVl [.int .u8 0, .int .u64 0, .int .u64 0, .int .u64 0, .int .u64 0, .int .i64 0, .int .i64 0]).toArray 82)).heap.size = w.heap.size + 1 := by simp
  have hkW := hk.below hW0
  have hls := hk.ls
  have hln := hk.ln
  have l1 := hkW.look 1 _ rfl
  have l2 := hkW.look 2 _ rfl
  have l3 := hkW.look 3 _ rfl
  have l0 := hkW.look 0 _ rfl
  have l7 := hkW.look 7 _ rfl
  have lf := hkW.lookF
  simp only [Nat.zero_add] at l0 l1 l2 l3 l7
  have j0 := hkW.joint 0 (by decide)
  try simp only [Nat.add_zero] at j0
  have HCT := Lib.hid (hk.count hW0 1)
  have hSl : (SVl [.int .u8 0, .int .u64 0, .int .u64 0, .int .u64 0, .int .u64 0, .int .i64 0, .int .i64 0]).length = 589 := SVl_len rfl
  have hstp := fun w1 (h : SAt w1 w1.heap.size 5 Ad 3 (insnsV P3)) => rStep14_0 Ad c w1 h
  generalize SVl [.int .u8 0, .int .u64 0, .int .u64 0, .int .u64 0, .int .u64 0, .int .i64 0, .int .i64 0] = S at *
  go_enter Tryz.func30, Tryz.ntmps30
  go_upto_region 1 with fail
  generalize w.alloc (.cells S.toArray 82) = W at *
  have hrW := Below.refl W.heap.size W
  clear hk hkW
  go_upto_region 8 with fail
  have hVs : (W.setCell ⟨L, 7, none⟩ (.int .i64 1)).heap.size = w.heap.size + 1 := by rw [← hWs]; exact Nat.le_antisymm (by simp) (by simp)
  have hRV : World.rangeAt (W.setCell ⟨L, 7, none⟩ (.int .i64 1)) w.heap.size 0 S := World.rangeAt_setCells_apart hRS L 7 [.int .i64 1] (.inl (by omega))
  have hKV : KeepLN L N W (W.setCell ⟨L, 7, none⟩ (.int .i64 1)) := ⟨by simp, fun k hk h1 _ => heap_put_other W L 7 [.int .i64 1] hk h1⟩
  generalize W.setCell ⟨L, 7, none⟩ (.int .i64 1) = V at *
  clear l0 l1 l2 l3 l7 lf hRS hrW
  obtain ⟨hkV, hbV⟩ := HCT.out
  clear HCT
  have m0 := hkV.look 0 _ rfl
  have m1 := hkV.look 1 _ rfl
  have m2 := hkV.look 2 _ rfl
  simp only [Nat.zero_add] at m0 m1 m2
  have hLV : L < V.heap.size := by omega
  replace m0 := fun w' (h : Below V.heap.size V w') => (h.cell (p := ⟨L, 0, none⟩) hLV).trans m0
  replace m1 := fun w' (h : Below V.heap.size V w') => (h.cell (p := ⟨L, 1, none⟩) hLV).trans m1
  replace m2 := fun w' (h : Below V.heap.size V w') => (h.cell (p := ⟨L, 2, none⟩) hLV).trans m2
  have hlS : ∀ w', Below V.heap.size V w' → (ldRow ⟨w.heap.size, 0, none⟩ 589).run Tryz.prog w' = .ok S.toArray w' := fun w' h => run_ldRow (range_below hRV h (by rw [hVs]; omega)) hSl
  replace hstp := fun w1 (h : Below V.heap.size V w1) => hstp w1 ((hkV.hat.below (h.mono (Nat.le_of_lt hLV))).more (Nat.le_trans (Nat.le_of_lt hLV) h.size))
  have HKV := Lib.hid hkV
  have HVS := Lib.hid hVs
  clear hkV hat1 hRV hVs hWs
  have hrV := Below.refl V.heap.size V
  go_region_held3 (fun w' => Below V.heap.size V w') (first | assumption | exact sbelow_drew (by assumption) | exact sbelow_alloc (by assumption) (Nat.le_refl _))
    (first | (go_at_call 43; refine (hstp _ (by assumption)).mono ?_; rintro e w2 ⟨b, rfl, hb0, hr2, hc2⟩; have hS2 : Below V.heap.size V w2 := below_step (by assumption) (Nat.le_refl _) hc2))
  have hk2 := HKV.out.below hS2
  have hN := HKV.out.nw
  have hKw2 : KeepLN L N w w2 := ((KeepLN.of hW0).trans hKV).trans (KeepLN.of hS2)
  have hBw2 : Below L w w2 := hbV.trans (hS2.mono (Nat.le_of_lt hLV))
  have hbw : b < w2.heap.size := World.block_lt_of_cell? w2 _ (hr2 0 _ rfl)
  have hb1 : V.heap.size ≤ b := hb0
  have hbN : b ≠ N := by omega
  have hbL : b ≠ L := by omega
  clear hb1
  have hnt := rnote15_0 Ad c Jb Jo cj kp L N 1 w2 hk2 b hbw hr2
  clear hk2 HKV hlS m0 m1 m2 hstp hKV hbV HVS hrV hc2 hS2 hW0 hN hLV hb0
  go_wp2_with fail
  refine hnt.mono ?_
  rintro e w3 ⟨rfl, hk3, hb3, ho3⟩
  clear hnt
  have hK3 : KeepLN L N w2 w3 := keep_note hb3 ho3
  have hB3 := hBw2.trans hb3
  have hKw3 := hKw2.trans hK3
  have hr3 : w3.rangeAt b 0 (.int .i64 1 :: SVl [.int .u8 1, .int .u64 5, .int .u64 0, .int .u64 5, .int .u64 5, .int .i64 0, .int .i64 0]) := fun k u hu => by rw [hK3.cell hbw hbL hbN]; exact hr2 k u hu
  have hbw3 : b < w3.heap.size := Nat.lt_of_lt_of_le hbw hK3.1
  clear hr2 hbw hK3 hb3 ho3 hBw2 hKw2
  have g0 : ∀ w', KeepLN L N w3 w' → w'.cell? ⟨b, 0, none⟩ = some (.int .i64 1) := fun w' h => by have := hr3 0 _ rfl; rw [h.cell hbw3 hbL hbN]; exact this
  have hlW : ∀ w', KeepLN L N w3 w' → (ldRow ⟨b, 1, none⟩ 589).run Tryz.prog w' = .ok (SVl [.int .u8 1, .int .u64 5, .int .u64 0, .int .u64 5, .int .u64 5, .int .i64 0, .int .i64 0]).toArray w' := fun w' h => run_ldRow (fun k u hu => by rw [h.cell hbw3 hbL hbN]; have := hr3 (k + 1) u (by simpa using hu); rwa [show 0 + (k + 1) = 1 + k by omega] at this) (SVl_len rfl)
  have hat3 := rat15_1 Ad c Jb Jo cj kp L N w3.drew (hk3.below (Below.drew (Below.refl _ _)))
  generalize SVl [.int .u8 1, .int .u64 5, .int .u64 0, .int .u64 5, .int .u64 5, .int .i64 0, .int .i64 0] = S1 at *
  clear hr3
  go_wp2_with fail
  go_loopw [9] (fun k wr => (k = .int .i64 0 ∧ wr = w3) ∨ (k = .int .i64 1 ∧ AtOk Ad c Jb Jo cj kp L N w wr)) (fun k _ => 1 - (intOf k).toNat)
  case atStart => exact .inl ⟨rfl, rfl⟩
  case round =>
    rcases hrel with ⟨rfl, rfl⟩ | ⟨rfl, hA⟩
    · go_upto_region 17 with fail
      have hrK : KeepLN L N wr wr := KeepLN.refl
      go_region_held3 (fun w' => KeepLN L N wr w') (first | assumption | exact KeepLN.drew (by assumption))
        (first | (go_at_call 30; refine hat3.mono ?_; rintro e w5 ⟨rfl, hA5⟩; have hS5 : KeepLN L N wr w5 := hA5.2.2))
      have HA5 := Lib.hid (show AtOk Ad c Jb Jo cj kp L N w w5 from ⟨hA5.1, hB3.trans ((Below.drew (Below.refl _ _)).trans hA5.2.1), hKw3.trans hA5.2.2⟩)
      clear hA5 hS5 hB3 hKw3 hk3
      go_wp2_with fail
      go_roundw
      case rel => exact .inr ⟨by go_num, HA5.out⟩
      case measure => simp [intOf]
    · have p3 := hA.1.look 3 _ rfl
      simp only [Nat.zero_add] at p3
      have j0 := hA.1.joint 0 (by decide)
      simp only [Nat.add_zero] at j0
      have HA := Lib.hid hA
      clear hA
      go_wp2_with fail
      go_ret
      exact ⟨rfl, HA.out⟩

end Go.Proofs.YtbfgffmebniooaaGreat
end

section
/- The joints of the closed run; what is made of three. No statement is proved here. -/
namespace Go.Proofs.YtbfgffmebniooaaGreat
open Go.RowKit
set_option linter.unusedSimpArgs false
set_option linter.unusedVariables false
set_option linter.unnecessarySimpa false
theorem infoJ4 : (Tryz.prog.info? 4).map (fun i => (i.zero, i.size, i.bytes)) = some (some (.bool false), 1, 1) := by kernel_rfl
theorem info95' : (Tryz.prog.info? 95).map (fun i => (i.zero, i.size, i.bytes)) = some (some (.slice none 0 0), 1, 24) := by kernel_rfl
theorem info43' : (Tryz.prog.info? 43).map (fun i => (i.zero, i.size, i.bytes)) = some (some (.agg #[.bool false, .bool false, .bool false, .int .u8 0, .int .u64 0, .int .u64 0, .int .u64 0, .int .u64 0, .int .i64 0, .int .i64 0]), 10, 64) := by kernel_rfl
theorem make33 (w : World) : (Instr.makeSlice 33 (.int .i64 3) (.int .i64 3)).run Tryz.prog w = .ok (.slice (some ⟨w.heap.size, 0, none⟩) 3 3) (w.alloc (.cells #[.bool false, .bool false, .bool false] 4)) := by
  obtain ⟨i, hi, hz, hs, hb⟩ := info_parts infoJ4
  have hr := run_make (P := Tryz.prog) w 33 4 i _ Tryz.underlying33 hi hz .i64 .i64 3 3 (by omega) (Int.le_refl _) (by rw [hb]; omega) (by omega)
  rw [hs, show madeCells (Value.bool false).cells (Int.toNat 3 * 1) = #[.bool false, .bool false, .bool false] by kernel_rfl] at hr
  exact hr
theorem make73 (w : World) : (Instr.makeSlice 73 (.int .i64 3) (.int .i64 3)).run Tryz.prog w = .ok (.slice (some ⟨w.heap.size, 0, none⟩) 3 3) (w.alloc (.cells #[.slice none 0 0, .slice none 0 0, .slice none 0 0] 95)) := by
  obtain ⟨i, hi, hz, hs, hb⟩ := info_parts info95'
  have hr := run_make (P := Tryz.prog) w 73 95 i _ Tryz.underlying73 hi hz .i64 .i64 3 3 (by omega) (Int.le_refl _) (by rw [hb]; omega) (by omega)
  rw [hs, show madeCells (Value.slice none 0 0).cells (Int.toNat 3 * 1) = #[.slice none 0 0, .slice none 0 0, .slice none 0 0] by kernel_rfl] at hr
  exact hr
theorem make23 (w : World) : (Instr.makeSlice 23 (.int .i64 3) (.int .i64 3)).run Tryz.prog w = .ok (.slice (some ⟨w.heap.size, 0, none⟩) 3 3) (w.alloc (.cells #[.bool false, .bool false, .bool false, .int .u8 0, .int .u64 0, .int .u64 0, .int .u64 0, .int .u64 0, .int .i64 0, .int .i64 0, .bool false, .bool false, .bool false, .int .u8 0, .int .u64 0, .int .u64 0, .int .u64 0, .int .u64 0, .int .i64 0, .int .i64 0, .bool false, .bool false, .bool false, .int .u8 0, .int .u64 0, .int .u64 0, .int .u64 0, .int .u64 0, .int .i64 0, .int .i64 0] 43)) := by
  obtain ⟨i, hi, hz, hs, hb⟩ := info_parts info43'
  have hr := run_make (P := Tryz.prog) w 23 43 i _ Tryz.underlying23 hi hz .i64 .i64 3 3 (by omega) (Int.le_refl _) (by rw [hb]; omega) (by omega)
  rw [hs, show madeCells (Value.agg #[.bool false, .bool false, .bool false, .int .u8 0, .int .u64 0, .int .u64 0, .int .u64 0, .int .u64 0, .int .i64 0, .int .i64 0]).cells (Int.toNat 3 * 10) = #[.bool false, .bool false, .bool false, .int .u8 0, .int .u64 0, .int .u64 0, .int .u64 0, .int .u64 0, .int .i64 0, .int .i64 0, .bool false, .bool false, .bool false, .int .u8 0, .int .u64 0, .int .u64 0, .int .u64 0, .int .u64 0, .int .i64 0, .int .i64 0, .bool false, .bool false, .bool false, .int .u8 0, .int .u64 0, .int .u64 0, .int .u64 0, .int .u64 0, .int .i64 0, .int .i64 0] by kernel_rfl] at hr
  exact hr
set_option maxRecDepth 100000 in
set_option maxHeartbeats 4000000 in
theorem rjoints15 (Ad : Option Addr) (c : Nat) (w : World) (hat : SAt w w.heap.size 5 Ad 3 (insnsV P3)) :
    Calls Tryz.prog 29 #[.slice Ad 3 c] w fun e w' => (∃ b, e = .returned (.slice (some ⟨b, 0, none⟩) 3 3) ∧ w.heap.size ≤ b ∧ b < w'.heap.size ∧ ∀ k, k < 3 → w'.cell? ⟨b, 0 + k, none⟩ = some (.bool false)) ∧ Below w.heap.size w w' := by
  have hmk := make33 w
  have hsa := fun (w1 : World) (hb : Below w.heap.size w w1) => rstarts_P3 Ad c w1 ((hat.below hb).more hb.size)
  have ht0 := fun (w1 : World) (hb : Below w.heap.size w w1) => rtarget_P3_0 Ad c w1 ((hat.below hb).more hb.size)
  have ht1 := fun (w1 : World) (hb : Below w.heap.size w w1) => rtarget_P3_1 Ad c w1 ((hat.below hb).more hb.size)
  have ht2 := fun (w1 : World) (hb : Below w.heap.size w w1) => rtarget_P3_2 Ad c w1 ((hat.below hb).more hb.size)
  have hW0 : Below w.heap.size w (w.alloc (.cells #[.bool false, .bool false, .bool false] 4)) := below_boxes1 _ _
  have hWr := range_of_block (xs := [.bool false, .bool false, .bool false]) (heap1_0 w (.cells #[.bool false, .bool false, .bool false] 4))
  have hWs : w.heap.size < (w.alloc (.cells #[.bool false, .bool false, .bool false] 4)).heap.size := by simp
  go_enter Tryz.func29, Tryz.ntmps29
  go_upto_region 2 with fail
  generalize w.alloc (.cells #[.bool false, .bool false, .bool false] 4) = W at *
  have HWR := Lib.hid hWr
  have HWS := Lib.hid hWs
  clear hmk hWr hWs
  go_wp2_with fail
  refine (hsa _ hW0).mono ?_
  rintro e w1 ⟨⟨sb, so, sc, rfl, hfl⟩, hc1⟩
  clear hfl
  have hb1 := hW0.trans (hc1.mono hW0.size)
  have HB := Lib.hid hc1
  clear hc1
  go_wp2_with fail
  go_loopw [5] (fun k wr => ∃ j : Nat, j ≤ 3 ∧ k = .int .i64 j ∧ Below w1.heap.size w1 wr) (fun k _ => 3 - (intOf k).toNat)
  case atStart => exact ⟨0, by omega, rfl, Below.refl _ _⟩
  case round =>
    obtain ⟨j, hj, rfl, hb⟩ := hrel
    have hbw := hb1.trans (hb.mono hb1.size)
    have hcs : j = 0 ∨ j = 1 ∨ j = 2 ∨ j = 3 := by omega
    rcases hcs with rfl | rfl | rfl | rfl
    · go_wp2_with fail
      refine (ht0 _ hbw).mono ?_
      rintro e w2 ⟨rfl, hc2⟩
      have hb2 := hb.trans (hc2.mono hb.size)
      clear hc2
      go_wp2_with fail
      go_roundw
      case rel => exact ⟨1, by omega, by go_num, hb2⟩
      case measure => simp [intOf]
    · go_wp2_with fail
      refine (ht1 _ hbw).mono ?_
      rintro e w2 ⟨rfl, hc2⟩
      have hb2 := hb.trans (hc2.mono hb.size)
      clear hc2
      go_wp2_with fail
      go_roundw
      case rel => exact ⟨2, by omega, by go_num, hb2⟩
      case measure => simp [intOf]
    · go_wp2_with fail
      refine (ht2 _ hbw).mono ?_
      rintro e w2 ⟨rfl, hc2⟩
      have hb2 := hb.trans (hc2.mono hb.size)
      clear hc2
      go_wp2_with fail
      go_roundw
      case rel => exact ⟨3, by omega, by go_num, hb2⟩
      case measure => simp [intOf]
    · go_wp2_with fail
      go_ret
      have hWw : Below W.heap.size W wr := HB.out.trans (hb.mono HB.out.size)
      exact ⟨⟨w.heap.size, rfl, Nat.le_refl _, Nat.lt_of_lt_of_le HWS.out hWw.size, fun k hk => by
        have h2 := range_below HWR.out hWw HWS.out
        have hk3 : k = 0 ∨ k = 1 ∨ k = 2 := by omega
        rcases hk3 with rfl | rfl | rfl <;> exact h2 _ _ rfl⟩, hbw⟩

end Go.Proofs.YtbfgffmebniooaaGreat
end

section
/- The reference's Program on the program of the closed run. No statement is proved here. -/
namespace Go.Proofs.YtbfgffmebniooaaGreat
open Go.RowKit
set_option linter.unusedSimpArgs false
set_option linter.unusedVariables false
set_option linter.unnecessarySimpa false
theorem size_put (w : World) (g o : Nat) (vs : List Value) : (w.setCells g o vs).heap.size = w.heap.size := by
  induction vs generalizing w o with
  | nil => rfl
  | cons v r ih => rw [World.setCells, ih]; simp
theorem info55 : (Tryz.prog.info? 55).map (·.size) = some 4 := by kernel_rfl
theorem look_made {V : World} {Ad : Option Addr} {c jb L : Nat} {kp : Value} (hVs : V.heap.size = L + 1) (hVr : V.rangeAt L 0 [.slice Ad 3 c, .slice none 0 0, .int .i64 0, .slice (some ⟨jb, 0, none⟩) 3 3, kp, .int .i64 0, .int .i64 0, .int .i64 0, .slice none 0 0]) (hVf : ∀ k, V.frozen? ⟨L, k, none⟩ = false)
    (hJ : ∀ k, k < 3 → V.cell? ⟨jb, 0 + k, none⟩ = some (.bool false)) (hjL : jb < L) (hat : SAt V L 5 Ad 3 (insnsV P3)) : LookOk ((V.setCell ⟨L, 8, none⟩ (.slice (some ⟨L + 1, 0, none⟩) 3 3)).alloc (.cells #[.bool false, .bool false, .bool false, .int .u8 0, .int .u64 0, .int .u64 0, .int .u64 0, .int .u64 0, .int .i64 0, .int .i64 0, .bool false, .bool false, .bool false, .int .u8 0, .int .u64 0, .int .u64 0, .int .u64 0, .int .u64 0, .int .i64 0, .int .i64 0, .bool false, .bool false, .bool false, .int .u8 0, .int .u64 0, .int .u64 0, .int .u64 0, .int .u64 0, .int .i64 0, .int .i64 0] 43)) Ad c jb 0 3 kp L (L + 1) 0 [.bool false, .bool false, .bool false, .int .u8 0, .int .u64 0, .int .u64 0, .int .u64 0, .int .u64 0, .int .i64 0, .int .i64 0, .bool false, .bool false, .bool false, .int .u8 0, .int .u64 0, .int .u64 0, .int .u64 0, .int .u64 0, .int .i64 0, .int .i64 0, .bool false, .bool false, .bool false, .int .u8 0, .int .u64 0, .int .u64 0, .int .u64 0, .int .u64 0, .int .i64 0, .int .i64 0] := by
  have e1 : (V.setCell ⟨L, 8, none⟩ (.slice (some ⟨L + 1, 0, none⟩) 3 3)).heap.size = L + 1 := (size_put V L 8 [.slice (some ⟨L + 1, 0, none⟩) 3 3]).trans hVs
  have b1 : Below L V (V.setCell ⟨L, 8, none⟩ (.slice (some ⟨L + 1, 0, none⟩) 3 3)) := below_setCells L (Nat.le_refl _) [.slice (some ⟨L + 1, 0, none⟩) 3 3] 8 (Below.refl L V)
  have b2 : Below L V ((V.setCell ⟨L, 8, none⟩ (.slice (some ⟨L + 1, 0, none⟩) 3 3)).alloc (.cells #[.bool false, .bool false, .bool false, .int .u8 0, .int .u64 0, .int .u64 0, .int .u64 0, .int .u64 0, .int .i64 0, .int .i64 0, .bool false, .bool false, .bool false, .int .u8 0, .int .u64 0, .int .u64 0, .int .u64 0, .int .u64 0, .int .i64 0, .int .i64 0, .bool false, .bool false, .bool false, .int .u8 0, .int .u64 0, .int .u64 0, .int .u64 0, .int .u64 0, .int .i64 0, .int .i64 0] 43)) := b1.alloc (by omega) _
  have r1 : World.rangeAt (V.setCell ⟨L, 8, none⟩ (.slice (some ⟨L + 1, 0, none⟩) 3 3)) L 0 (lookL Ad c jb 0 3 kp (L + 1) 0) := range_put (A := [.slice Ad 3 c, .slice none 0 0, .int .i64 0, .slice (some ⟨jb, 0, none⟩) 3 3, kp, .int .i64 0, .int .i64 0, .int .i64 0]) (B := [.slice none 0 0]) (C := []) (vs := [.slice (some ⟨L + 1, 0, none⟩) 3 3]) hVr rfl
  have f1 : ∀ k, World.frozen? (V.setCell ⟨L, 8, none⟩ (.slice (some ⟨L + 1, 0, none⟩) 3 3)) ⟨L, k, none⟩ = false := fun k => (World.frozen?_setCells L [.slice (some ⟨L + 1, 0, none⟩) 3 3] 8 _ _).trans (hVf k)
  have h1 := heap1_0 (V.setCell ⟨L, 8, none⟩ (.slice (some ⟨L + 1, 0, none⟩) 3 3)) (.cells #[.bool false, .bool false, .bool false, .int .u8 0, .int .u64 0, .int .u64 0, .int .u64 0, .int .u64 0, .int .i64 0, .int .i64 0, .bool false, .bool false, .bool false, .int .u8 0, .int .u64 0, .int .u64 0, .int .u64 0, .int .u64 0, .int .i64 0, .int .i64 0, .bool false, .bool false, .bool false, .int .u8 0, .int .u64 0, .int .u64 0, .int .u64 0, .int .u64 0, .int .i64 0, .int .i64 0] 43)
  rw [e1] at h1
  have f2 : ∀ k, World.frozen? ((V.setCell ⟨L, 8, none⟩ (.slice (some ⟨L + 1, 0, none⟩) 3 3)).alloc (.cells #[.bool false, .bool false, .bool false, .int .u8 0, .int .u64 0, .int .u64 0, .int .u64 0, .int .u64 0, .int .i64 0, .int .i64 0, .bool false, .bool false, .bool false, .int .u8 0, .int .u64 0, .int .u64 0, .int .u64 0, .int .u64 0, .int .i64 0, .int .i64 0, .bool false, .bool false, .bool false, .int .u8 0, .int .u64 0, .int .u64 0, .int .u64 0, .int .u64 0, .int .i64 0, .int .i64 0] 43)) ⟨L, k, none⟩ = false := fun k => (((Below.refl (V.setCell ⟨L, 8, none⟩ (.slice (some ⟨L + 1, 0, none⟩) 3 3)).heap.size (V.setCell ⟨L, 8, none⟩ (.slice (some ⟨L + 1, 0, none⟩) 3 3))).alloc (Nat.le_refl _) _).frozen (p := ⟨L, k, none⟩) (by show L < _; omega)).trans (f1 k)
  have f3 : ∀ k, World.frozen? ((V.setCell ⟨L, 8, none⟩ (.slice (some ⟨L + 1, 0, none⟩) 3 3)).alloc (.cells #[.bool false, .bool false, .bool false, .int .u8 0, .int .u64 0, .int .u64 0, .int .u64 0, .int .u64 0, .int .i64 0, .int .i64 0, .bool false, .bool false, .bool false, .int .u8 0, .int .u64 0, .int .u64 0, .int .u64 0, .int .u64 0, .int .i64 0, .int .i64 0, .bool false, .bool false, .bool false, .int .u8 0, .int .u64 0, .int .u64 0, .int .u64 0, .int .u64 0, .int .i64 0, .int .i64 0] 43)) ⟨L + 1, k, none⟩ = false := fun k => boxt h1 k _ (Below.refl _ _)
  exact {
    ln := by omega
    nw := by have := (Array.getElem?_eq_some_iff.1 h1).1; exact this
    look := World.rangeAt_alloc r1 _
    lookF := f2
    nts := range_of_block h1
    ntsF := f3
    hat := hat.below b2
    jlt := hjL
    joint := fun k hk => (b2.cell (p := ⟨jb, 0 + k, none⟩) hjL).trans (hJ k hk) }
set_option maxRecDepth 100000 in
set_option maxHeartbeats 4000000 in
theorem rprogram15 (Ad : Option Addr) (c : Nat) (w : World) (hat : SAt w w.heap.size 5 Ad 3 (insnsV P3)) :
    Calls Tryz.prog 16 #[.slice Ad 3 c, .agg #[.slice none 0 0, .int .i64 0]] w fun e w' => ∃ N, e = .returned (.agg #[.int .i64 0, .int .i64 0, .int .i64 3, .slice (some ⟨N, 0, none⟩) 3 3]) ∧ w.heap.size ≤ N ∧ N < w'.heap.size ∧ w'.rangeAt N 0 [.bool true, .bool false, .bool false, .int .u8 1, .int .u64 5, .int .u64 0, .int .u64 5, .int .u64 5, .int .i64 0, .int .i64 0, .bool true, .bool false, .bool false, .int .u8 1, .int .u64 7, .int .u64 0, .int .u64 7, .int .u64 7, .int .i64 0, .int .i64 0, .bool true, .bool false, .bool false, .int .u8 0, .int .u64 0, .int .u64 0, .int .u64 0, .int .u64 0, .int .i64 0, .int .i64 0] ∧ Below w.heap.size w w' := by
  have hck := fun (w1 : World) (hb : Below w.heap.size w w1) => rcheck_P3 Ad c w1 ((hat.below hb).more hb.size)
  have hjo := fun (w1 : World) (hb : Below w.heap.size w w1) => rjoints15 Ad c w1 ((hat.below hb).more hb.size)
  have hm73 := make73
  have q0 : ((w.alloc (.cells #[.slice none 0 0, .int .i64 0] 59)).alloc (.cells #[.int .i64 0, .int .i64 0, .int .i64 0, .slice none 0 0] 55)).heap[w.heap.size]? = some (.cells #[.slice none 0 0, .int .i64 0] 59) := heap2_0 _ _ _
  have q1 : ((w.alloc (.cells #[.slice none 0 0, .int .i64 0] 59)).alloc (.cells #[.int .i64 0, .int .i64 0, .int .i64 0, .slice none 0 0] 55)).heap[w.heap.size + 1]? = some (.cells #[.int .i64 0, .int .i64 0, .int .i64 0, .slice none 0 0] 55) := heap2_1 _ _ _
  have e0 := boxc (k := 0) (u := .slice none 0 0) q0 rfl
  have e1 := boxc (k := 1) (u := .int .i64 0) q0 rfl
  have v0 := boxc (k := 0) (u := .int .i64 0) q1 rfl
  have v1 := boxc (k := 1) (u := .int .i64 0) q1 rfl
  have v2 := boxc (k := 2) (u := .int .i64 0) q1 rfl
  have v3 := boxc (k := 3) (u := .slice none 0 0) q1 rfl
  have tv := boxt q1
  clear q0 q1
  have hW0 : Below w.heap.size w ((w.alloc (.cells #[.slice none 0 0, .int .i64 0] 59)).alloc (.cells #[.int .i64 0, .int .i64 0, .int .i64 0, .slice none 0 0] 55)) := below_boxes2 _ _ _
  have hWs : ((w.alloc (.cells #[.slice none 0 0, .int .i64 0] 59)).alloc (.cells #[.int .i64 0, .int .i64 0, .int .i64 0, .slice none 0 0] 55)).heap.size = w.heap.size + 2 := by simp
  have hrf := Below.refl ((w.alloc (.cells #[.slice none 0 0, .int .i64 0] 59)).alloc (.cells #[.int .i64 0, .int .i64 0, .int .i64 0, .slice none 0 0] 55)).heap.size ((w.alloc (.cells #[.slice none 0 0, .int .i64 0] 59)).alloc (.cells #[.int .i64 0, .int .i64 0, .int .i64 0, .slice none 0 0] 55))
  go_enter Tryz.func16, Tryz.ntmps16
  go_upto_region 1 with fail
  generalize (w.alloc (.cells #[.slice none 0 0, .int .i64 0] 59)).alloc (.cells #[.int .i64 0, .int .i64 0, .int .i64 0, .slice none 0 0] 55) = W at *
  have HWS := Lib.hid hWs
  clear hWs
  replace hck := fun w1 (h : Below W.heap.size W w1) => hck w1 (hW0.trans (h.mono hW0.size))
  replace hjo := fun w1 (h : Below W.heap.size W w1) => hjo w1 (hW0.trans (h.mono hW0.size))
  go_wp2_with fail
  refine (hck _ hrf).mono ?_
  rintro e w1 ⟨rfl, hc1⟩
  have hb1 : Below W.heap.size W w1 := hc1
  clear hc1
  have E0 := e0 _ hb1
  have E1 := e1 _ hb1
  go_wp2_with fail
  refine (rgiven14 _).mono ?_
  rintro e w2 ⟨rfl, hc2⟩
  have hb2 := hb1.trans (hc2.mono hb1.size)
  clear hc2
  clear E0 E1
  go_upto_region 4 with fail
  have hrw := hb2
  go_region_held3 (fun w' => Below W.heap.size W w') (first | assumption | exact sbelow_drew (by assumption) | exact sbelow_alloc (by assumption) (Nat.le_refl _) | exact sbelow_drew (sbelow_alloc (by assumption) (Nat.le_refl _)) | exact sbelow_alloc (sbelow_alloc (by assumption) (Nat.le_refl _)) (Nat.le_refl _))
    (first | (go_at_call 29; refine (hjo _ (by assumption)).mono ?_; rintro e w5 ⟨⟨jb, rfl, hj0, hj1, hjc⟩, hc5⟩; have hS5 : Below W.heap.size W w5 := below_step (by assumption) (Nat.le_refl _) hc5))
  · have hP : Below W.heap.size W (w5.alloc (.cells #[.slice none 0 0, .slice none 0 0, .slice none 0 0] 95)) := hS5.alloc hS5.size _
    have hJ : ∀ k, k < 3 → World.cell? ((w5.alloc (.cells #[.slice none 0 0, .slice none 0 0, .slice none 0 0] 95)).alloc (.cells #[.slice Ad 3 c, .slice none 0 0, .int .i64 0, .slice (some ⟨jb, 0, none⟩) 3 3, .slice (some ⟨w5.heap.size, 0, none⟩) 3 3, .int .i64 0, .int .i64 0, .int .i64 0, .slice none 0 0] 75)) ⟨jb, 0 + k, none⟩ = some (.bool false) := fun k hk => (((Below.refl w5.heap.size w5).alloc (Nat.le_refl _) _).alloc (by simp) _ |>.cell (p := ⟨jb, 0 + k, none⟩) hj1).trans (hjc k hk)
    have hVW : Below W.heap.size W ((w5.alloc (.cells #[.slice none 0 0, .slice none 0 0, .slice none 0 0] 95)).alloc (.cells #[.slice Ad 3 c, .slice none 0 0, .int .i64 0, .slice (some ⟨jb, 0, none⟩) 3 3, .slice (some ⟨w5.heap.size, 0, none⟩) 3 3, .int .i64 0, .int .i64 0, .int .i64 0, .slice none 0 0] 75)) := hP.alloc hP.size _
    have hVr : World.rangeAt ((w5.alloc (.cells #[.slice none 0 0, .slice none 0 0, .slice none 0 0] 95)).alloc (.cells #[.slice Ad 3 c, .slice none 0 0, .int .i64 0, .slice (some ⟨jb, 0, none⟩) 3 3, .slice (some ⟨w5.heap.size, 0, none⟩) 3 3, .int .i64 0, .int .i64 0, .int .i64 0, .slice none 0 0] 75)) (w5.heap.size + 1) 0 [.slice Ad 3 c, .slice none 0 0, .int .i64 0, .slice (some ⟨jb, 0, none⟩) 3 3, .slice (some ⟨w5.heap.size, 0, none⟩) 3 3, .int .i64 0, .int .i64 0, .int .i64 0, .slice none 0 0] := by have := range_of_block (xs := [.slice Ad 3 c, .slice none 0 0, .int .i64 0, .slice (some ⟨jb, 0, none⟩) 3 3, .slice (some ⟨w5.heap.size, 0, none⟩) 3 3, .int .i64 0, .int .i64 0, .int .i64 0, .slice none 0 0]) (heap1_0 (w5.alloc (.cells #[.slice none 0 0, .slice none 0 0, .slice none 0 0] 95)) (.cells #[.slice Ad 3 c, .slice none 0 0, .int .i64 0, .slice (some ⟨jb, 0, none⟩) 3 3, .slice (some ⟨w5.heap.size, 0, none⟩) 3 3, .int .i64 0, .int .i64 0, .int .i64 0, .slice none 0 0] 75)); simpa using this
    have hVf : ∀ k, World.frozen? ((w5.alloc (.cells #[.slice none 0 0, .slice none 0 0, .slice none 0 0] 95)).alloc (.cells #[.slice Ad 3 c, .slice none 0 0, .int .i64 0, .slice (some ⟨jb, 0, none⟩) 3 3, .slice (some ⟨w5.heap.size, 0, none⟩) 3 3, .int .i64 0, .int .i64 0, .int .i64 0, .slice none 0 0] 75)) ⟨w5.heap.size + 1, k, none⟩ = false := by have := fun k => boxt (heap1_0 (w5.alloc (.cells #[.slice none 0 0, .slice none 0 0, .slice none 0 0] 95)) (.cells #[.slice Ad 3 c, .slice none 0 0, .int .i64 0, .slice (some ⟨jb, 0, none⟩) 3 3, .slice (some ⟨w5.heap.size, 0, none⟩) 3 3, .int .i64 0, .int .i64 0, .int .i64 0, .slice none 0 0] 75)) k _ (Below.refl _ _); simpa using this
    have hVs : (World.heap ((w5.alloc (.cells #[.slice none 0 0, .slice none 0 0, .slice none 0 0] 95)).alloc (.cells #[.slice Ad 3 c, .slice none 0 0, .int .i64 0, .slice (some ⟨jb, 0, none⟩) 3 3, .slice (some ⟨w5.heap.size, 0, none⟩) 3 3, .int .i64 0, .int .i64 0, .int .i64 0, .slice none 0 0] 75))).size = w5.heap.size + 1 + 1 := by simp
    have hjL : jb < w5.heap.size + 1 := by omega
    have hWL : W.heap.size ≤ w5.heap.size + 1 := by have := hS5.size; omega
    generalize hkp : (.slice (some ⟨w5.heap.size, 0, none⟩) 3 3 : Value) = kp at *
    generalize (w5.alloc (.cells #[.slice none 0 0, .slice none 0 0, .slice none 0 0] 95)).alloc (.cells #[.slice Ad 3 c, .slice none 0 0, .int .i64 0, .slice (some ⟨jb, 0, none⟩) 3 3, kp, .int .i64 0, .int .i64 0, .int .i64 0, .slice none 0 0] 75) = V at *
    generalize w5.heap.size + 1 = L at *
    clear hP hj0 hj1 hjc hkp
    have hm23 := make23 V
    rw [hVs] at hm23
    have hVN : Below V.heap.size V (V.alloc (.cells #[.bool false, .bool false, .bool false, .int .u8 0, .int .u64 0, .int .u64 0, .int .u64 0, .int .u64 0, .int .i64 0, .int .i64 0, .bool false, .bool false, .bool false, .int .u8 0, .int .u64 0, .int .u64 0, .int .u64 0, .int .u64 0, .int .i64 0, .int .i64 0, .bool false, .bool false, .bool false, .int .u8 0, .int .u64 0, .int .u64 0, .int .u64 0, .int .u64 0, .int .i64 0, .int .i64 0] 43)) := (Below.refl _ _).alloc (Nat.le_refl _) _
    have hNr : World.rangeAt (V.alloc (.cells #[.bool false, .bool false, .bool false, .int .u8 0, .int .u64 0, .int .u64 0, .int .u64 0, .int .u64 0, .int .i64 0, .int .i64 0, .bool false, .bool false, .bool false, .int .u8 0, .int .u64 0, .int .u64 0, .int .u64 0, .int .u64 0, .int .i64 0, .int .i64 0, .bool false, .bool false, .bool false, .int .u8 0, .int .u64 0, .int .u64 0, .int .u64 0, .int .u64 0, .int .i64 0, .int .i64 0] 43)) L 0 [.slice Ad 3 c, .slice none 0 0, .int .i64 0, .slice (some ⟨jb, 0, none⟩) 3 3, kp, .int .i64 0, .int .i64 0, .int .i64 0, .slice none 0 0] := World.rangeAt_alloc hVr _
    have hNf : ∀ k, World.frozen? (V.alloc (.cells #[.bool false, .bool false, .bool false, .int .u8 0, .int .u64 0, .int .u64 0, .int .u64 0, .int .u64 0, .int .i64 0, .int .i64 0, .bool false, .bool false, .bool false, .int .u8 0, .int .u64 0, .int .u64 0, .int .u64 0, .int .u64 0, .int .i64 0, .int .i64 0, .bool false, .bool false, .bool false, .int .u8 0, .int .u64 0, .int .u64 0, .int .u64 0, .int .u64 0, .int .i64 0, .int .i64 0] 43)) ⟨L, k, none⟩ = false := fun k => (hVN.frozen (p := ⟨L, k, none⟩) (by show L < _; omega)).trans (hVf k)
    have m8 := hNr 8 _ rfl
    have mf := hNf 8
    simp only [Nat.zero_add] at m8
    go_upto_region 6 with fail
    have hwL : w.heap.size ≤ L := by have := HWS.out; omega
    have hXL : Below w.heap.size w ((V.setCell ⟨L, 8, none⟩ (.slice (some ⟨L + 1, 0, none⟩) 3 3)).alloc (.cells #[.bool false, .bool false, .bool false, .int .u8 0, .int .u64 0, .int .u64 0, .int .u64 0, .int .u64 0, .int .i64 0, .int .i64 0, .bool false, .bool false, .bool false, .int .u8 0, .int .u64 0, .int .u64 0, .int .u64 0, .int .u64 0, .int .i64 0, .int .i64 0, .bool false, .bool false, .bool false, .int .u8 0, .int .u64 0, .int .u64 0, .int .u64 0, .int .u64 0, .int .i64 0, .int .i64 0] 43)) := ((hW0.trans (hVW.mono hW0.size)).setCell hwL _).alloc (by have := HWS.out; simp; omega) _
    have hXW : Below W.heap.size W ((V.setCell ⟨L, 8, none⟩ (.slice (some ⟨L + 1, 0, none⟩) 3 3)).alloc (.cells #[.bool false, .bool false, .bool false, .int .u8 0, .int .u64 0, .int .u64 0, .int .u64 0, .int .u64 0, .int .i64 0, .int .i64 0, .bool false, .bool false, .bool false, .int .u8 0, .int .u64 0, .int .u64 0, .int .u64 0, .int .u64 0, .int .i64 0, .int .i64 0, .bool false, .bool false, .bool false, .int .u8 0, .int .u64 0, .int .u64 0, .int .u64 0, .int .u64 0, .int .i64 0, .int .i64 0] 43)) := (hVW.setCell hWL _).alloc (by simp; omega) _
    have hatV : SAt V L 5 Ad 3 (insnsV P3) := (hat.below (hW0.trans (hVW.mono hW0.size))).more hwL
    have hLX : LookOk ((V.setCell ⟨L, 8, none⟩ (.slice (some ⟨L + 1, 0, none⟩) 3 3)).alloc (.cells #[.bool false, .bool false, .bool false, .int .u8 0, .int .u64 0, .int .u64 0, .int .u64 0, .int .u64 0, .int .i64 0, .int .i64 0, .bool false, .bool false, .bool false, .int .u8 0, .int .u64 0, .int .u64 0, .int .u64 0, .int .u64 0, .int .i64 0, .int .i64 0, .bool false, .bool false, .bool false, .int .u8 0, .int .u64 0, .int .u64 0, .int .u64 0, .int .u64 0, .int .i64 0, .int .i64 0] 43)) Ad c jb 0 3 kp L (L + 1) 0 [.bool false, .bool false, .bool false, .int .u8 0, .int .u64 0, .int .u64 0, .int .u64 0, .int .u64 0, .int .i64 0, .int .i64 0, .bool false, .bool false, .bool false, .int .u8 0, .int .u64 0, .int .u64 0, .int .u64 0, .int .u64 0, .int .i64 0, .int .i64 0, .bool false, .bool false, .bool false, .int .u8 0, .int .u64 0, .int .u64 0, .int .u64 0, .int .u64 0, .int .i64 0, .int .i64 0] := look_made hVs hVr hVf hJ hjL hatV
    generalize (V.setCell ⟨L, 8, none⟩ (.slice (some ⟨L + 1, 0, none⟩) 3 3)).alloc (.cells #[.bool false, .bool false, .bool false, .int .u8 0, .int .u64 0, .int .u64 0, .int .u64 0, .int .u64 0, .int .i64 0, .int .i64 0, .bool false, .bool false, .bool false, .int .u8 0, .int .u64 0, .int .u64 0, .int .u64 0, .int .u64 0, .int .i64 0, .int .i64 0, .bool false, .bool false, .bool false, .int .u8 0, .int .u64 0, .int .u64 0, .int .u64 0, .int .u64 0, .int .i64 0, .int .i64 0] 43) = X at *
    clear hm23 hVN hNr hNf m8 mf hVs hVr hVf hJ hVW
    go_wp2_with fail
    refine (rfirst13 _).mono ?_
    rintro e w6 ⟨rfl, hc6⟩
    have hk6 := hLX.below hc6
    have hX6 := hXL.trans (hc6.mono hXL.size)
    have hW6 := hXW.trans (hc6.mono hXW.size)
    have hLX6 : L < w6.heap.size := hk6.ls
    clear hc6 hLX hXL hXW
    go_wp2_with fail
    refine (rat15_0 Ad c jb 0 3 kp L (L + 1) w6 hk6).mono ?_
    rintro e w7 ⟨rfl, hA⟩
    have hb7 : Below W.heap.size W w7 := hW6.trans (hA.2.1.mono hWL)
    have hw7 : Below w.heap.size w w7 := hX6.trans (hA.2.1.mono (by have := HWS.out; omega))
    have p5 := hA.1.look 5 _ rfl
    have p6 := hA.1.look 6 _ rfl
    have p7 := hA.1.look 7 _ rfl
    have p8 := hA.1.look 8 _ rfl
    simp only [Nat.zero_add] at p5 p6 p7 p8
    have V0 := v0 _ hb7
    have V1 := v1 _ hb7
    have V2 := v2 _ hb7
    have V3 := v3 _ hb7
    have tv7 := fun k => tv k _ hb7
    have HA := Lib.hid hA
    clear hA hk6 hX6 hW6 v0 v1 v2 v3 tv hjo hck e0 e1
    go_wp2_with fail
    have hCr : World.rangeAt (((((w7).setCell ⟨w.heap.size + 1, 0, none⟩ (.int .i64 0)).setCell ⟨w.heap.size + 1, 1, none⟩ (.int .i64 0)).setCell ⟨w.heap.size + 1, 2, none⟩ (.int .i64 3)).setCell ⟨w.heap.size + 1, 3, none⟩ (.slice (some ⟨L + 1, 0, none⟩) 3 3)) (w.heap.size + 1) 0 [.int .i64 0, .int .i64 0, .int .i64 3, .slice (some ⟨L + 1, 0, none⟩) 3 3] := World.rangeAt_setCells_same w7 (w.heap.size + 1) 0 [.int .i64 0, .int .i64 0, .int .i64 3, .slice (some ⟨L + 1, 0, none⟩) 3 3] (fun k hk => ⟨by rcases (by simp at hk; omega : k = 0 ∨ k = 1 ∨ k = 2 ∨ k = 3) with rfl | rfl | rfl | rfl <;> simp [V0, V1, V2, V3], tv7 _⟩)
    have hCb : Below w.heap.size w (((((w7).setCell ⟨w.heap.size + 1, 0, none⟩ (.int .i64 0)).setCell ⟨w.heap.size + 1, 1, none⟩ (.int .i64 0)).setCell ⟨w.heap.size + 1, 2, none⟩ (.int .i64 3)).setCell ⟨w.heap.size + 1, 3, none⟩ (.slice (some ⟨L + 1, 0, none⟩) 3 3)) := below_setCells (w.heap.size + 1) (by omega) [.int .i64 0, .int .i64 0, .int .i64 3, .slice (some ⟨L + 1, 0, none⟩) 3 3] 0 hw7
    have hCn : World.rangeAt (((((w7).setCell ⟨w.heap.size + 1, 0, none⟩ (.int .i64 0)).setCell ⟨w.heap.size + 1, 1, none⟩ (.int .i64 0)).setCell ⟨w.heap.size + 1, 2, none⟩ (.int .i64 3)).setCell ⟨w.heap.size + 1, 3, none⟩ (.slice (some ⟨L + 1, 0, none⟩) 3 3)) (L + 1) 0 [.bool true, .bool false, .bool false, .int .u8 1, .int .u64 5, .int .u64 0, .int .u64 5, .int .u64 5, .int .i64 0, .int .i64 0, .bool true, .bool false, .bool false, .int .u8 1, .int .u64 7, .int .u64 0, .int .u64 7, .int .u64 7, .int .i64 0, .int .i64 0, .bool true, .bool false, .bool false, .int .u8 0, .int .u64 0, .int .u64 0, .int .u64 0, .int .u64 0, .int .i64 0, .int .i64 0] := World.rangeAt_setCells_apart HA.out.1.nts (w.heap.size + 1) 0 [.int .i64 0, .int .i64 0, .int .i64 3, .slice (some ⟨L + 1, 0, none⟩) 3 3] (.inl (by have := HWS.out; omega))
    have hCs : L + 1 < (World.heap (((((w7).setCell ⟨w.heap.size + 1, 0, none⟩ (.int .i64 0)).setCell ⟨w.heap.size + 1, 1, none⟩ (.int .i64 0)).setCell ⟨w.heap.size + 1, 2, none⟩ (.int .i64 3)).setCell ⟨w.heap.size + 1, 3, none⟩ (.slice (some ⟨L + 1, 0, none⟩) 3 3))).size := by have h := size_put w7 (w.heap.size + 1) 0 [.int .i64 0, .int .i64 0, .int .i64 3, .slice (some ⟨L + 1, 0, none⟩) 3 3]; exact Nat.lt_of_lt_of_eq HA.out.1.nw h.symm
    generalize ((((w7).setCell ⟨w.heap.size + 1, 0, none⟩ (.int .i64 0)).setCell ⟨w.heap.size + 1, 1, none⟩ (.int .i64 0)).setCell ⟨w.heap.size + 1, 2, none⟩ (.int .i64 3)).setCell ⟨w.heap.size + 1, 3, none⟩ (.slice (some ⟨L + 1, 0, none⟩) 3 3) = Z at *
    exact bodyPost_ret (v := .agg #[.int .i64 0, .int .i64 0, .int .i64 3, .slice (some ⟨L + 1, 0, none⟩) 3 3]) (results_cell Tryz.results16 rfl (run_loadVar_mid (P := Tryz.prog) Z (w.heap.size + 1) 0 55 [.int .i64 0, .int .i64 0, .int .i64 3, .slice (some ⟨L + 1, 0, none⟩) 3 3] _ hCr Tryz.underlying55 rfl info55)) rfl ⟨L + 1, rfl, by omega, hCs, hCn, hCb⟩
  · have hP := hS5
    have hJ : ∀ k, k < 3 → World.cell? (w5.alloc (.cells #[.slice Ad 3 c, .slice none 0 0, .int .i64 0, .slice (some ⟨jb, 0, none⟩) 3 3, .slice (some ⟨w2.heap.size, 0, none⟩) 3 3, .int .i64 0, .int .i64 0, .int .i64 0, .slice none 0 0] 75)) ⟨jb, 0 + k, none⟩ = some (.bool false) := fun k hk => (((Below.refl w5.heap.size w5)).alloc (by simp) _ |>.cell (p := ⟨jb, 0 + k, none⟩) hj1).trans (hjc k hk)
    have hVW : Below W.heap.size W (w5.alloc (.cells #[.slice Ad 3 c, .slice none 0 0, .int .i64 0, .slice (some ⟨jb, 0, none⟩) 3 3, .slice (some ⟨w2.heap.size, 0, none⟩) 3 3, .int .i64 0, .int .i64 0, .int .i64 0, .slice none 0 0] 75)) := hP.alloc hP.size _
    have hVr : World.rangeAt (w5.alloc (.cells #[.slice Ad 3 c, .slice none 0 0, .int .i64 0, .slice (some ⟨jb, 0, none⟩) 3 3, .slice (some ⟨w2.heap.size, 0, none⟩) 3 3, .int .i64 0, .int .i64 0, .int .i64 0, .slice none 0 0] 75)) (w5.heap.size) 0 [.slice Ad 3 c, .slice none 0 0, .int .i64 0, .slice (some ⟨jb, 0, none⟩) 3 3, .slice (some ⟨w2.heap.size, 0, none⟩) 3 3, .int .i64 0, .int .i64 0, .int .i64 0, .slice none 0 0] := by have := range_of_block (xs := [.slice Ad 3 c, .slice none 0 0, .int .i64 0, .slice (some ⟨jb, 0, none⟩) 3 3, .slice (some ⟨w2.heap.size, 0, none⟩) 3 3, .int .i64 0, .int .i64 0, .int .i64 0, .slice none 0 0]) (heap1_0 w5 (.cells #[.slice Ad 3 c, .slice none 0 0, .int .i64 0, .slice (some ⟨jb, 0, none⟩) 3 3, .slice (some ⟨w2.heap.size, 0, none⟩) 3 3, .int .i64 0, .int .i64 0, .int .i64 0, .slice none 0 0] 75)); simpa using this
    have hVf : ∀ k, World.frozen? (w5.alloc (.cells #[.slice Ad 3 c, .slice none 0 0, .int .i64 0, .slice (some ⟨jb, 0, none⟩) 3 3, .slice (some ⟨w2.heap.size, 0, none⟩) 3 3, .int .i64 0, .int .i64 0, .int .i64 0, .slice none 0 0] 75)) ⟨w5.heap.size, k, none⟩ = false := by have := fun k => boxt (heap1_0 w5 (.cells #[.slice Ad 3 c, .slice none 0 0, .int .i64 0, .slice (some ⟨jb, 0, none⟩) 3 3, .slice (some ⟨w2.heap.size, 0, none⟩) 3 3, .int .i64 0, .int .i64 0, .int .i64 0, .slice none 0 0] 75)) k _ (Below.refl _ _); simpa using this
    have hVs : (World.heap (w5.alloc (.cells #[.slice Ad 3 c, .slice none 0 0, .int .i64 0, .slice (some ⟨jb, 0, none⟩) 3 3, .slice (some ⟨w2.heap.size, 0, none⟩) 3 3, .int .i64 0, .int .i64 0, .int .i64 0, .slice none 0 0] 75))).size = w5.heap.size + 1 := by simp
    have hjL : jb < w5.heap.size := by omega
    have hWL : W.heap.size ≤ w5.heap.size := by have := hS5.size; omega
    generalize hkp : (.slice (some ⟨w2.heap.size, 0, none⟩) 3 3 : Value) = kp at *
    generalize w5.alloc (.cells #[.slice Ad 3 c, .slice none 0 0, .int .i64 0, .slice (some ⟨jb, 0, none⟩) 3 3, kp, .int .i64 0, .int .i64 0, .int .i64 0, .slice none 0 0] 75) = V at *
    generalize w5.heap.size = L at *
    clear hP hj0 hj1 hjc hkp
    have hm23 := make23 V
    rw [hVs] at hm23
    have hVN : Below V.heap.size V (V.alloc (.cells #[.bool false, .bool false, .bool false, .int .u8 0, .int .u64 0, .int .u64 0, .int .u64 0, .int .u64 0, .int .i64 0, .int .i64 0, .bool false, .bool false, .bool false, .int .u8 0, .int .u64 0, .int .u64 0, .int .u64 0, .int .u64 0, .int .i64 0, .int .i64 0, .bool false, .bool false, .bool false, .int .u8 0, .int .u64 0, .int .u64 0, .int .u64 0, .int .u64 0, .int .i64 0, .int .i64 0] 43)) := (Below.refl _ _).alloc (Nat.le_refl _) _
    have hNr : World.rangeAt (V.alloc (.cells #[.bool false, .bool false, .bool false, .int .u8 0, .int .u64 0, .int .u64 0, .int .u64 0, .int .u64 0, .int .i64 0, .int .i64 0, .bool false, .bool false, .bool false, .int .u8 0, .int .u64 0, .int .u64 0, .int .u64 0, .int .u64 0, .int .i64 0, .int .i64 0, .bool false, .bool false, .bool false, .int .u8 0, .int .u64 0, .int .u64 0, .int .u64 0, .int .u64 0, .int .i64 0, .int .i64 0] 43)) L 0 [.slice Ad 3 c, .slice none 0 0, .int .i64 0, .slice (some ⟨jb, 0, none⟩) 3 3, kp, .int .i64 0, .int .i64 0, .int .i64 0, .slice none 0 0] := World.rangeAt_alloc hVr _
    have hNf : ∀ k, World.frozen? (V.alloc (.cells #[.bool false, .bool false, .bool false, .int .u8 0, .int .u64 0, .int .u64 0, .int .u64 0, .int .u64 0, .int .i64 0, .int .i64 0, .bool false, .bool false, .bool false, .int .u8 0, .int .u64 0, .int .u64 0, .int .u64 0, .int .u64 0, .int .i64 0, .int .i64 0, .bool false, .bool false, .bool false, .int .u8 0, .int .u64 0, .int .u64 0, .int .u64 0, .int .u64 0, .int .i64 0, .int .i64 0] 43)) ⟨L, k, none⟩ = false := fun k => (hVN.frozen (p := ⟨L, k, none⟩) (by show L < _; omega)).trans (hVf k)
    have m8 := hNr 8 _ rfl
    have mf := hNf 8
    simp only [Nat.zero_add] at m8
    go_upto_region 6 with fail
    have hwL : w.heap.size ≤ L := by have := HWS.out; omega
    have hXL : Below w.heap.size w ((V.setCell ⟨L, 8, none⟩ (.slice (some ⟨L + 1, 0, none⟩) 3 3)).alloc (.cells #[.bool false, .bool false, .bool false, .int .u8 0, .int .u64 0, .int .u64 0, .int .u64 0, .int .u64 0, .int .i64 0, .int .i64 0, .bool false, .bool false, .bool false, .int .u8 0, .int .u64 0, .int .u64 0, .int .u64 0, .int .u64 0, .int .i64 0, .int .i64 0, .bool false, .bool false, .bool false, .int .u8 0, .int .u64 0, .int .u64 0, .int .u64 0, .int .u64 0, .int .i64 0, .int .i64 0] 43)) := ((hW0.trans (hVW.mono hW0.size)).setCell hwL _).alloc (by have := HWS.out; simp; omega) _
    have hXW : Below W.heap.size W ((V.setCell ⟨L, 8, none⟩ (.slice (some ⟨L + 1, 0, none⟩) 3 3)).alloc (.cells #[.bool false, .bool false, .bool false, .int .u8 0, .int .u64 0, .int .u64 0, .int .u64 0, .int .u64 0, .int .i64 0, .int .i64 0, .bool false, .bool false, .bool false, .int .u8 0, .int .u64 0, .int .u64 0, .int .u64 0, .int .u64 0, .int .i64 0, .int .i64 0, .bool false, .bool false, .bool false, .int .u8 0, .int .u64 0, .int .u64 0, .int .u64 0, .int .u64 0, .int .i64 0, .int .i64 0] 43)) := (hVW.setCell hWL _).alloc (by simp; omega) _
    have hatV : SAt V L 5 Ad 3 (insnsV P3) := (hat.below (hW0.trans (hVW.mono hW0.size))).more hwL
    have hLX : LookOk ((V.setCell ⟨L, 8, none⟩ (.slice (some ⟨L + 1, 0, none⟩) 3 3)).alloc (.cells #[.bool false, .bool false, .bool false, .int .u8 0, .int .u64 0, .int .u64 0, .int .u64 0, .int .u64 0, .int .i64 0, .int .i64 0, .bool false, .bool false, .bool false, .int .u8 0, .int .u64 0, .int .u64 0, .int .u64 0, .int .u64 0, .int .i64 0, .int .i64 0, .bool false, .bool false, .bool false, .int .u8 0, .int .u64 0, .int .u64 0, .int .u64 0, .int .u64 0, .int .i64 0, .int .i64 0] 43)) Ad c jb 0 3 kp L (L + 1) 0 [.bool false, .bool false, .bool false, .int .u8 0, .int .u64 0, .int .u64 0, .int .u64 0, .int .u64 0, .int .i64 0, .int .i64 0, .bool false, .bool false, .bool false, .int .u8 0, .int .u64 0, .int .u64 0, .int .u64 0, .int .u64 0, .int .i64 0, .int .i64 0, .bool false, .bool false, .bool false, .int .u8 0, .int .u64 0, .int .u64 0, .int .u64 0, .int .u64 0, .int .i64 0, .int .i64 0] := look_made hVs hVr hVf hJ hjL hatV
    generalize (V.setCell ⟨L, 8, none⟩ (.slice (some ⟨L + 1, 0, none⟩) 3 3)).alloc (.cells #[.bool false, .bool false, .bool false, .int .u8 0, .int .u64 0, .int .u64 0, .int .u64 0, .int .u64 0, .int .i64 0, .int .i64 0, .bool false, .bool false, .bool false, .int .u8 0, .int .u64 0, .int .u64 0, .int .u64 0, .int .u64 0, .int .i64 0, .int .i64 0, .bool false, .bool false, .bool false, .int .u8 0, .int .u64 0, .int .u64 0, .int .u64 0, .int .u64 0, .int .i64 0, .int .i64 0] 43) = X at *
    clear hm23 hVN hNr hNf m8 mf hVs hVr hVf hJ hVW
    go_wp2_with fail
    refine (rfirst13 _).mono ?_
    rintro e w6 ⟨rfl, hc6⟩
    have hk6 := hLX.below hc6
    have hX6 := hXL.trans (hc6.mono hXL.size)
    have hW6 := hXW.trans (hc6.mono hXW.size)
    have hLX6 : L < w6.heap.size := hk6.ls
    clear hc6 hLX hXL hXW
    go_wp2_with fail
    refine (rat15_0 Ad c jb 0 3 kp L (L + 1) w6 hk6).mono ?_
    rintro e w7 ⟨rfl, hA⟩
    have hb7 : Below W.heap.size W w7 := hW6.trans (hA.2.1.mono hWL)
    have hw7 : Below w.heap.size w w7 := hX6.trans (hA.2.1.mono (by have := HWS.out; omega))
    have p5 := hA.1.look 5 _ rfl
    have p6 := hA.1.look 6 _ rfl
    have p7 := hA.1.look 7 _ rfl
    have p8 := hA.1.look 8 _ rfl
    simp only [Nat.zero_add] at p5 p6 p7 p8
    have V0 := v0 _ hb7
    have V1 := v1 _ hb7
    have V2 := v2 _ hb7
    have V3 := v3 _ hb7
    have tv7 := fun k => tv k _ hb7
    have HA := Lib.hid hA
    clear hA hk6 hX6 hW6 v0 v1 v2 v3 tv hjo hck e0 e1
    go_wp2_with fail
    have hCr : World.rangeAt (((((w7).setCell ⟨w.heap.size + 1, 0, none⟩ (.int .i64 0)).setCell ⟨w.heap.size + 1, 1, none⟩ (.int .i64 0)).setCell ⟨w.heap.size + 1, 2, none⟩ (.int .i64 3)).setCell ⟨w.heap.size + 1, 3, none⟩ (.slice (some ⟨L + 1, 0, none⟩) 3 3)) (w.heap.size + 1) 0 [.int .i64 0, .int .i64 0, .int .i64 3, .slice (some ⟨L + 1, 0, none⟩) 3 3] := World.rangeAt_setCells_same w7 (w.heap.size + 1) 0 [.int .i64 0, .int .i64 0, .int .i64 3, .slice (some ⟨L + 1, 0, none⟩) 3 3] (fun k hk => ⟨by rcases (by simp at hk; omega : k = 0 ∨ k = 1 ∨ k = 2 ∨ k = 3) with rfl | rfl | rfl | rfl <;> simp [V0, V1, V2, V3], tv7 _⟩)
    have hCb : Below w.heap.size w (((((w7).setCell ⟨w.heap.size + 1, 0, none⟩ (.int .i64 0)).setCell ⟨w.heap.size + 1, 1, none⟩ (.int .i64 0)).setCell ⟨w.heap.size + 1, 2, none⟩ (.int .i64 3)).setCell ⟨w.heap.size + 1, 3, none⟩ (.slice (some ⟨L + 1, 0, none⟩) 3 3)) := below_setCells (w.heap.size + 1) (by omega) [.int .i64 0, .int .i64 0, .int .i64 3, .slice (some ⟨L + 1, 0, none⟩) 3 3] 0 hw7
    have hCn : World.rangeAt (((((w7).setCell ⟨w.heap.size + 1, 0, none⟩ (.int .i64 0)).setCell ⟨w.heap.size + 1, 1, none⟩ (.int .i64 0)).setCell ⟨w.heap.size + 1, 2, none⟩ (.int .i64 3)).setCell ⟨w.heap.size + 1, 3, none⟩ (.slice (some ⟨L + 1, 0, none⟩) 3 3)) (L + 1) 0 [.bool true, .bool false, .bool false, .int .u8 1, .int .u64 5, .int .u64 0, .int .u64 5, .int .u64 5, .int .i64 0, .int .i64 0, .bool true, .bool false, .bool false, .int .u8 1, .int .u64 7, .int .u64 0, .int .u64 7, .int .u64 7, .int .i64 0, .int .i64 0, .bool true, .bool false, .bool false, .int .u8 0, .int .u64 0, .int .u64 0, .int .u64 0, .int .u64 0, .int .i64 0, .int .i64 0] := World.rangeAt_setCells_apart HA.out.1.nts (w.heap.size + 1) 0 [.int .i64 0, .int .i64 0, .int .i64 3, .slice (some ⟨L + 1, 0, none⟩) 3 3] (.inl (by have := HWS.out; omega))
    have hCs : L + 1 < (World.heap (((((w7).setCell ⟨w.heap.size + 1, 0, none⟩ (.int .i64 0)).setCell ⟨w.heap.size + 1, 1, none⟩ (.int .i64 0)).setCell ⟨w.heap.size + 1, 2, none⟩ (.int .i64 3)).setCell ⟨w.heap.size + 1, 3, none⟩ (.slice (some ⟨L + 1, 0, none⟩) 3 3))).size := by have h := size_put w7 (w.heap.size + 1) 0 [.int .i64 0, .int .i64 0, .int .i64 3, .slice (some ⟨L + 1, 0, none⟩) 3 3]; exact Nat.lt_of_lt_of_eq HA.out.1.nw h.symm
    generalize ((((w7).setCell ⟨w.heap.size + 1, 0, none⟩ (.int .i64 0)).setCell ⟨w.heap.size + 1, 1, none⟩ (.int .i64 0)).setCell ⟨w.heap.size + 1, 2, none⟩ (.int .i64 3)).setCell ⟨w.heap.size + 1, 3, none⟩ (.slice (some ⟨L + 1, 0, none⟩) 3 3) = Z at *
    exact bodyPost_ret (v := .agg #[.int .i64 0, .int .i64 0, .int .i64 3, .slice (some ⟨L + 1, 0, none⟩) 3 3]) (results_cell Tryz.results16 rfl (run_loadVar_mid (P := Tryz.prog) Z (w.heap.size + 1) 0 55 [.int .i64 0, .int .i64 0, .int .i64 3, .slice (some ⟨L + 1, 0, none⟩) 3 3] _ hCr Tryz.underlying55 rfl info55)) rfl ⟨L + 1, rfl, by omega, hCs, hCn, hCb⟩

end Go.Proofs.YtbfgffmebniooaaGreat
end
