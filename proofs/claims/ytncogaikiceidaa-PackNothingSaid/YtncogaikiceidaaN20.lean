/- An instruction, done; a step. No statement is proved here. -/
import Derived.Test.YtncogaikiceidaaN19
import Derived.Test.YtncogaikiceidaaN6
import Derived.Test.YtncogaikiceidaaHopC
import Derived.Test.YtncogaikiceidaaN11
namespace Go.Proofs.Ytncogaikiceidaa
set_option maxRecDepth 100000
open Go.RowKit
set_option linter.unusedSimpArgs false
set_option linter.unusedVariables false
set_option linter.unnecessarySimpa false
section
/-! ### What an instruction that is one is like -/
structure WhatOk (x : Insn) (w : What) : Prop where
  k0 : 1 ≤ w.kind
  k1 : w.kind ≤ 12
  sw : w.kind = 2 → w.size = 2 ∨ w.size = 4 ∨ w.size = 8
  num : w.kind = 3 → x.op = 24
  tab : w.kind = 4 → 0 ≤ x.imm
  fit : w.kind = 5 ∨ w.kind = 6 ∨ w.kind = 7 ∨ w.kind = 8 → Fits w.size
theorem size_fits (op : Int) : Fits (sizeM op) := by
  unfold sizeM Fits
  repeat' split
  all_goals simp
theorem sem_ok {x : Insn} (h : (sem x).2 = true) : WhatOk x (sem x).1 := by
  have e : sem x = ((whatM x).1, true) ∧ (whatM x).2 = true := by
    unfold sem norm at *
    split at h
    · rename_i q; exact ⟨by rw [if_pos q], q⟩
    · cases h
  obtain ⟨e1, e2⟩ := e
  rw [e1]
  clear e1 h
  have hz := size_fits x.op
  have hi : x.imm = 16 ∨ x.imm = 32 ∨ x.imm = 64 → x.imm.tdiv 8 = 2 ∨ x.imm.tdiv 8 = 4 ∨ x.imm.tdiv 8 = 8 := by
    rintro (h | h | h) <;> rw [h] <;> decide
  unfold whatM at *
  by_cases h1 : 10 < x.dst ∨ 10 < x.src
  · rw [if_pos h1] at e2; cases e2
  rw [if_neg h1] at e2 ⊢
  by_cases h2 : x.op = 24
  · rw [if_pos h2] at e2 ⊢
    unfold wideM at *
    split at e2
    · rename_i q; rw [if_pos q]; exact ⟨by simp, by simp, by simp, fun _ => h2, by simp, by simp⟩
    · rename_i q
      split at e2
      · rename_i q2; rw [if_neg q, if_pos q2]
        refine ⟨by simp, by simp, by simp, fun _ => h2, fun _ => ?_, by simp⟩
        simp only [Bool.and_eq_true, decide_eq_true_eq] at e2
        exact e2.2
      · cases e2
  rw [if_neg h2] at e2 ⊢
  by_cases h3 : x.op = 212 ∨ x.op = 220 ∨ x.op = 215
  · rw [if_pos h3] at e2 ⊢
    unfold swapsM at *
    simp only [Bool.and_eq_true, Bool.or_eq_true, beq_iff_eq] at e2
    exact ⟨by simp, by simp, fun _ => hi (by rcases e2.2 with (h | h) | h <;> omega), by simp, by simp, by simp⟩
  rw [if_neg h3] at e2 ⊢
  by_cases h4 : x.op % 8 = 4 ∨ x.op % 8 = 7
  · rw [if_pos h4] at e2 ⊢
    unfold arithM at *
    simp only at e2 ⊢
    repeat' split
    all_goals exact ⟨by simp, by simp, by simp, by simp, by simp, by simp⟩
  rw [if_neg h4] at e2 ⊢
  by_cases h5 : x.op % 8 = 5 ∨ x.op % 8 = 6
  · rw [if_pos h5] at e2 ⊢
    unfold jumpsM at *
    simp only [kindW] at e2 ⊢
    repeat' split
    all_goals exact ⟨by simp, by simp, by simp, by simp, by simp, by simp⟩
  rw [if_neg h5] at e2 ⊢
  by_cases h6 : x.op % 8 = 0
  · rw [if_pos h6] at e2; cases e2
  rw [if_neg h6] at e2 ⊢
  unfold movesM at *
  simp only at e2 ⊢
  by_cases m1 : x.op % 8 = 1
  · rw [if_pos m1]; exact ⟨by simp, by simp, by simp, by simp, by simp, fun _ => hz⟩
  rw [if_neg m1] at e2 ⊢
  by_cases m2 : x.op % 8 = 2
  · rw [if_pos m2]; exact ⟨by simp, by simp, by simp, by simp, by simp, fun _ => hz⟩
  rw [if_neg m2] at e2 ⊢
  by_cases m3 : x.op % 8 = 3
  · rw [if_pos m3] at e2 ⊢
    split
    iterate 2
      · exact ⟨by simp, by simp, by simp, by simp, by simp, fun _ => hz⟩
  · rw [if_neg m3] at e2; cases e2
/-- Where a machine that isn't over stands. -/
structure Stands (l : List Insn) (m : MchM) : Prop where
  at_ : m.place < l.length
  start : SB l m.place = true
theorem step_stands {l : List Insn} {defs : List DefM} {m : MchM} (hp : Prog l) (h : Stands l m) (ho : m.over = false) (he : (stepM l defs m).2 = 0) (hv : (stepM l defs m).1.over = false) : Stands l (stepM l defs m).1 := by
  obtain ⟨hd, hm⟩ := step_ok ho he
  rw [hm] at hv ⊢
  have hk : kindM l m.place = (sem (at' l m.place)).1.kind := rfl
  by_cases k12 : (sem (at' l m.place)).1.kind = 12
  · have := does_exit (m := m) (defs := defs) (x := at' l m.place) (y := at' l (m.place + 1)) k12 hd
    have hv2 : (doesM m defs (at' l m.place) (at' l (m.place + 1)) (sem (at' l m.place)).1).1.over = false := hv
    rw [this] at hv2
    cases hv2
  · have hpl : ((doesM m defs (at' l m.place) (at' l (m.place + 1)) (sem (at' l m.place)).1).1.goto (nextM l m (doesM m defs (at' l m.place) (at' l (m.place + 1)) (sem (at' l m.place)).1)) (m.steps + 1)).place = nextM l m (doesM m defs (at' l m.place) (at' l (m.place + 1)) (sem (at' l m.place)).1) := rfl
    suffices hs : nextM l m (doesM m defs (at' l m.place) (at' l (m.place + 1)) (sem (at' l m.place)).1) < l.length ∧ SB l (nextM l m (doesM m defs (at' l m.place) (at' l (m.place + 1)) (sem (at' l m.place)).1)) = true from
      ⟨by rw [hpl]; exact hs.1, by rw [hpl]; exact hs.2⟩
    unfold nextM
    rw [if_neg k12]
    cases ht : (doesM m defs (at' l m.place) (at' l (m.place + 1)) (sem (at' l m.place)).1).2.1
    · rw [if_neg (by simp)]
      refine hp.next h.at_ h.start k12 (fun k9 => ?_)
      rw [does_jump k9] at ht
      cases ht
    · rw [if_pos rfl]
      have := hp.goes h.at_ h.start (by rw [hk]; exact does_taken ht)
      exact ⟨this.2.1, this.2.2.1⟩
end
section
/-! ### An instruction is done -/
theorem does_1 {m : MchM} {defs : List DefM} {x y : Insn} {w : What} (h : w.kind = 1) : doesM m defs x y w = ((arithMM m x w).1, false, (arithMM m x w).2) := by
  unfold doesM; rw [if_pos h]
theorem does_2 {m : MchM} {defs : List DefM} {x y : Insn} {w : What} (h : w.kind = 2) : doesM m defs x y w = if setM m x.dst = false then (m, false, 110) else (putR m x.dst (swapG w.wide (8 * w.size) (regM m x.dst)).1, false, 0) := by
  unfold doesM; rw [if_neg (by omega), if_pos h]
theorem does_3 {m : MchM} {defs : List DefM} {x y : Insn} {w : What} (h : w.kind = 3) : doesM m defs x y w = (putR m x.dst (x.imm % 4294967296 + 4294967296 * (y.imm % 4294967296)), false, 0) := by
  unfold doesM; rw [if_neg (by omega), if_neg (by omega), if_pos h]
theorem does_4 {m : MchM} {defs : List DefM} {x y : Insn} {w : What} (h : w.kind = 4) : doesM m defs x y w = if (defs.length : Int) ≤ x.imm then (m, false, 113) else (putR m x.dst (3 * 4294967296 + x.imm), false, 0) := by
  unfold doesM; rw [if_neg (by omega), if_neg (by omega), if_neg (by omega), if_pos h]
theorem does_5 {m : MchM} {defs : List DefM} {x y : Insn} {w : What} (h : w.kind = 5) : doesM m defs x y w = ((loadMM m x w).1, false, (loadMM m x w).2) := by
  unfold doesM; rw [if_neg (by omega), if_neg (by omega), if_neg (by omega), if_neg (by omega), if_pos h]
theorem does_6 {m : MchM} {defs : List DefM} {x y : Insn} {w : What} (h : w.kind = 6 ∨ w.kind = 7 ∨ w.kind = 8) : doesM m defs x y w = ((storeMM m x w).1, false, (storeMM m x w).2) := by
  unfold doesM; rw [if_neg (by omega), if_neg (by omega), if_neg (by omega), if_neg (by omega), if_neg (by omega), if_pos h]
theorem does_10 {m : MchM} {defs : List DefM} {x y : Insn} {w : What} (h : w.kind = 10) : doesM m defs x y w = if (secondM m x w).2 = false ∨ setM m x.dst = false then (m, false, 110) else (m, isG w.op w.wide (regM m x.dst) (secondM m x w).1, 0) := by
  unfold doesM; rw [if_neg (by omega), if_neg (by omega), if_neg (by omega), if_neg (by omega), if_neg (by omega), if_neg (by omega), if_neg (by omega), if_pos h]
theorem does_11 {m : MchM} {defs : List DefM} {x y : Insn} {w : What} (h : w.kind = 11) : doesM m defs x y w = ((callM m defs x.imm).1, false, (callM m defs x.imm).2) := by
  unfold doesM; rw [if_neg (by omega), if_neg (by omega), if_neg (by omega), if_neg (by omega), if_neg (by omega), if_neg (by omega), if_neg (by omega), if_neg (by omega), if_pos h]
theorem does_12 {m : MchM} {defs : List DefM} {x y : Insn} {w : What} (h : w.kind = 12) : doesM m defs x y w = if setM m 0 = false then (m, false, 110) else ({ m with over := true }, false, 0) := by
  unfold doesM; rw [if_neg (by omega), if_neg (by omega), if_neg (by omega), if_neg (by omega), if_neg (by omega), if_neg (by omega), if_neg (by omega), if_neg (by omega), if_neg (by omega), if_pos h]
theorem next_step {l : List Insn} {m : MchM} {d : MchM × Bool × Int} (hk : ¬ (sem (at' l m.place)).1.kind = 12) (hd : d.2.1 = false) : nextM l m d = stepN l m.place := by
  unfold nextM; rw [if_neg hk, hd, if_neg (by decide)]
theorem next_goes {l : List Insn} {m : MchM} {d : MchM × Bool × Int} (hk : ¬ (sem (at' l m.place)).1.kind = 12) (hd : d.2.1 = true) : nextM l m d = (targetM l m.place).1.toNat := by
  unfold nextM; rw [if_neg hk, hd, if_pos rfl]
theorem next_over {l : List Insn} {m : MchM} {d : MchM × Bool × Int} (hk : (sem (at' l m.place)).1.kind = 12) : nextM l m d = m.place := by
  unfold nextM; rw [if_pos hk]
/-- What comes of an instruction. -/
def DoesOk (own : Own) (w : World) (pM : Nat) (l : List Insn) (defs : List DefM) (m : MchM) (d : MchM × Bool × Int) (e : Ending) (w' : World) : Prop :=
  (∃ nx : Int, e = .returned (.tuple #[.int .i64 nx, .int .i64 d.2.2]) ∧ (d.2.2 = 0 → nx = (nextM l m d : Nat))) ∧ TurnM own w pM l defs d.1 w'
/-- What is wanted of the machine's instruction. -/
structure Wants (l : List Insn) (m : MchM) (x : Insn) (s : What) (i d : Nat) : Prop where
  prog : Prog l
  oks : ∀ y ∈ l, y.Ok
  stands : Stands l m
  is : at' l m.place = x
  sem : (sem x).1 = s
  wok : WhatOk x s
  xok : x.Ok
  src : x.src = i
  dst : x.dst = d
  hi : i < 11
  hd : d < 11
theorem wants_at {l : List Insn} {m : MchM} (hp : Prog l) (hl : ∀ y ∈ l, y.Ok) (hs : Stands l m) : ∃ i d, Wants l m (at' l m.place) (sem (at' l m.place)).1 i d := by
  have hx : (at' l m.place).Ok := by
    unfold at'
    rw [List.getD_eq_getElem?_getD, List.getElem?_eq_getElem hs.at_]
    exact hl _ (List.getElem_mem hs.at_)
  have hr := hp.regs hs.at_
  have h0 := hx.src0
  have h1 := hx.dst0
  exact ⟨(at' l m.place).src.toNat, (at' l m.place).dst.toNat, hp, hl, hs, rfl, rfl, sem_ok (hp.ok hs.at_ hs.start), hx, by omega, by omega, by omega, by omega⟩
end
section
set_option maxHeartbeats 2000000 in
theorem rdoes_1 {own : Own} {w : World} {pM : Nat} {g : Gh} {l : List Insn} {defs : List DefM} {m : MchM} (h : MchIn own w pM g l defs m) (hn : m.mem.length ≤ 1000000) (hcl : m.calls.length ≤ 1000000) (hdl : defs.length ≤ 1000) (hdf : ∀ d ∈ defs, defOk d = true) (hdr : m.draws.length ≤ 1000) (x : Insn) (s : What) (i d : Nat) (hw : Wants l m x s i d) (hk : s.kind = 1) :
    Calls Try.prog 51 #[.pointer (some ⟨pM, 0, none⟩), x.val, s.val] w (DoesOk own w pM l defs m (doesM m defs x (at' l (m.place + 1)) s)) := by
  have hD := does_1 (m := m) (defs := defs) (x := x) (y := at' l (m.place + 1)) (w := s) hk
  have hk12 : ¬ (sem (at' l m.place)).1.kind = 12 := by rw [hw.is, hw.sem]; omega
  obtain ⟨cL, hgL, hcode⟩ := h.code
  have hfew : l.length ≤ 100000 := Nat.le_trans hw.prog.few (by decide)
  have hL : ∀ w', Below w.heap.size w w' → w'.cell? ⟨pM, 0, none⟩ = some (.slice g.A l.length cL) := fun w' hb => by rw [← hgL]; exact (h.blk.below hb).cell rfl
  have hP : ∀ w', Below w.heap.size w w' → w'.cell? ⟨pM, 27, none⟩ = some (.int .i64 m.place) := fun w' hb => (h.blk.below hb).cell (mch_hi h.lr h.ls 4)
  have hnx := fun w' (hb : Below w.heap.size w w') => rnext_at l g.A cL m.place hfew hw.stands.at_ w w' hcode hb
  have hB := fun w' (hb : Below w.heap.size w w') => h.below hb
  have hK := fun w' (hb : Below w.heap.size w w') => Kept.of (X := fun b => b = pM) hb (Nat.le_refl _)
  have hrole := h.role
  have hi := hw.hi
  have hd := hw.hd
  have hsrc := hw.src
  have hdst := hw.dst
  have hcall := fun w' (hb : Below w.heap.size w w') => rarith11 (h.below hb) x s i d hsrc hi hdst hd
  have HN := Lib.hid (next_step (l := l) (m := m) (d := ((arithMM m x s).1, false, (arithMM m x s).2)) hk12 rfl)
  rw [hD]
  generalize arithMM m x s = R at *
  clear hD h hw
  obtain ⟨x0, x1, x2, x3, x4⟩ := x
  obtain ⟨kd, op, wd, rg, sg, sz⟩ := s
  simp only [Insn.val, What.val] at *
  subst hsrc hdst
  subst hk
  obtain ⟨hW0, hx, hy⟩ := box2 w [.int .u8 x0, .int .u8 (d : Nat), .int .u8 (i : Nat), .int .i16 x3, .int .i32 x4] [.int .u8 1, .int .u8 op, .bool wd, .bool rg, .bool sg, .int .i64 sz] 40 42
  clear hcode hgL
  go_enter Try.func51, Try.ntmps51
  go_upto_region 1 with fail
  generalize (w.alloc (.cells #[.int .u8 x0, .int .u8 (d : Nat), .int .u8 (i : Nat), .int .i16 x3, .int .i32 x4] 40)).alloc (.cells #[.int .u8 1, .int .u8 op, .bool wd, .bool rg, .bool sg, .int .i64 sz] 42) = W at *
  have hrW := Below.refl W.heap.size W
  go_region_held3 (fun w' => Below w.heap.size w w' ∧ Below W.heap.size W w')
    (first | assumption | exact sdrew2 (by assumption) | exact ⟨hW0, hrW⟩ | exact ⟨hW0.drew, hrW.drew⟩)
    (first | (go_at_call 21; refine (hnx _ (by first | exact (show _ ∧ _ by assumption).1 | exact (sdrew2 (show _ ∧ _ by assumption)).1 | exact hW0.drew)).mono ?_; rintro e w2 ⟨rfl, hc2⟩; have hS2 := pstep2 (show Below w.heap.size w _ ∧ Below W.heap.size W _ by first | assumption | exact sdrew2 (by assumption) | exact ⟨hW0.drew, hrW.drew⟩) (Nat.le_refl _) (Nat.le_refl _) hc2))
  all_goals
    rename_i hS2
    obtain ⟨hb2, hc2⟩ := hS2
    have q0 := hx _ hc2 0 _ rfl
    have q1 := hx _ hc2 1 _ rfl
    have q2 := hx _ hc2 2 _ rfl
    have q3 := hx _ hc2 3 _ rfl
    have q4 := hx _ hc2 4 _ rfl
    have y0 := hy _ hc2 0 _ rfl
    have y1 := hy _ hc2 1 _ rfl
    have y2 := hy _ hc2 2 _ rfl
    have y3 := hy _ hc2 3 _ rfl
    have y4 := hy _ hc2 4 _ rfl
    have y5 := hy _ hc2 5 _ rfl
    clear hx hy hL hP hnx
    go_wp2_with fail
    refine (hcall _ hb2).mono ?_
    rintro e w3 ⟨rfl, hm3, hk3⟩
    go_wp2_with fail
    go_ret2
    exact ⟨⟨_, rfl, fun _ => by rw [HN.out]⟩, TurnM.reg hm3 hrole ((hK _ hb2).trans hk3 (fun _ _ e => e))⟩
set_option maxHeartbeats 2000000 in
theorem rdoes_5 {own : Own} {w : World} {pM : Nat} {g : Gh} {l : List Insn} {defs : List DefM} {m : MchM} (h : MchIn own w pM g l defs m) (hn : m.mem.length ≤ 1000000) (hcl : m.calls.length ≤ 1000000) (hdl : defs.length ≤ 1000) (hdf : ∀ d ∈ defs, defOk d = true) (hdr : m.draws.length ≤ 1000) (x : Insn) (s : What) (i d : Nat) (hw : Wants l m x s i d) (hk : s.kind = 5) :
    Calls Try.prog 51 #[.pointer (some ⟨pM, 0, none⟩), x.val, s.val] w (DoesOk own w pM l defs m (doesM m defs x (at' l (m.place + 1)) s)) := by
  have hD := does_5 (m := m) (defs := defs) (x := x) (y := at' l (m.place + 1)) (w := s) hk
  have hk12 : ¬ (sem (at' l m.place)).1.kind = 12 := by rw [hw.is, hw.sem]; omega
  obtain ⟨cL, hgL, hcode⟩ := h.code
  have hfew : l.length ≤ 100000 := Nat.le_trans hw.prog.few (by decide)
  have hL : ∀ w', Below w.heap.size w w' → w'.cell? ⟨pM, 0, none⟩ = some (.slice g.A l.length cL) := fun w' hb => by rw [← hgL]; exact (h.blk.below hb).cell rfl
  have hP : ∀ w', Below w.heap.size w w' → w'.cell? ⟨pM, 27, none⟩ = some (.int .i64 m.place) := fun w' hb => (h.blk.below hb).cell (mch_hi h.lr h.ls 4)
  have hnx := fun w' (hb : Below w.heap.size w w') => rnext_at l g.A cL m.place hfew hw.stands.at_ w w' hcode hb
  have hB := fun w' (hb : Below w.heap.size w w') => h.below hb
  have hK := fun w' (hb : Below w.heap.size w w') => Kept.of (X := fun b => b = pM) hb (Nat.le_refl _)
  have hrole := h.role
  have hi := hw.hi
  have hd := hw.hd
  have hsrc := hw.src
  have hdst := hw.dst
  have hcall := fun w' (hb : Below w.heap.size w w') => rload11 (h.below hb) hn x s i d hsrc hi hdst hd (hw.wok.fit (.inl hk))
  have HN := Lib.hid (next_step (l := l) (m := m) (d := ((loadMM m x s).1, false, (loadMM m x s).2)) hk12 rfl)
  rw [hD]
  generalize loadMM m x s = R at *
  clear hD h hw
  obtain ⟨x0, x1, x2, x3, x4⟩ := x
  obtain ⟨kd, op, wd, rg, sg, sz⟩ := s
  simp only [Insn.val, What.val] at *
  subst hsrc hdst
  subst hk
  obtain ⟨hW0, hx, hy⟩ := box2 w [.int .u8 x0, .int .u8 (d : Nat), .int .u8 (i : Nat), .int .i16 x3, .int .i32 x4] [.int .u8 5, .int .u8 op, .bool wd, .bool rg, .bool sg, .int .i64 sz] 40 42
  clear hcode hgL
  go_enter Try.func51, Try.ntmps51
  go_upto_region 1 with fail
  generalize (w.alloc (.cells #[.int .u8 x0, .int .u8 (d : Nat), .int .u8 (i : Nat), .int .i16 x3, .int .i32 x4] 40)).alloc (.cells #[.int .u8 5, .int .u8 op, .bool wd, .bool rg, .bool sg, .int .i64 sz] 42) = W at *
  have hrW := Below.refl W.heap.size W
  go_region_held3 (fun w' => Below w.heap.size w w' ∧ Below W.heap.size W w')
    (first | assumption | exact sdrew2 (by assumption) | exact ⟨hW0, hrW⟩ | exact ⟨hW0.drew, hrW.drew⟩)
    (first | (go_at_call 21; refine (hnx _ (by first | exact (show _ ∧ _ by assumption).1 | exact (sdrew2 (show _ ∧ _ by assumption)).1 | exact hW0.drew)).mono ?_; rintro e w2 ⟨rfl, hc2⟩; have hS2 := pstep2 (show Below w.heap.size w _ ∧ Below W.heap.size W _ by first | assumption | exact sdrew2 (by assumption) | exact ⟨hW0.drew, hrW.drew⟩) (Nat.le_refl _) (Nat.le_refl _) hc2))
  all_goals
    rename_i hS2
    obtain ⟨hb2, hc2⟩ := hS2
    have q0 := hx _ hc2 0 _ rfl
    have q1 := hx _ hc2 1 _ rfl
    have q2 := hx _ hc2 2 _ rfl
    have q3 := hx _ hc2 3 _ rfl
    have q4 := hx _ hc2 4 _ rfl
    have y0 := hy _ hc2 0 _ rfl
    have y1 := hy _ hc2 1 _ rfl
    have y2 := hy _ hc2 2 _ rfl
    have y3 := hy _ hc2 3 _ rfl
    have y4 := hy _ hc2 4 _ rfl
    have y5 := hy _ hc2 5 _ rfl
    clear hx hy hL hP hnx
    go_wp2_with fail
    refine (hcall _ hb2).mono ?_
    rintro e w3 ⟨rfl, hm3, hk3⟩
    go_wp2_with fail
    go_ret2
    exact ⟨⟨_, rfl, fun _ => by rw [HN.out]⟩, TurnM.reg hm3 hrole ((hK _ hb2).trans hk3 (fun _ _ e => e))⟩
set_option maxHeartbeats 2000000 in
theorem rdoes_678 {own : Own} {w : World} {pM : Nat} {g : Gh} {l : List Insn} {defs : List DefM} {m : MchM} (h : MchIn own w pM g l defs m) (hn : m.mem.length ≤ 1000000) (hcl : m.calls.length ≤ 1000000) (hdl : defs.length ≤ 1000) (hdf : ∀ d ∈ defs, defOk d = true) (hdr : m.draws.length ≤ 1000) (x : Insn) (s : What) (i d : Nat) (hw : Wants l m x s i d) (hk : s.kind = 6 ∨ s.kind = 7 ∨ s.kind = 8) :
    Calls Try.prog 51 #[.pointer (some ⟨pM, 0, none⟩), x.val, s.val] w (DoesOk own w pM l defs m (doesM m defs x (at' l (m.place + 1)) s)) := by
  have hD := does_6 (m := m) (defs := defs) (x := x) (y := at' l (m.place + 1)) (w := s) hk
  have hk12 : ¬ (sem (at' l m.place)).1.kind = 12 := by rw [hw.is, hw.sem]; omega
  obtain ⟨cL, hgL, hcode⟩ := h.code
  have hfew : l.length ≤ 100000 := Nat.le_trans hw.prog.few (by decide)
  have hL : ∀ w', Below w.heap.size w w' → w'.cell? ⟨pM, 0, none⟩ = some (.slice g.A l.length cL) := fun w' hb => by rw [← hgL]; exact (h.blk.below hb).cell rfl
  have hP : ∀ w', Below w.heap.size w w' → w'.cell? ⟨pM, 27, none⟩ = some (.int .i64 m.place) := fun w' hb => (h.blk.below hb).cell (mch_hi h.lr h.ls 4)
  have hnx := fun w' (hb : Below w.heap.size w w') => rnext_at l g.A cL m.place hfew hw.stands.at_ w w' hcode hb
  have hB := fun w' (hb : Below w.heap.size w w') => h.below hb
  have hK := fun w' (hb : Below w.heap.size w w') => Kept.of (X := fun b => b = pM) hb (Nat.le_refl _)
  have hrole := h.role
  have hi := hw.hi
  have hd := hw.hd
  have hsrc := hw.src
  have hdst := hw.dst
  have hcall := fun w' (hb : Below w.heap.size w w') => rstore11 (h.below hb) hn x s i d hsrc hi hdst hd (hw.wok.fit (.inr hk))
  have HN := Lib.hid (next_step (l := l) (m := m) (d := ((storeMM m x s).1, false, (storeMM m x s).2)) hk12 rfl)
  rw [hD]
  generalize storeMM m x s = R at *
  clear hD h hw hK
  obtain ⟨x0, x1, x2, x3, x4⟩ := x
  obtain ⟨kd, op, wd, rg, sg, sz⟩ := s
  simp only [Insn.val, What.val] at *
  subst hsrc hdst
  obtain ⟨hW0, hx, hy⟩ := box2 w [.int .u8 x0, .int .u8 (d : Nat), .int .u8 (i : Nat), .int .i16 x3, .int .i32 x4] [.int .u8 kd, .int .u8 op, .bool wd, .bool rg, .bool sg, .int .i64 sz] 40 42
  clear hcode hgL
  go_enter Try.func51, Try.ntmps51
  go_upto_region 1 with fail
  generalize (w.alloc (.cells #[.int .u8 x0, .int .u8 (d : Nat), .int .u8 (i : Nat), .int .i16 x3, .int .i32 x4] 40)).alloc (.cells #[.int .u8 kd, .int .u8 op, .bool wd, .bool rg, .bool sg, .int .i64 sz] 42) = W at *
  have hrW := Below.refl W.heap.size W
  go_region_held3 (fun w' => Below w.heap.size w w' ∧ Below W.heap.size W w')
    (first | assumption | exact sdrew2 (by assumption) | exact ⟨hW0, hrW⟩ | exact ⟨hW0.drew, hrW.drew⟩)
    (first | (go_at_call 21; refine (hnx _ (by first | exact (show _ ∧ _ by assumption).1 | exact (sdrew2 (show _ ∧ _ by assumption)).1 | exact hW0.drew)).mono ?_; rintro e w2 ⟨rfl, hc2⟩; have hS2 := pstep2 (show Below w.heap.size w _ ∧ Below W.heap.size W _ by first | assumption | exact sdrew2 (by assumption) | exact ⟨hW0.drew, hrW.drew⟩) (Nat.le_refl _) (Nat.le_refl _) hc2))
  all_goals
    rename_i hS2
    obtain ⟨hb2, hc2⟩ := hS2
    have q0 := hx _ hc2 0 _ rfl
    have q1 := hx _ hc2 1 _ rfl
    have q2 := hx _ hc2 2 _ rfl
    have q3 := hx _ hc2 3 _ rfl
    have q4 := hx _ hc2 4 _ rfl
    have y0 := hy _ hc2 0 _ rfl
    have y1 := hy _ hc2 1 _ rfl
    have y2 := hy _ hc2 2 _ rfl
    have y3 := hy _ hc2 3 _ rfl
    have y4 := hy _ hc2 4 _ rfl
    have y5 := hy _ hc2 5 _ rfl
    have hT : ∀ w3, MchIn own w3 pM g l defs R.1 → Kept own.areas _ w3 → TurnM own w pM l defs R.1 w3 := fun w3 a b => ⟨own, g, fun _ _ => rfl, a, (Kept.of (X := fun b => own b ≠ none) hb2 (Nat.le_refl _)).trans b (fun i _ e => by obtain ⟨k, e | e⟩ := e <;> simp [e])⟩
    have HT := Lib.hid hT
    clear hx hy hL hP hnx hT
    rcases hk with rfl | rfl | rfl
    all_goals
      go_wp2_with fail
      refine (hcall _ hb2).mono ?_
      rintro e w3 ⟨rfl, hm3, hk3⟩
      go_wp2_with fail
      go_ret2
      exact ⟨⟨_, rfl, fun _ => by rw [HN.out]⟩, HT.out _ hm3 hk3⟩
set_option maxHeartbeats 2000000 in
theorem rdoes_11 {own : Own} {w : World} {pM : Nat} {g : Gh} {l : List Insn} {defs : List DefM} {m : MchM} (h : MchIn own w pM g l defs m) (hn : m.mem.length ≤ 1000000) (hcl : m.calls.length ≤ 1000000) (hdl : defs.length ≤ 1000) (hdf : ∀ d ∈ defs, defOk d = true) (hdr : m.draws.length ≤ 1000) (x : Insn) (s : What) (i d : Nat) (hw : Wants l m x s i d) (hk : s.kind = 11) :
    Calls Try.prog 51 #[.pointer (some ⟨pM, 0, none⟩), x.val, s.val] w (DoesOk own w pM l defs m (doesM m defs x (at' l (m.place + 1)) s)) := by
  have hD := does_11 (m := m) (defs := defs) (x := x) (y := at' l (m.place + 1)) (w := s) hk
  have hk12 : ¬ (sem (at' l m.place)).1.kind = 12 := by rw [hw.is, hw.sem]; omega
  obtain ⟨cL, hgL, hcode⟩ := h.code
  have hfew : l.length ≤ 100000 := Nat.le_trans hw.prog.few (by decide)
  have hL : ∀ w', Below w.heap.size w w' → w'.cell? ⟨pM, 0, none⟩ = some (.slice g.A l.length cL) := fun w' hb => by rw [← hgL]; exact (h.blk.below hb).cell rfl
  have hP : ∀ w', Below w.heap.size w w' → w'.cell? ⟨pM, 27, none⟩ = some (.int .i64 m.place) := fun w' hb => (h.blk.below hb).cell (mch_hi h.lr h.ls 4)
  have hnx := fun w' (hb : Below w.heap.size w w') => rnext_at l g.A cL m.place hfew hw.stands.at_ w w' hcode hb
  have hB := fun w' (hb : Below w.heap.size w w') => h.below hb
  have hK := fun w' (hb : Below w.heap.size w w') => Kept.of (X := fun b => b = pM) hb (Nat.le_refl _)
  have hrole := h.role
  have hi := hw.hi
  have hd := hw.hd
  have hsrc := hw.src
  have hdst := hw.dst
  have hcall := fun w' (hb : Below w.heap.size w w') => rcall11 (h.below hb) hn hcl hdl hdf hdr x hw.xok
  have HN := Lib.hid (next_step (l := l) (m := m) (d := ((callM m defs x.imm).1, false, (callM m defs x.imm).2)) hk12 rfl)
  rw [hD]
  generalize callM m defs x.imm = R at *
  clear hD hw
  obtain ⟨x0, x1, x2, x3, x4⟩ := x
  obtain ⟨kd, op, wd, rg, sg, sz⟩ := s
  simp only [Insn.val, What.val] at *
  subst hsrc hdst
  subst hk
  obtain ⟨hW0, hx, hy⟩ := box2 w [.int .u8 x0, .int .u8 (d : Nat), .int .u8 (i : Nat), .int .i16 x3, .int .i32 x4] [.int .u8 11, .int .u8 op, .bool wd, .bool rg, .bool sg, .int .i64 sz] 40 42
  clear hcode hgL
  go_enter Try.func51, Try.ntmps51
  go_upto_region 1 with fail
  generalize (w.alloc (.cells #[.int .u8 x0, .int .u8 (d : Nat), .int .u8 (i : Nat), .int .i16 x3, .int .i32 x4] 40)).alloc (.cells #[.int .u8 11, .int .u8 op, .bool wd, .bool rg, .bool sg, .int .i64 sz] 42) = W at *
  have hrW := Below.refl W.heap.size W
  go_region_held3 (fun w' => Below w.heap.size w w' ∧ Below W.heap.size W w')
    (first | assumption | exact sdrew2 (by assumption) | exact ⟨hW0, hrW⟩ | exact ⟨hW0.drew, hrW.drew⟩)
    (first | (go_at_call 21; refine (hnx _ (by first | exact (show _ ∧ _ by assumption).1 | exact (sdrew2 (show _ ∧ _ by assumption)).1 | exact hW0.drew)).mono ?_; rintro e w2 ⟨rfl, hc2⟩; have hS2 := pstep2 (show Below w.heap.size w _ ∧ Below W.heap.size W _ by first | assumption | exact sdrew2 (by assumption) | exact ⟨hW0.drew, hrW.drew⟩) (Nat.le_refl _) (Nat.le_refl _) hc2))
  all_goals
    rename_i hS2
    obtain ⟨hb2, hc2⟩ := hS2
    have q0 := hx _ hc2 0 _ rfl
    have q1 := hx _ hc2 1 _ rfl
    have q2 := hx _ hc2 2 _ rfl
    have q3 := hx _ hc2 3 _ rfl
    have q4 := hx _ hc2 4 _ rfl
    have y0 := hy _ hc2 0 _ rfl
    have y1 := hy _ hc2 1 _ rfl
    have y2 := hy _ hc2 2 _ rfl
    have y3 := hy _ hc2 3 _ rfl
    have y4 := hy _ hc2 4 _ rfl
    have y5 := hy _ hc2 5 _ rfl
    have HT := Lib.hid (TurnM.same (w' := _) h hb2)
    clear hx hy hL hP hnx h hB
    go_wp2_with fail
    refine (hcall _ hb2).mono ?_
    rintro e w3 ⟨rfl, o3, g3, a1, a2, a3⟩
    go_wp2_with fail
    go_ret2
    exact ⟨⟨_, rfl, fun _ => by rw [HN.out]⟩, o3, g3, fun b hb => a1 b (Nat.lt_of_lt_of_le hb hb2.size), a2, (Kept.of (X := fun b => own b ≠ none) hb2 (Nat.le_refl _)).trans a3 (fun _ _ e => e)⟩
set_option maxHeartbeats 2000000 in
theorem rdoes_2 {own : Own} {w : World} {pM : Nat} {g : Gh} {l : List Insn} {defs : List DefM} {m : MchM} (h : MchIn own w pM g l defs m) (hn : m.mem.length ≤ 1000000) (hcl : m.calls.length ≤ 1000000) (hdl : defs.length ≤ 1000) (hdf : ∀ d ∈ defs, defOk d = true) (hdr : m.draws.length ≤ 1000) (x : Insn) (s : What) (i d : Nat) (hw : Wants l m x s i d) (hk : s.kind = 2) :
    Calls Try.prog 51 #[.pointer (some ⟨pM, 0, none⟩), x.val, s.val] w (DoesOk own w pM l defs m (doesM m defs x (at' l (m.place + 1)) s)) := by
  have hD := does_2 (m := m) (defs := defs) (x := x) (y := at' l (m.place + 1)) (w := s) hk
  have hk12 : ¬ (sem (at' l m.place)).1.kind = 12 := by rw [hw.is, hw.sem]; omega
  obtain ⟨cL, hgL, hcode⟩ := h.code
  have hfew : l.length ≤ 100000 := Nat.le_trans hw.prog.few (by decide)
  have hL : ∀ w', Below w.heap.size w w' → w'.cell? ⟨pM, 0, none⟩ = some (.slice g.A l.length cL) := fun w' hb => by rw [← hgL]; exact (h.blk.below hb).cell rfl
  have hP : ∀ w', Below w.heap.size w w' → w'.cell? ⟨pM, 27, none⟩ = some (.int .i64 m.place) := fun w' hb => (h.blk.below hb).cell (mch_hi h.lr h.ls 4)
  have hnx := fun w' (hb : Below w.heap.size w w') => rnext_at l g.A cL m.place hfew hw.stands.at_ w w' hcode hb
  have hB := fun w' (hb : Below w.heap.size w w') => h.below hb
  have hK := fun w' (hb : Below w.heap.size w w') => Kept.of (X := fun b => b = pM) hb (Nat.le_refl _)
  have hrole := h.role
  have hi := hw.hi
  have hd := hw.hd
  have hsrc := hw.src
  have hdst := hw.dst
  have hsz := hw.wok.sw hk
  have hru := h.reg_u64 d
  have hsw := swapG_ok s.wide (8 * s.size) (regM m d) hru
  have hput := fun n hn w' (hb : Below w.heap.size w w') => rput11 (h.below hb) d hd n hn
  have hset : ∀ w', Below w.heap.size w w' → w'.cell? ⟨pM, 12 + d, none⟩ = some (.bool (setM m d)) := fun w' hb => (h.blk.below hb).cell (mch_s h.lr h.ls d hd)
  have hreg : ∀ w', Below w.heap.size w w' → w'.cell? ⟨pM, 1 + d, none⟩ = some (.int .u64 (regM m d)) := fun w' hb => (h.blk.below hb).cell (mch_r h.lr d hd)
  rw [hdst] at hD
  obtain ⟨hsu, cs, hsc⟩ := hsw
  generalize (swapG s.wide (8 * s.size) (regM m d)).1 = Q at *
  have HN := Lib.hid (next_step (l := l) (m := m) (d := (putR m d Q, false, 0)) hk12 rfl)
  have HT := Lib.hid (fun w' hb => TurnM.same (own := own) (w := w) (w' := w') h hb)
  have hd2 : (d : Int) < 11 := by omega
  clear hw h hB
  obtain ⟨x0, x1, x2, x3, x4⟩ := x
  obtain ⟨kd, op, wd, rg, sg, sz⟩ := s
  simp only [Insn.val, What.val] at *
  subst hsrc hdst
  subst hk
  obtain ⟨hW0, hx, hy⟩ := box2 w [.int .u8 x0, .int .u8 (d : Nat), .int .u8 (i : Nat), .int .i16 x3, .int .i32 x4] [.int .u8 2, .int .u8 op, .bool wd, .bool rg, .bool sg, .int .i64 sz] 40 42
  clear hcode hgL
  go_enter Try.func51, Try.ntmps51
  go_upto_region 1 with fail
  generalize (w.alloc (.cells #[.int .u8 x0, .int .u8 (d : Nat), .int .u8 (i : Nat), .int .i16 x3, .int .i32 x4] 40)).alloc (.cells #[.int .u8 2, .int .u8 op, .bool wd, .bool rg, .bool sg, .int .i64 sz] 42) = W at *
  have hrW := Below.refl W.heap.size W
  go_region_held3 (fun w' => Below w.heap.size w w' ∧ Below W.heap.size W w')
    (first | assumption | exact sdrew2 (by assumption) | exact ⟨hW0, hrW⟩ | exact ⟨hW0.drew, hrW.drew⟩)
    (first | (go_at_call 21; refine (hnx _ (by first | exact (show _ ∧ _ by assumption).1 | exact (sdrew2 (show _ ∧ _ by assumption)).1 | exact hW0.drew)).mono ?_; rintro e w2 ⟨rfl, hc2⟩; have hS2 := pstep2 (show Below w.heap.size w _ ∧ Below W.heap.size W _ by first | assumption | exact sdrew2 (by assumption) | exact ⟨hW0.drew, hrW.drew⟩) (Nat.le_refl _) (Nat.le_refl _) hc2))
  all_goals
    rename_i hS2
    obtain ⟨hb2, hc2⟩ := hS2
    have q0 := hx _ hc2 0 _ rfl
    have q1 := hx _ hc2 1 _ rfl
    have q2 := hx _ hc2 2 _ rfl
    have q3 := hx _ hc2 3 _ rfl
    have q4 := hx _ hc2 4 _ rfl
    have y0 := hy _ hc2 0 _ rfl
    have y1 := hy _ hc2 1 _ rfl
    have y2 := hy _ hc2 2 _ rfl
    have y3 := hy _ hc2 3 _ rfl
    have y4 := hy _ hc2 4 _ rfl
    have y5 := hy _ hc2 5 _ rfl
    clear hL hP hnx
    cases hsd : setM m d with
    | false =>
      have hL := Lib.hid (hD.trans (if_pos hsd))
      have r1 := fun nq => hset _ (below_drewN hb2 nq)
      have q1n := fun nq => hx _ (below_drewN hc2 nq) 1 _ rfl
      rw [hsd] at r1
      clear hD hset hreg hput hsc
      go_upto_region 6 with fail
      go_quiet (fail)
      rename_i nq
      clear r1 q1n hx hy q0 q1 q2 q3 q4 y0 y1 y2 y3 y4 y5
      go_wp2_with fail
      go_ret2
      rw [hL.out]
      exact ⟨⟨_, rfl, fun e => absurd e (by show ¬ (110 : Int) = 0; decide)⟩, HT.out _ (below_drewN hb2 nq)⟩
    | true =>
      have hL := Lib.hid (hD.trans (if_neg (by rw [hsd]; decide)))
      have r1 := fun nq => hset _ (below_drewN hb2 nq)
      have q1n := fun nq => hx _ (below_drewN hc2 nq) 1 _ rfl
      rw [hsd] at r1
      have hwx : IntKind.i64.wrap (8 * sz) = 8 * sz := by rcases hsz with rfl | rfl | rfl <;> rfl
      clear hD hset
      go_upto_region 6 with fail
      go_quiet (fail)
      rename_i nq
      have hb3 := below_drewN hb2 nq
      have hc3 := below_drewN hc2 nq
      clear r1 q1n q0 q1 q2 q3 q4 y0 y1 y2 y3 y4 y5 hb2 hc2
      generalize w2.drewN nq = V at *
      have hb4 := hb3.drew
      have hc4 := hc3.drew
      have z1 := hx _ hc4 1 _ rfl
      have z2 := hy _ hc4 2 _ rfl
      have z3 := hy _ hc4 5 _ rfl
      have z4 := hreg _ hb4
      have z5 := hx _ hc3 1 _ rfl
      go_upto_region 8 with fail
      refine wp_region_still_lit (by kernel_rfl) (by kernel_rfl) ?_
      change wpStill _ _ V.drew _ _ _
      iterate 4 still_step
      try rw [hwx]
      repeat (first | still_step | (rw [hwx]; still_step) | still_call (hsc _))
      refine wpStill_nil ?_
      clear z2 z3 z4 z5 hreg hx hy hc3 hb3
      go_wp2_with fail
      refine (hput Q hsu _ hb4).mono ?_
      rintro e w3 ⟨rfl, hm3, hk3⟩
      go_wp2_with fail
      go_ret2
      rw [hL.out]
      exact ⟨⟨_, rfl, fun _ => by rw [HN.out]⟩, TurnM.reg hm3 hrole ((hK _ hb4).trans hk3 (fun _ _ e => e))⟩
set_option maxHeartbeats 2000000 in
theorem rdoes_3 {own : Own} {w : World} {pM : Nat} {g : Gh} {l : List Insn} {defs : List DefM} {m : MchM} (h : MchIn own w pM g l defs m) (hn : m.mem.length ≤ 1000000) (hcl : m.calls.length ≤ 1000000) (hdl : defs.length ≤ 1000) (hdf : ∀ d ∈ defs, defOk d = true) (hdr : m.draws.length ≤ 1000) (x : Insn) (s : What) (i d : Nat) (hw : Wants l m x s i d) (hk : s.kind = 3) :
    Calls Try.prog 51 #[.pointer (some ⟨pM, 0, none⟩), x.val, s.val] w (DoesOk own w pM l defs m (doesM m defs x (at' l (m.place + 1)) s)) := by
  have hD := does_3 (m := m) (defs := defs) (x := x) (y := at' l (m.place + 1)) (w := s) hk
  have hk12 : ¬ (sem (at' l m.place)).1.kind = 12 := by rw [hw.is, hw.sem]; omega
  obtain ⟨cL, hgL, hcode⟩ := h.code
  have hfew : l.length ≤ 100000 := Nat.le_trans hw.prog.few (by decide)
  have hL : ∀ w', Below w.heap.size w w' → w'.cell? ⟨pM, 0, none⟩ = some (.slice g.A l.length cL) := fun w' hb => by rw [← hgL]; exact (h.blk.below hb).cell rfl
  have hP : ∀ w', Below w.heap.size w w' → w'.cell? ⟨pM, 27, none⟩ = some (.int .i64 m.place) := fun w' hb => (h.blk.below hb).cell (mch_hi h.lr h.ls 4)
  have hnx := fun w' (hb : Below w.heap.size w w') => rnext_at l g.A cL m.place hfew hw.stands.at_ w w' hcode hb
  have hB := fun w' (hb : Below w.heap.size w w') => h.below hb
  have hK := fun w' (hb : Below w.heap.size w w') => Kept.of (X := fun b => b = pM) hb (Nat.le_refl _)
  have hrole := h.role
  have hi := hw.hi
  have hd := hw.hd
  have hsrc := hw.src
  have hdst := hw.dst
  have hhalf := hw.prog.half hw.stands.at_ hw.stands.start (by rw [hw.is]; exact hw.wok.num hk)
  obtain ⟨bA, oA, hgA, hbA, -⟩ := hcode.2 (by omega)
  have hcode2 := hcode
  rw [hgA] at hcode2
  have hln := fun w => rlong_any x (at' l (m.place + 1)) w
  have hlu : U64 (longI x.imm (at' l (m.place + 1)).imm) := by unfold longI U64; omega
  have hput := fun n hn w' (hb : Below w.heap.size w w') => rput11 (h.below hb) d hd n hn
  rw [hdst] at hD
  have hLe : x.imm % 4294967296 + 4294967296 * ((at' l (m.place + 1)).imm % 4294967296) = longI x.imm (at' l (m.place + 1)).imm := by unfold longI; omega
  rw [hLe] at hD
  have HN := Lib.hid (next_step (l := l) (m := m) (d := (putR m d (longI x.imm (at' l (m.place + 1)).imm), false, 0)) hk12 rfl)
  have hd2 : (d : Int) < 11 := by omega
  rw [hD]
  have hplt := h.blk.lt
  obtain ⟨u0, u1, u2, u3, u4⟩ := insn_at hcode2 hhalf.1
  have hSp : m.place < l.length := hw.stands.at_
  have hfw := hw.prog.few
  have hji : ((m.place + 1 : Nat) : Int) < (l.length : Int) := by have := hhalf.1; omega
  have hwr : IntKind.i64.wrap ((m.place : Int) + 1) = ((m.place + 1 : Nat) : Int) := by rw [IntKind.wrap_i64]; omega
  have hwd : IntKind.i64.wrap ((d : Nat) : Int) = ((d : Nat) : Int) := by rw [IntKind.wrap_i64]; omega
  have hbAlt : bA < w.heap.size := hbA
  have hnA : bA ≠ pM := fun e => by
    have := h.codeFar (by omega) bA oA hgA
    rw [e, hrole] at this; cases this
  have hpm0 := fun w' (hm : MchIn own w' pM g l defs (putR m d (longI x.imm (at' l (m.place + 1)).imm))) => (show w'.cell? ⟨pM, 0, none⟩ = some g.L from hm.blk.cell rfl)
  have hpm27 := fun w' (hm : MchIn own w' pM g l defs (putR m d (longI x.imm (at' l (m.place + 1)).imm))) => (show w'.cell? ⟨pM, 27, none⟩ = some (.int .i64 m.place) from hm.blk.cell (mch_hi hm.lr hm.ls 4))
  rw [hgL] at hpm0
  rw [hgA] at hL hpm0 hnx
  have HH := Lib.hid h
  clear hw hD hLe hhalf hcode2 h hB
  generalize hP1 : m.place + 1 = P1 at *
  clear hP1
  generalize hLo : longI x.imm (at' l P1).imm = LO at *
  generalize at' l P1 = y at *
  obtain ⟨x0, x1, x2, x3, x4⟩ := x
  obtain ⟨kd, op, wd, rg, sg, sz⟩ := s
  simp only [Insn.val, What.val] at *
  subst hsrc hdst
  subst hk
  obtain ⟨hW0, hx, hy⟩ := box2 w [.int .u8 x0, .int .u8 (d : Nat), .int .u8 (i : Nat), .int .i16 x3, .int .i32 x4] [.int .u8 3, .int .u8 op, .bool wd, .bool rg, .bool sg, .int .i64 sz] 40 42
  clear hcode hgL
  go_enter Try.func51, Try.ntmps51
  go_upto_region 1 with fail
  generalize (w.alloc (.cells #[.int .u8 x0, .int .u8 (d : Nat), .int .u8 (i : Nat), .int .i16 x3, .int .i32 x4] 40)).alloc (.cells #[.int .u8 3, .int .u8 op, .bool wd, .bool rg, .bool sg, .int .i64 sz] 42) = W at *
  have hrW := Below.refl W.heap.size W
  go_region_held3 (fun w' => Below w.heap.size w w' ∧ Below W.heap.size W w')
    (first | assumption | exact sdrew2 (by assumption) | exact ⟨hW0, hrW⟩ | exact ⟨hW0.drew, hrW.drew⟩)
    (first | (go_at_call 21; refine (hnx _ (by first | exact (show _ ∧ _ by assumption).1 | exact (sdrew2 (show _ ∧ _ by assumption)).1 | exact hW0.drew)).mono ?_; rintro e w2 ⟨rfl, hc2⟩; have hS2 := pstep2 (show Below w.heap.size w _ ∧ Below W.heap.size W _ by first | assumption | exact sdrew2 (by assumption) | exact ⟨hW0.drew, hrW.drew⟩) (Nat.le_refl _) (Nat.le_refl _) hc2))
  all_goals
    rename_i hS2
    obtain ⟨hb2, hc2⟩ := hS2
    have q0 := hx _ hc2 0 _ rfl
    have q1 := hx _ hc2 1 _ rfl
    have q2 := hx _ hc2 2 _ rfl
    have q3 := hx _ hc2 3 _ rfl
    have q4 := hx _ hc2 4 _ rfl
    have y0 := hy _ hc2 0 _ rfl
    have y1 := hy _ hc2 1 _ rfl
    have y2 := hy _ hc2 2 _ rfl
    have y3 := hy _ hc2 3 _ rfl
    have y4 := hy _ hc2 4 _ rfl
    have y5 := hy _ hc2 5 _ rfl
    have hb4 := hb2.drew
    have hc4 := hc2.drew
    have hne : w.heap.size ≠ pM := by omega
    have hzz : ∀ k u, w2.cell? ⟨w.heap.size, k, none⟩ = some u → ∀ w', Kept (fun b => b = pM) w2 w' → w'.cell? ⟨w.heap.size, k, none⟩ = some u := fun k u e w' hk => (hk.cell (World.block_lt_of_cell? w2 _ e) hne).trans e
    have k0 := hzz 0 _ q0
    have k1 := hzz 1 _ q1
    have k2 := hzz 2 _ q2
    have k3 := hzz 3 _ q3
    have k4 := hzz 4 _ q4
    have haa : ∀ k u, w2.cell? ⟨bA, k, none⟩ = some u → ∀ w', Kept (fun b => b = pM) w2 w' → w'.cell? ⟨bA, k, none⟩ = some u := fun k u e w' hk => (hk.cell (World.block_lt_of_cell? w2 _ e) hnA).trans e
    have a0 := haa _ _ (u0 _ hb2)
    have a1 := haa _ _ (u1 _ hb2)
    have a2 := haa _ _ (u2 _ hb2)
    have a3 := haa _ _ (u3 _ hb2)
    have a4 := haa _ _ (u4 _ hb2)
    have pL := hL _ hb4
    have pP := hP _ hb4
    have pL' := hL _ hb2
    have pP' := hP _ hb2
    have hk4 : Kept (fun b => b = pM) w2 w2.drew := Kept.refl.drew
    clear q0 q1 q2 q3 q4 y1 y2 y3 y4 y5 hzz haa u0 u1 u2 u3 u4 hx hy hnx
    go_upto_region 11 with fail
    clear y0
    go_region_held3 (fun w' => Kept (fun b => b = pM) w2 w' ∧ w'.cell? ⟨pM, 0, none⟩ = some (.slice (some ⟨bA, oA, none⟩) l.length cL) ∧ w'.cell? ⟨pM, 27, none⟩ = some (.int .i64 m.place))
      (first | assumption | exact ⟨hk4, pL, pP⟩ | exact ⟨hk5, pL5, pP5⟩ | exact ⟨hk6, pL6, pP6⟩)
      (first | (go_at_call 65; refine (hln _).mono ?_; rintro e w5 ⟨rfl, hb5⟩; have hb5w : Below w.heap.size w w5 := hb4.trans (hb5.mono hb4.size); have hk5 : Kept (fun b => b = pM) w2 w5 := hk4.trans (Kept.of (X := fun b => b = pM) hb5 (Nat.le_refl _)) (fun _ _ e => e); have pL5 := hL _ hb5w; have pP5 := hP _ hb5w) | (go_at_call 17; refine (hput LO hlu _ hb5w).mono ?_; rintro e w6 ⟨rfl, hm6, hk56⟩; have hk6 : Kept (fun b => b = pM) w2 w6 := hk5.trans hk56 (fun _ _ e => e); have pL6 := hpm0 _ hm6; have pP6 := hpm27 _ hm6))
    all_goals
      clear k0 k1 k2 k3 k4 a0 a1 a2 a3 a4
      go_wp2_with fail
      go_ret2
      exact ⟨⟨_, rfl, fun _ => by rw [HN.out]⟩, TurnM.reg hm6 hrole ((hK _ hb2).trans hk6 (fun _ _ e => e))⟩
set_option maxHeartbeats 2000000 in
theorem rdoes_4 {own : Own} {w : World} {pM : Nat} {g : Gh} {l : List Insn} {defs : List DefM} {m : MchM} (h : MchIn own w pM g l defs m) (hn : m.mem.length ≤ 1000000) (hcl : m.calls.length ≤ 1000000) (hdl : defs.length ≤ 1000) (hdf : ∀ d ∈ defs, defOk d = true) (hdr : m.draws.length ≤ 1000) (x : Insn) (s : What) (i d : Nat) (hw : Wants l m x s i d) (hk : s.kind = 4) :
    Calls Try.prog 51 #[.pointer (some ⟨pM, 0, none⟩), x.val, s.val] w (DoesOk own w pM l defs m (doesM m defs x (at' l (m.place + 1)) s)) := by
  have hD := does_4 (m := m) (defs := defs) (x := x) (y := at' l (m.place + 1)) (w := s) hk
  have hk12 : ¬ (sem (at' l m.place)).1.kind = 12 := by rw [hw.is, hw.sem]; omega
  obtain ⟨cL, hgL, hcode⟩ := h.code
  have hfew : l.length ≤ 100000 := Nat.le_trans hw.prog.few (by decide)
  have hL : ∀ w', Below w.heap.size w w' → w'.cell? ⟨pM, 0, none⟩ = some (.slice g.A l.length cL) := fun w' hb => by rw [← hgL]; exact (h.blk.below hb).cell rfl
  have hP : ∀ w', Below w.heap.size w w' → w'.cell? ⟨pM, 27, none⟩ = some (.int .i64 m.place) := fun w' hb => (h.blk.below hb).cell (mch_hi h.lr h.ls 4)
  have hnx := fun w' (hb : Below w.heap.size w w') => rnext_at l g.A cL m.place hfew hw.stands.at_ w w' hcode hb
  have hB := fun w' (hb : Below w.heap.size w w') => h.below hb
  have hK := fun w' (hb : Below w.heap.size w w') => Kept.of (X := fun b => b = pM) hb (Nat.le_refl _)
  have hrole := h.role
  have hi := hw.hi
  have hd := hw.hd
  have hsrc := hw.src
  have hdst := hw.dst
  have himm := hw.wok.tab hk
  have hxi := hw.xok.imm1
  have hput := fun n hn w' (hb : Below w.heap.size w w') => rput11 (h.below hb) d hd n hn
  obtain ⟨cD, hDe, -⟩ := h.maps
  have hM : ∀ w', Below w.heap.size w w' → w'.cell? ⟨pM, 25, none⟩ = some (.slice g.AD defs.length cD) := fun w' hb => by
    have := (h.blk.below hb).cell (mch_hi h.lr h.ls 2)
    rw [this]; simp [hDe]
  rw [hdst] at hD
  have HN := Lib.hid (next_step (l := l) (m := m) (d := (putR m d (3 * 4294967296 + x.imm), false, 0)) hk12 rfl)
  have HT := Lib.hid (fun w' hb => TurnM.same (own := own) (w := w) (w' := w') h hb)
  have hd2 : (d : Int) < 11 := by omega
  have hwd : IntKind.i64.wrap ((d : Nat) : Int) = ((d : Nat) : Int) := by rw [IntKind.wrap_i64]; omega
  clear hw h hB hDe
  obtain ⟨x0, x1, x2, x3, x4⟩ := x
  obtain ⟨kd, op, wd, rg, sg, sz⟩ := s
  simp only [Insn.val, What.val] at *
  subst hsrc hdst
  subst hk
  obtain ⟨hW0, hx, hy⟩ := box2 w [.int .u8 x0, .int .u8 (d : Nat), .int .u8 (i : Nat), .int .i16 x3, .int .i32 x4] [.int .u8 4, .int .u8 op, .bool wd, .bool rg, .bool sg, .int .i64 sz] 40 42
  clear hcode hgL
  go_enter Try.func51, Try.ntmps51
  go_upto_region 1 with fail
  generalize (w.alloc (.cells #[.int .u8 x0, .int .u8 (d : Nat), .int .u8 (i : Nat), .int .i16 x3, .int .i32 x4] 40)).alloc (.cells #[.int .u8 4, .int .u8 op, .bool wd, .bool rg, .bool sg, .int .i64 sz] 42) = W at *
  have hrW := Below.refl W.heap.size W
  go_region_held3 (fun w' => Below w.heap.size w w' ∧ Below W.heap.size W w')
    (first | assumption | exact sdrew2 (by assumption) | exact ⟨hW0, hrW⟩ | exact ⟨hW0.drew, hrW.drew⟩)
    (first | (go_at_call 21; refine (hnx _ (by first | exact (show _ ∧ _ by assumption).1 | exact (sdrew2 (show _ ∧ _ by assumption)).1 | exact hW0.drew)).mono ?_; rintro e w2 ⟨rfl, hc2⟩; have hS2 := pstep2 (show Below w.heap.size w _ ∧ Below W.heap.size W _ by first | assumption | exact sdrew2 (by assumption) | exact ⟨hW0.drew, hrW.drew⟩) (Nat.le_refl _) (Nat.le_refl _) hc2))
  all_goals
    rename_i hS2
    obtain ⟨hb2, hc2⟩ := hS2
    have q0 := hx _ hc2 0 _ rfl
    have q1 := hx _ hc2 1 _ rfl
    have q2 := hx _ hc2 2 _ rfl
    have q3 := hx _ hc2 3 _ rfl
    have q4 := hx _ hc2 4 _ rfl
    have y0 := hy _ hc2 0 _ rfl
    have y1 := hy _ hc2 1 _ rfl
    have y2 := hy _ hc2 2 _ rfl
    have y3 := hy _ hc2 3 _ rfl
    have y4 := hy _ hc2 4 _ rfl
    have y5 := hy _ hc2 5 _ rfl
    clear hL hP hnx
    have hwx : IntKind.i64.wrap x4 = x4 := by rw [IntKind.wrap_i64]; omega
    have r1 := fun nq => hM _ (below_drewN hb2 nq)
    have q4n := fun nq => hx _ (below_drewN hc2 nq) 4 _ rfl
    by_cases hle : (defs.length : Int) ≤ x4
    · have hL := Lib.hid (hD.trans (if_pos hle))
      have hge : decide (x4 ≥ (defs.length : Int)) = true := by simpa using hle
      clear hD hM hput
      go_upto_region 13 with fail
      go_quiet (fail)
      rename_i nq
      clear r1 q4n hx hy q0 q1 q2 q3 q4 y0 y1 y2 y3 y4 y5
      go_wp2_with fail
      go_ret2
      rw [hL.out]
      exact ⟨⟨_, rfl, fun e => absurd e (by show ¬ (113 : Int) = 0; decide)⟩, HT.out _ (below_drewN hb2 nq)⟩
    · have hL := Lib.hid (hD.trans (if_neg hle))
      obtain ⟨k, rfl⟩ := Int.eq_ofNat_of_zero_le himm
      have hwo := fun w => rword11 k (by omega) w
      have hwu : U64 (wordM k) := by unfold wordM U64; omega
      have HW := Lib.hid (show 3 * 4294967296 + ((k : Nat) : Int) = wordM k from rfl)
      clear hD hM
      generalize wordM k = Q at *
      go_upto_region 13 with fail
      go_quiet (fail)
      rename_i nq
      have hb3 := below_drewN hb2 nq
      have hc3 := below_drewN hc2 nq
      clear r1 q4n q0 q1 q2 q3 q4 y0 y1 y2 y3 y4 y5 hb2 hc2
      generalize w2.drewN nq = V at *
      have hb4 := hb3.drew
      have hc4 := hc3.drew
      have z1 := hx _ hc4 1 _ rfl
      have z4 := hx _ hc4 4 _ rfl
      go_upto_region 15 with fail
      refine wp_region_still_tail 8 (by kernel_rfl) (by kernel_rfl) ?_
      simp only [List.take_succ_cons, List.take_zero, List.drop_succ_cons, List.drop_zero]
      change wpStill _ _ V.drew _ _ _
      repeat (first | still_step | still_call (hwo _) | (rw [hwx]; still_step) | (rw [hwx]; still_call (hwo _)))
      refine wpStill_nil ?_
      change wpList _ _ _ _ _ V.drew
      clear z1 z4 hx hy hc3 hb3
      generalize V.drew = V2 at *
      go_wp2_with fail
      refine (hput Q hwu _ hb4).mono ?_
      rintro e w3 ⟨rfl, hm3, hk3⟩
      go_wp2_with fail
      go_ret2
      rw [hL.out]
      refine ⟨⟨_, rfl, fun _ => by rw [HN.out]⟩, ?_⟩
      rw [HW.out]
      exact TurnM.reg hm3 hrole ((hK _ hb4).trans hk3 (fun _ _ e => e))
set_option maxHeartbeats 2000000 in
theorem rdoes_9 {own : Own} {w : World} {pM : Nat} {g : Gh} {l : List Insn} {defs : List DefM} {m : MchM} (h : MchIn own w pM g l defs m) (hn : m.mem.length ≤ 1000000) (hcl : m.calls.length ≤ 1000000) (hdl : defs.length ≤ 1000) (hdf : ∀ d ∈ defs, defOk d = true) (hdr : m.draws.length ≤ 1000) (x : Insn) (s : What) (i d : Nat) (hw : Wants l m x s i d) (hk : s.kind = 9) :
    Calls Try.prog 51 #[.pointer (some ⟨pM, 0, none⟩), x.val, s.val] w (DoesOk own w pM l defs m (doesM m defs x (at' l (m.place + 1)) s)) := by
  have hD := does_jump (m := m) (defs := defs) (x := x) (y := at' l (m.place + 1)) (w := s) hk
  have hk12 : ¬ (sem (at' l m.place)).1.kind = 12 := by rw [hw.is, hw.sem]; omega
  obtain ⟨cL, hgL, hcode⟩ := h.code
  have hfew : l.length ≤ 100000 := Nat.le_trans hw.prog.few (by decide)
  have hL : ∀ w', Below w.heap.size w w' → w'.cell? ⟨pM, 0, none⟩ = some (.slice g.A l.length cL) := fun w' hb => by rw [← hgL]; exact (h.blk.below hb).cell rfl
  have hP : ∀ w', Below w.heap.size w w' → w'.cell? ⟨pM, 27, none⟩ = some (.int .i64 m.place) := fun w' hb => (h.blk.below hb).cell (mch_hi h.lr h.ls 4)
  have hnx := fun w' (hb : Below w.heap.size w w') => rnext_at l g.A cL m.place hfew hw.stands.at_ w w' hcode hb
  have hB := fun w' (hb : Below w.heap.size w w') => h.below hb
  have hK := fun w' (hb : Below w.heap.size w w') => Kept.of (X := fun b => b = pM) hb (Nat.le_refl _)
  have hrole := h.role
  have hi := hw.hi
  have hd := hw.hd
  have hsrc := hw.src
  have hdst := hw.dst
  obtain ⟨t, -, -, ht, -⟩ := hw.prog.goes_at hw.stands.at_ hw.stands.start (.inl (by show (sem (at' l m.place)).1.kind = 9; rw [hw.is, hw.sem]; exact hk))
  have hSp : m.place < l.length := hw.stands.at_
  have htg := fun w' (hb : Below w.heap.size w w') => rtarget_any l hw.oks g.A cL hfew m.place (by omega) (by omega) w' ((hcode.below hb).more hb.size)
  have HN := Lib.hid (next_goes (l := l) (m := m) (d := (m, true, 0)) hk12 rfl)
  rw [ht] at HN htg
  have HT := Lib.hid (fun w' hb => TurnM.same (own := own) (w := w) (w' := w') h hb)
  rw [hD]
  clear hD h hw hB
  obtain ⟨x0, x1, x2, x3, x4⟩ := x
  obtain ⟨kd, op, wd, rg, sg, sz⟩ := s
  simp only [Insn.val, What.val] at *
  subst hsrc hdst
  subst hk
  obtain ⟨hW0, hx, hy⟩ := box2 w [.int .u8 x0, .int .u8 (d : Nat), .int .u8 (i : Nat), .int .i16 x3, .int .i32 x4] [.int .u8 9, .int .u8 op, .bool wd, .bool rg, .bool sg, .int .i64 sz] 40 42
  clear hcode hgL
  go_enter Try.func51, Try.ntmps51
  go_upto_region 1 with fail
  generalize (w.alloc (.cells #[.int .u8 x0, .int .u8 (d : Nat), .int .u8 (i : Nat), .int .i16 x3, .int .i32 x4] 40)).alloc (.cells #[.int .u8 9, .int .u8 op, .bool wd, .bool rg, .bool sg, .int .i64 sz] 42) = W at *
  have hrW := Below.refl W.heap.size W
  go_region_held3 (fun w' => Below w.heap.size w w' ∧ Below W.heap.size W w')
    (first | assumption | exact sdrew2 (by assumption) | exact ⟨hW0, hrW⟩ | exact ⟨hW0.drew, hrW.drew⟩)
    (first | (go_at_call 21; refine (hnx _ (by first | exact (show _ ∧ _ by assumption).1 | exact (sdrew2 (show _ ∧ _ by assumption)).1 | exact hW0.drew)).mono ?_; rintro e w2 ⟨rfl, hc2⟩; have hS2 := pstep2 (show Below w.heap.size w _ ∧ Below W.heap.size W _ by first | assumption | exact sdrew2 (by assumption) | exact ⟨hW0.drew, hrW.drew⟩) (Nat.le_refl _) (Nat.le_refl _) hc2))
  all_goals
    rename_i hS2
    obtain ⟨hb2, hc2⟩ := hS2
    have q0 := hx _ hc2 0 _ rfl
    have q1 := hx _ hc2 1 _ rfl
    have q2 := hx _ hc2 2 _ rfl
    have q3 := hx _ hc2 3 _ rfl
    have q4 := hx _ hc2 4 _ rfl
    have y0 := hy _ hc2 0 _ rfl
    have y1 := hy _ hc2 1 _ rfl
    have y2 := hy _ hc2 2 _ rfl
    have y3 := hy _ hc2 3 _ rfl
    have y4 := hy _ hc2 4 _ rfl
    have y5 := hy _ hc2 5 _ rfl
    clear q0 q1 q2 q3 q4 y1 y2 y3 y4 y5 hnx
    go_upto_region 23 with fail
    go_region_held3 (fun w' => Below w.heap.size w w' ∧ Below W.heap.size W w')
      (first | assumption | exact ⟨hb2, hc2⟩ | exact ⟨hb2.drew, hc2.drew⟩ | exact sdrew2 (by assumption))
      (first | (go_at_call 7; refine (htg _ (by first | exact (show _ ∧ _ by assumption).1 | exact hb2.drew)).mono ?_; rintro e w3 ⟨rfl, hc3⟩; have hS3 := pstep2 (show Below w.heap.size w _ ∧ Below W.heap.size W _ by first | assumption | exact ⟨hb2.drew, hc2.drew⟩) (Nat.le_refl _) (Nat.le_refl _) hc3))
    all_goals
      go_wp2_with fail
      go_ret2
      exact ⟨⟨_, rfl, fun _ => by rw [HN.out]; rfl⟩, HT.out _ hS3.1⟩
set_option maxHeartbeats 2000000 in
theorem rdoes_12 {own : Own} {w : World} {pM : Nat} {g : Gh} {l : List Insn} {defs : List DefM} {m : MchM} (h : MchIn own w pM g l defs m) (hn : m.mem.length ≤ 1000000) (hcl : m.calls.length ≤ 1000000) (hdl : defs.length ≤ 1000) (hdf : ∀ d ∈ defs, defOk d = true) (hdr : m.draws.length ≤ 1000) (x : Insn) (s : What) (i d : Nat) (hw : Wants l m x s i d) (hk : s.kind = 12) :
    Calls Try.prog 51 #[.pointer (some ⟨pM, 0, none⟩), x.val, s.val] w (DoesOk own w pM l defs m (doesM m defs x (at' l (m.place + 1)) s)) := by
  have hD := does_12 (m := m) (defs := defs) (x := x) (y := at' l (m.place + 1)) (w := s) hk
  have hk12 : (sem (at' l m.place)).1.kind = 12 := by rw [hw.is, hw.sem]; exact hk
  obtain ⟨cL, hgL, hcode⟩ := h.code
  have hfew : l.length ≤ 100000 := Nat.le_trans hw.prog.few (by decide)
  have hL : ∀ w', Below w.heap.size w w' → w'.cell? ⟨pM, 0, none⟩ = some (.slice g.A l.length cL) := fun w' hb => by rw [← hgL]; exact (h.blk.below hb).cell rfl
  have hP : ∀ w', Below w.heap.size w w' → w'.cell? ⟨pM, 27, none⟩ = some (.int .i64 m.place) := fun w' hb => (h.blk.below hb).cell (mch_hi h.lr h.ls 4)
  have hnx := fun w' (hb : Below w.heap.size w w') => rnext_at l g.A cL m.place hfew hw.stands.at_ w w' hcode hb
  have hB := fun w' (hb : Below w.heap.size w w') => h.below hb
  have hK := fun w' (hb : Below w.heap.size w w') => Kept.of (X := fun b => b = pM) hb (Nat.le_refl _)
  have hrole := h.role
  have hi := hw.hi
  have hd := hw.hd
  have hsrc := hw.src
  have hdst := hw.dst
  have hset : ∀ w', Below w.heap.size w w' → w'.cell? ⟨pM, 12, none⟩ = some (.bool (setM m 0)) := fun w' hb => (h.blk.below hb).cell (mch_s h.lr h.ls 0 (by decide))
  have HN := Lib.hid (next_over (l := l) (m := m) (d := ({ m with over := true }, false, 0)) hk12)
  have HT := Lib.hid (fun w' hb => TurnM.same (own := own) (w := w) (w' := w') h hb)
  have HH := Lib.hid h
  clear hw h
  obtain ⟨x0, x1, x2, x3, x4⟩ := x
  obtain ⟨kd, op, wd, rg, sg, sz⟩ := s
  simp only [Insn.val, What.val] at *
  subst hsrc hdst
  subst hk
  obtain ⟨hW0, hx, hy⟩ := box2 w [.int .u8 x0, .int .u8 (d : Nat), .int .u8 (i : Nat), .int .i16 x3, .int .i32 x4] [.int .u8 12, .int .u8 op, .bool wd, .bool rg, .bool sg, .int .i64 sz] 40 42
  clear hcode hgL
  go_enter Try.func51, Try.ntmps51
  go_upto_region 1 with fail
  generalize (w.alloc (.cells #[.int .u8 x0, .int .u8 (d : Nat), .int .u8 (i : Nat), .int .i16 x3, .int .i32 x4] 40)).alloc (.cells #[.int .u8 12, .int .u8 op, .bool wd, .bool rg, .bool sg, .int .i64 sz] 42) = W at *
  have hrW := Below.refl W.heap.size W
  go_region_held3 (fun w' => Below w.heap.size w w' ∧ Below W.heap.size W w')
    (first | assumption | exact sdrew2 (by assumption) | exact ⟨hW0, hrW⟩ | exact ⟨hW0.drew, hrW.drew⟩)
    (first | (go_at_call 21; refine (hnx _ (by first | exact (show _ ∧ _ by assumption).1 | exact (sdrew2 (show _ ∧ _ by assumption)).1 | exact hW0.drew)).mono ?_; rintro e w2 ⟨rfl, hc2⟩; have hS2 := pstep2 (show Below w.heap.size w _ ∧ Below W.heap.size W _ by first | assumption | exact sdrew2 (by assumption) | exact ⟨hW0.drew, hrW.drew⟩) (Nat.le_refl _) (Nat.le_refl _) hc2))
  all_goals
    rename_i hS2
    obtain ⟨hb2, hc2⟩ := hS2
    have q0 := hx _ hc2 0 _ rfl
    have q1 := hx _ hc2 1 _ rfl
    have q2 := hx _ hc2 2 _ rfl
    have q3 := hx _ hc2 3 _ rfl
    have q4 := hx _ hc2 4 _ rfl
    have y0 := hy _ hc2 0 _ rfl
    have y1 := hy _ hc2 1 _ rfl
    have y2 := hy _ hc2 2 _ rfl
    have y3 := hy _ hc2 3 _ rfl
    have y4 := hy _ hc2 4 _ rfl
    have y5 := hy _ hc2 5 _ rfl
    clear hL hnx
    have p12 := hset _ hb2
    cases hsd : setM m 0 with
    | false =>
      have hL := Lib.hid (hD.trans (if_pos hsd))
      rw [hsd] at p12
      clear hD hset hB hP
      go_wp2_with fail
      go_ret2
      rw [hL.out]
      exact ⟨⟨_, rfl, fun e => absurd e (by show ¬ (110 : Int) = 0; decide)⟩, HT.out _ hb2⟩
    | true =>
      have hL := Lib.hid (hD.trans (if_neg (by rw [hsd]; decide)))
      rw [hsd] at p12
      have hm2 := hB _ hb2
      have p28 : w2.cell? ⟨pM, 28, none⟩ = some (.bool m.over) := hm2.blk.cell (mch_hi hm2.lr hm2.ls 5)
      have f28 := hm2.blk.free 28
      have hset2 := hm2.blk.set (k := 28) (by rw [mch_len hm2.lr hm2.ls]; decide) (.bool true)
      rw [show (mchCells g m).set 28 (.bool true) = mchCells g { m with over := true } from mch_set_hi (g := g) (m := m) (m' := { m with over := true }) hm2.lr hm2.ls 5 (.bool true) rfl rfl rfl rfl] at hset2
      have hks : Kept (fun b => b = pM) w2 (w2.setCell ⟨pM, 28, none⟩ (.bool true)) := Kept.set Kept.refl rfl
      have hm3 := hm2.regs hks { m with over := true } hset2 hm2.lr hm2.ls hm2.u64 rfl rfl rfl rfl
      have p27 : (w2.setCell ⟨pM, 28, none⟩ (.bool true)).cell? ⟨pM, 27, none⟩ = some (.int .i64 m.place) := hm3.blk.cell (mch_hi hm3.lr hm3.ls 4)
      have HM := Lib.hid (TurnM.reg hm3 hrole ((hK _ hb2).trans hks (fun _ _ e => e)))
      clear hD hset hB hP hm2 hset2 hks hm3
      go_wp2_with fail
      go_ret2
      rw [hL.out]
      exact ⟨⟨_, rfl, fun _ => by rw [HN.out]⟩, HM.out⟩
set_option maxHeartbeats 2000000 in
theorem rdoes_10 {own : Own} {w : World} {pM : Nat} {g : Gh} {l : List Insn} {defs : List DefM} {m : MchM} (h : MchIn own w pM g l defs m) (hn : m.mem.length ≤ 1000000) (hcl : m.calls.length ≤ 1000000) (hdl : defs.length ≤ 1000) (hdf : ∀ d ∈ defs, defOk d = true) (hdr : m.draws.length ≤ 1000) (x : Insn) (s : What) (i d : Nat) (hw : Wants l m x s i d) (hk : s.kind = 10) :
    Calls Try.prog 51 #[.pointer (some ⟨pM, 0, none⟩), x.val, s.val] w (DoesOk own w pM l defs m (doesM m defs x (at' l (m.place + 1)) s)) := by
  have hD := does_10 (m := m) (defs := defs) (x := x) (y := at' l (m.place + 1)) (w := s) hk
  have hk12 : ¬ (sem (at' l m.place)).1.kind = 12 := by rw [hw.is, hw.sem]; omega
  obtain ⟨cL, hgL, hcode⟩ := h.code
  have hfew : l.length ≤ 100000 := Nat.le_trans hw.prog.few (by decide)
  have hL : ∀ w', Below w.heap.size w w' → w'.cell? ⟨pM, 0, none⟩ = some (.slice g.A l.length cL) := fun w' hb => by rw [← hgL]; exact (h.blk.below hb).cell rfl
  have hP : ∀ w', Below w.heap.size w w' → w'.cell? ⟨pM, 27, none⟩ = some (.int .i64 m.place) := fun w' hb => (h.blk.below hb).cell (mch_hi h.lr h.ls 4)
  have hnx := fun w' (hb : Below w.heap.size w w') => rnext_at l g.A cL m.place hfew hw.stands.at_ w w' hcode hb
  have hB := fun w' (hb : Below w.heap.size w w') => h.below hb
  have hK := fun w' (hb : Below w.heap.size w w') => Kept.of (X := fun b => b = pM) hb (Nat.le_refl _)
  have hrole := h.role
  have hi := hw.hi
  have hd := hw.hd
  have hsrc := hw.src
  have hdst := hw.dst
  obtain ⟨t, -, -, ht, -⟩ := hw.prog.goes_at hw.stands.at_ hw.stands.start (.inr (by show (sem (at' l m.place)).1.kind = 10; rw [hw.is, hw.sem]; exact hk))
  have hSp : m.place < l.length := hw.stands.at_
  have htg := fun w' (hb : Below w.heap.size w w') => rtarget_any l hw.oks g.A cL hfew m.place (by omega) (by omega) w' ((hcode.below hb).more hb.size)
  rw [ht] at htg
  have HG := Lib.hid (show nextM l m (m, true, 0) = t from by rw [next_goes (l := l) (m := m) (d := (m, true, 0)) hk12 rfl, ht]; rfl)
  have HN := Lib.hid (next_step (l := l) (m := m) (d := (m, false, 0)) hk12 rfl)
  have HT := Lib.hid (fun w' hb => TurnM.same (own := own) (w := w) (w' := w') h hb)
  have hset : ∀ w', Below w.heap.size w w' → w'.cell? ⟨pM, 12 + d, none⟩ = some (.bool (setM m d)) := fun w' hb => (h.blk.below hb).cell (mch_s h.lr h.ls d hd)
  have hreg : ∀ w', Below w.heap.size w w' → w'.cell? ⟨pM, 1 + d, none⟩ = some (.int .u64 (regM m d)) := fun w' hb => (h.blk.below hb).cell (mch_r h.lr d hd)
  have hsec := fun w' (hb : Below w.heap.size w w') => rsecond11 (h.below hb) x s i hsrc hi
  have hsu := secondM_u64 h x s i hsrc
  have hru := h.reg_u64 d
  rw [hdst] at hD
  have his := isG_ok s.op s.wide (regM m d) (secondM m x s).1 hru hsu
  generalize (secondM m x s).1 = sn at *
  generalize (secondM m x s).2 = sf at *
  generalize isG s.op s.wide (regM m d) sn = Q at *
  obtain ⟨ci, hic⟩ := his
  have hd2 : (d : Int) < 11 := by omega
  have HD := Lib.hid hD
  clear hw h hB hD
  obtain ⟨x0, x1, x2, x3, x4⟩ := x
  obtain ⟨kd, op, wd, rg, sg, sz⟩ := s
  simp only [Insn.val, What.val] at *
  subst hsrc hdst
  subst hk
  obtain ⟨hW0, hx, hy⟩ := box2 w [.int .u8 x0, .int .u8 (d : Nat), .int .u8 (i : Nat), .int .i16 x3, .int .i32 x4] [.int .u8 10, .int .u8 op, .bool wd, .bool rg, .bool sg, .int .i64 sz] 40 42
  clear hcode hgL
  go_enter Try.func51, Try.ntmps51
  go_upto_region 1 with fail
  generalize (w.alloc (.cells #[.int .u8 x0, .int .u8 (d : Nat), .int .u8 (i : Nat), .int .i16 x3, .int .i32 x4] 40)).alloc (.cells #[.int .u8 10, .int .u8 op, .bool wd, .bool rg, .bool sg, .int .i64 sz] 42) = W at *
  have hrW := Below.refl W.heap.size W
  go_region_held3 (fun w' => Below w.heap.size w w' ∧ Below W.heap.size W w')
    (first | assumption | exact sdrew2 (by assumption) | exact ⟨hW0, hrW⟩ | exact ⟨hW0.drew, hrW.drew⟩)
    (first | (go_at_call 21; refine (hnx _ (by first | exact (show _ ∧ _ by assumption).1 | exact (sdrew2 (show _ ∧ _ by assumption)).1 | exact hW0.drew)).mono ?_; rintro e w2 ⟨rfl, hc2⟩; have hS2 := pstep2 (show Below w.heap.size w _ ∧ Below W.heap.size W _ by first | assumption | exact sdrew2 (by assumption) | exact ⟨hW0.drew, hrW.drew⟩) (Nat.le_refl _) (Nat.le_refl _) hc2))
  all_goals
    rename_i hS2
    obtain ⟨hb2, hc2⟩ := hS2
    have q0 := hx _ hc2 0 _ rfl
    have q1 := hx _ hc2 1 _ rfl
    have q2 := hx _ hc2 2 _ rfl
    have q3 := hx _ hc2 3 _ rfl
    have q4 := hx _ hc2 4 _ rfl
    have y0 := hy _ hc2 0 _ rfl
    have y1 := hy _ hc2 1 _ rfl
    have y2 := hy _ hc2 2 _ rfl
    have y3 := hy _ hc2 3 _ rfl
    have y4 := hy _ hc2 4 _ rfl
    have y5 := hy _ hc2 5 _ rfl
    clear hnx
    go_wp2_with fail
    refine (hsec _ hb2).mono ?_
    rintro e w3 ⟨rfl, hb3'⟩
    have hS3 := pstep2 (And.intro hb2 hc2) (Nat.le_refl _) (Nat.le_refl _) hb3'
    obtain ⟨hb3, hc3⟩ := hS3
    clear q0 q1 q2 q3 q4 y0 y1 y2 y3 y4 y5 hb2 hc2 hb3' hsec
    have r1 := fun nq => hset _ (below_drewN hb3 nq)
    have q1n := fun nq => hx _ (below_drewN hc3 nq) 1 _ rfl
    cases sf with
    | false =>
      have hL := Lib.hid (HD.out.trans (if_pos (.inl rfl)))
      clear hset hreg hic htg
      go_upto_region 26 with fail
      go_quiet (fail)
      rename_i nq
      clear r1 q1n hx hy
      go_wp2_with fail
      go_ret2
      rw [hL.out]
      exact ⟨⟨_, rfl, fun e => absurd e (by show ¬ (110 : Int) = 0; decide)⟩, HT.out _ (below_drewN hb3 nq)⟩
    | true =>
      cases hsd : setM m d with
      | false =>
        have hL := Lib.hid (HD.out.trans (if_pos (.inr hsd)))
        rw [hsd] at r1
        clear hset hreg hic htg
        go_upto_region 26 with fail
        go_quiet (fail)
        rename_i nq
        clear r1 q1n hx hy
        go_wp2_with fail
        go_ret2
        rw [hL.out]
        exact ⟨⟨_, rfl, fun e => absurd e (by show ¬ (110 : Int) = 0; decide)⟩, HT.out _ (below_drewN hb3 nq)⟩
      | true =>
        have hL := Lib.hid (HD.out.trans (if_neg (by rw [hsd]; decide)))
        rw [hsd] at r1
        clear hset
        go_upto_region 26 with fail
        go_quiet (fail)
        rename_i nq
        have hb4 := below_drewN hb3 nq
        have hc4 := below_drewN hc3 nq
        clear r1 q1n hb3 hc3
        generalize w3.drewN nq = V at *
        have hb5 := hb4.drew
        have hc5 := hc4.drew
        have z1 := hx _ hc5 1 _ rfl
        have z2 := hy _ hc5 1 _ rfl
        have z3 := hy _ hc5 2 _ rfl
        have z4 := hreg _ hb5
        have z5 := hx _ hc4 1 _ rfl
        go_upto_region 28 with fail
        refine wp_region_still_lit (by kernel_rfl) (by kernel_rfl) ?_
        change wpStill _ _ V.drew _ _ _
        repeat (first | still_step | still_call (hic _))
        refine wpStill_nil ?_
        clear z1 z2 z3 z4 z5 hreg
        cases Q with
        | false =>
          clear hx hy htg
          go_wp2_with fail
          go_ret2
          rw [hL.out]
          exact ⟨⟨_, rfl, fun _ => by rw [HN.out]⟩, HT.out _ hb5⟩
        | true =>
          go_upto_region 30 with fail
          go_region_held3 (fun w' => Below w.heap.size w w' ∧ Below W.heap.size W w')
            (first | assumption | exact ⟨hb5, hc5⟩ | exact ⟨hb5.drew, hc5.drew⟩ | exact sdrew2 (by assumption))
            (first | (go_at_call 7; refine (htg _ (by first | exact (show _ ∧ _ by assumption).1 | exact hb5.drew)).mono ?_; rintro e w6 ⟨rfl, hc6⟩; have hS6 := pstep2 (show Below w.heap.size w _ ∧ Below W.heap.size W _ by first | assumption | exact ⟨hb5.drew, hc5.drew⟩) (Nat.le_refl _) (Nat.le_refl _) hc6))
          all_goals
            go_wp2_with fail
            go_ret2
            rw [hL.out]
            exact ⟨⟨_, rfl, fun _ => by rw [HG.out]⟩, HT.out _ hS6.1⟩
end
section
theorem rdoes11 {own : Own} {w : World} {pM : Nat} {g : Gh} {l : List Insn} {defs : List DefM} {m : MchM} (h : MchIn own w pM g l defs m) (hn : m.mem.length ≤ 1000000) (hcl : m.calls.length ≤ 1000000) (hdl : defs.length ≤ 1000) (hdf : ∀ d ∈ defs, defOk d = true) (hdr : m.draws.length ≤ 1000) (x : Insn) (s : What) (i d : Nat) (hw : Wants l m x s i d) :
    Calls Try.prog 51 #[.pointer (some ⟨pM, 0, none⟩), x.val, s.val] w (DoesOk own w pM l defs m (doesM m defs x (at' l (m.place + 1)) s)) := by
  have h0 := hw.wok.k0
  have h1 := hw.wok.k1
  by_cases k1 : s.kind = 1
  · exact rdoes_1 h hn hcl hdl hdf hdr x s i d hw k1
  by_cases k2 : s.kind = 2
  · exact rdoes_2 h hn hcl hdl hdf hdr x s i d hw k2
  by_cases k3 : s.kind = 3
  · exact rdoes_3 h hn hcl hdl hdf hdr x s i d hw k3
  by_cases k4 : s.kind = 4
  · exact rdoes_4 h hn hcl hdl hdf hdr x s i d hw k4
  by_cases k5 : s.kind = 5
  · exact rdoes_5 h hn hcl hdl hdf hdr x s i d hw k5
  by_cases k6 : s.kind = 6 ∨ s.kind = 7 ∨ s.kind = 8
  · exact rdoes_678 h hn hcl hdl hdf hdr x s i d hw k6
  by_cases k9 : s.kind = 9
  · exact rdoes_9 h hn hcl hdl hdf hdr x s i d hw k9
  by_cases k10 : s.kind = 10
  · exact rdoes_10 h hn hcl hdl hdf hdr x s i d hw k10
  by_cases k11 : s.kind = 11
  · exact rdoes_11 h hn hcl hdl hdf hdr x s i d hw k11
  · exact rdoes_12 h hn hcl hdl hdf hdr x s i d hw (by omega)
/-! what a machine that runs is like -/
theorem drawM_len (most : Int) (l : List Int) : (drawM most l).2.1.length ≤ l.length := by
  cases l with
  | nil => exact Nat.le_refl _
  | cons x r => exact Nat.le_succ _
theorem call_draws (m : MchM) (defs : List DefM) (id : Int) : (callM m defs id).1.draws.length ≤ m.draws.length := by
  unfold callM
  split
  · exact Nat.le_refl _
  · simp only
    split
    · exact Nat.le_refl _
    split
    · split <;> exact Nat.le_refl _
    split
    · split <;> exact Nat.le_refl _
    split
    · split <;> exact Nat.le_refl _
    split
    · split
      · exact Nat.le_refl _
      · exact drawM_len _ _
    · exact Nat.le_refl _
theorem load_draws (m : MchM) (x : Insn) (w : What) : (loadMM m x w).1.draws = m.draws := by
  unfold loadMM
  split
  · rfl
  · simp only; split <;> rfl
theorem arith_draws (m : MchM) (x : Insn) (w : What) : (arithMM m x w).1.draws = m.draws := by unfold arithMM; split <;> rfl
theorem store_draws (m : MchM) (x : Insn) (w : What) : (storeMM m x w).1.draws = m.draws := by
  unfold storeMM
  split
  · rfl
  · simp only
    split
    · split <;> rfl
    · rfl
theorem does_draws (m : MchM) (defs : List DefM) (x y : Insn) (w : What) : (doesM m defs x y w).1.draws.length ≤ m.draws.length := by
  unfold doesM
  by_cases k1 : w.kind = 1
  · rw [if_pos k1]; exact Nat.le_of_eq (congrArg _ (arith_draws _ _ _))
  rw [if_neg k1]
  by_cases k2 : w.kind = 2
  · rw [if_pos k2]; split <;> exact Nat.le_refl _
  rw [if_neg k2]
  by_cases k3 : w.kind = 3
  · rw [if_pos k3]; exact Nat.le_refl _
  rw [if_neg k3]
  by_cases k4 : w.kind = 4
  · rw [if_pos k4]; split <;> exact Nat.le_refl _
  rw [if_neg k4]
  by_cases k5 : w.kind = 5
  · rw [if_pos k5]; exact Nat.le_of_eq (congrArg _ (load_draws _ _ _))
  rw [if_neg k5]
  by_cases k6 : w.kind = 6 ∨ w.kind = 7 ∨ w.kind = 8
  · rw [if_pos k6]; exact Nat.le_of_eq (congrArg _ (store_draws _ _ _))
  rw [if_neg k6]
  by_cases k9 : w.kind = 9
  · rw [if_pos k9]; exact Nat.le_refl _
  rw [if_neg k9]
  by_cases k10 : w.kind = 10
  · rw [if_pos k10]; split <;> exact Nat.le_refl _
  rw [if_neg k10]
  by_cases k11 : w.kind = 11
  · rw [if_pos k11]; exact call_draws _ _ _
  rw [if_neg k11]
  by_cases k12 : w.kind = 12
  · rw [if_pos k12]; split <;> exact Nat.le_refl _
  rw [if_neg k12]
  exact Nat.le_refl _
theorem step_not {l : List Insn} {defs : List DefM} {m : MchM} (ho : m.over = false) : stepM l defs m = if (doesM m defs (at' l m.place) (at' l (m.place + 1)) (sem (at' l m.place)).1).2.2 ≠ 0 then ({ (doesM m defs (at' l m.place) (at' l (m.place + 1)) (sem (at' l m.place)).1).1 with over := true, code := (doesM m defs (at' l m.place) (at' l (m.place + 1)) (sem (at' l m.place)).1).2.2 }, (doesM m defs (at' l m.place) (at' l (m.place + 1)) (sem (at' l m.place)).1).2.2) else ({ (doesM m defs (at' l m.place) (at' l (m.place + 1)) (sem (at' l m.place)).1).1 with place := nextM l m (doesM m defs (at' l m.place) (at' l (m.place + 1)) (sem (at' l m.place)).1), steps := m.steps + 1 }, 0) := by
  unfold stepM
  rw [if_neg (by simp [ho])]
structure Live (l : List Insn) (m : MchM) : Prop where
  few : Few m
  draws : m.draws.length ≤ 1000
  stands : m.over = false → Stands l m
theorem step_live {l : List Insn} {defs : List DefM} {m : MchM} (hp : Prog l) (h : Live l m) (ho : m.over = false) (he : (stepM l defs m).2 = 0) : Live l (stepM l defs m).1 := by
  refine ⟨step_few l defs m h.few he, ?_, fun hv => step_stands hp (h.stands ho) ho he hv⟩
  rw [(step_ok ho he).2]
  exact Nat.le_trans (does_draws _ _ _ _ _) h.draws
theorem MchIn.memFew {own : Own} {w : World} {pM : Nat} {g : Gh} {l : List Insn} {defs : List DefM} {m : MchM} (h : MchIn own w pM g l defs m) (hF : Few m) : m.mem.length ≤ 1000000 := by
  have h1 := madeSum_le m.tab h.tab.ok
  have h2 := h.tab.few
  have h3 := hF.mem
  omega
end
section
set_option maxHeartbeats 2000000 in
theorem rstep11 {own : Own} {w : World} {pM : Nat} {g : Gh} {l : List Insn} {defs : List DefM} {m : MchM} (hp : Prog l) (hl : ∀ y ∈ l, y.Ok) (h : MchIn own w pM g l defs m) (hv : Live l m) (ho : m.over = false) (hst : m.steps ≤ 1000) (hdl : defs.length ≤ 1000) (hdf : ∀ d ∈ defs, defOk d = true) :
    Calls Try.prog 28 #[.pointer (some ⟨pM, 0, none⟩)] w fun e w' => e = .returned (.int .i64 (stepM l defs m).2) ∧ TurnM own w pM l defs (stepM l defs m).1 w' := by
  have hn := h.memFew hv.few
  have hcl : m.calls.length ≤ 1000000 := by have := hv.few.calls; omega
  have hsd := hv.stands ho
  obtain ⟨i, d, hw⟩ := wants_at hp hl hsd
  have hdo := fun w' (hb : Below w.heap.size w w') => rdoes11 (h.below hb) hn hcl hdl hdf hv.draws _ _ i d hw
  have hst2 := (does_few m defs (at' l m.place) (at' l (m.place + 1)) (sem (at' l m.place)).1 hv.few).steps
  have hsem := fun w => rsem_any (at' l m.place) hw.xok w
  have hS := Lib.hid (step_not (l := l) (defs := defs) ho)
  obtain ⟨cL, hgL, hcode⟩ := h.code
  have hpl := hsd.at_
  have hfw := hp.few
  obtain ⟨bA, oA, hgA, hbA, -⟩ := hcode.2 (by omega)
  rw [hgA] at hcode hgL
  obtain ⟨u0, u1, u2, u3, u4⟩ := insn_at hcode hpl
  have hL : ∀ w', Below w.heap.size w w' → w'.cell? ⟨pM, 0, none⟩ = some (.slice (some ⟨bA, oA, none⟩) l.length cL) := fun w' hb => by rw [← hgL]; exact (h.blk.below hb).cell rfl
  have hP : ∀ w', Below w.heap.size w w' → w'.cell? ⟨pM, 27, none⟩ = some (.int .i64 m.place) := fun w' hb => (h.blk.below hb).cell (mch_hi h.lr h.ls 4)
  have hO : w.cell? ⟨pM, 28, none⟩ = some (.bool false) := by rw [← ho]; exact h.blk.cell (mch_hi h.lr h.ls 5)
  have hji : (m.place : Int) < (l.length : Int) := by omega
  have hrole := h.role
  have hrf := Below.refl w.heap.size w
  clear hw hcode hgL hgA h hv hsd hp hl
  generalize doesM m defs (at' l m.place) (at' l (m.place + 1)) (sem (at' l m.place)).1 = D at *
  generalize hse : sem (at' l m.place) = S at *
  clear hse
  generalize at' l m.place = x at *
  obtain ⟨x0, x1, x2, x3, x4⟩ := x
  obtain ⟨⟨kd, op, wd, rg, sg, sz⟩, ok⟩ := S
  simp only [Insn.val, What.val, WhatAnd] at *
  go_enter Try.func28, Try.ntmps28
  go_upto_region 3 with fail
  clear hO
  go_region_held3 (fun w' => Below w.heap.size w w')
    (repeat (first | assumption | refine sbelow_drew ?_ | refine sbelow_alloc ?_ (Nat.le_refl _)))
    (fail)
  all_goals
    clear u0 u1 u2 u3 u4 hL hP
    have hb3 : Below w.heap.size w (w.alloc (.cells #[.int .u8 x0, .int .u8 x1, .int .u8 x2, .int .i16 x3, .int .i32 x4] 40)).drew := (below_boxes1 w _).drew
    have hx : ∀ w', Below (w.alloc (.cells #[.int .u8 x0, .int .u8 x1, .int .u8 x2, .int .i16 x3, .int .i32 x4] 40)).drew.heap.size (w.alloc (.cells #[.int .u8 x0, .int .u8 x1, .int .u8 x2, .int .i16 x3, .int .i32 x4] 40)).drew w' → ∀ k u, #[Value.int .u8 x0, .int .u8 x1, .int .u8 x2, .int .i16 x3, .int .i32 x4][k]? = some u → w'.cell? ⟨w.heap.size, k, none⟩ = some u := fun w' hb k u hu => boxc (heap_alloc_new w (.cells #[.int .u8 x0, .int .u8 x1, .int .u8 x2, .int .i16 x3, .int .i32 x4] 40)) hu w' ⟨hb.os, hb.tape, hb.output, hb.size, hb.block⟩
    generalize (w.alloc (.cells #[.int .u8 x0, .int .u8 x1, .int .u8 x2, .int .i16 x3, .int .i32 x4] 40)).drew = W3 at *
    have hr3 := Below.refl W3.heap.size W3
    have q0 := hx _ hr3 0 _ rfl
    have q1 := hx _ hr3 1 _ rfl
    have q2 := hx _ hr3 2 _ rfl
    have q3 := hx _ hr3 3 _ rfl
    have q4 := hx _ hr3 4 _ rfl
    go_wp2_with fail
    refine (hsem _).mono ?_
    rintro e w5 ⟨rfl, hb5⟩
    have hb5w := hb3.trans (hb5.mono hb3.size)
    have hb6 : Below W3.heap.size W3 (w5.alloc (.cells #[.int .u8 kd, .int .u8 op, .bool wd, .bool rg, .bool sg, .int .i64 sz] 42)) := hb5.trans ((below_boxes1 w5 _).mono hb5.size)
    have hb6w : Below w.heap.size w (w5.alloc (.cells #[.int .u8 kd, .int .u8 op, .bool wd, .bool rg, .bool sg, .int .i64 sz] 42)) := hb5w.trans ((below_boxes1 w5 _).mono hb5w.size)
    clear q0 q1 q2 q3 q4
    have q0 := hx _ hb6 0 _ rfl
    have q1 := hx _ hb6 1 _ rfl
    have q2 := hx _ hb6 2 _ rfl
    have q3 := hx _ hb6 3 _ rfl
    have q4 := hx _ hb6 4 _ rfl
    go_wp2_with fail
    refine (hdo _ hb6w).mono ?_
    rintro e w7 ⟨⟨nx, rfl, hnx⟩, own7, g7, ho7, hm7, hk7⟩
    clear q0 q1 q2 q3 q4 hx hr3
    have hkw : Kept (fun b => own b ≠ none) w w7 := (Kept.of (X := fun b => own b ≠ none) hb6w (Nat.le_refl _)).trans hk7 (fun _ _ e => e)
    have hlow : ∀ b, b < w.heap.size → own7 b = own b := fun b hb => ho7 b (Nat.lt_of_lt_of_le hb hb6w.size)
    have hpw : pM < w.heap.size → own pM ≠ none := fun e => by rw [hrole]; simp
    by_cases he : D.2.2 = 0
    · have hdb : (D.2.2 != 0) = false := by simpa using he
      have hN := hnx he
      have p27 : w7.cell? ⟨pM, 27, none⟩ = some (.int .i64 D.1.place) := hm7.blk.cell (mch_hi hm7.lr hm7.ls 4)
      have f27 := hm7.blk.free 27
      have hs1 := hm7.blk.set (k := 27) (by rw [mch_len hm7.lr hm7.ls]; decide) (.int .i64 nx)
      rw [hN, show (mchCells g7 D.1).set 27 (.int .i64 (nextM l m D : Nat)) = mchCells g7 { D.1 with place := nextM l m D } from mch_set_hi (g := g7) (m := D.1) (m' := { D.1 with place := nextM l m D }) hm7.lr hm7.ls 4 _ rfl rfl rfl rfl] at hs1
      have p30 : (w7.setCell ⟨pM, 27, none⟩ (.int .i64 (nextM l m D : Nat))).cell? ⟨pM, 30, none⟩ = some (.int .i64 D.1.steps) := hs1.cell (mch_hi (m := { D.1 with place := nextM l m D }) hm7.lr hm7.ls 7)
      have f30 := hs1.free 30
      have hs2 := hs1.set (k := 30) (by rw [mch_len (m := { D.1 with place := nextM l m D }) hm7.lr hm7.ls]; decide) (.int .i64 ((m.steps + 1 : Nat) : Int))
      rw [show (mchCells g7 { D.1 with place := nextM l m D }).set 30 (.int .i64 ((m.steps + 1 : Nat) : Int)) = mchCells g7 { D.1 with place := nextM l m D, steps := m.steps + 1 } from mch_set_hi (g := g7) (m := { D.1 with place := nextM l m D }) (m' := { D.1 with place := nextM l m D, steps := m.steps + 1 }) hm7.lr hm7.ls 7 _ rfl rfl rfl rfl] at hs2
      have hks : Kept (fun b => b = pM) w7 ((w7.setCell ⟨pM, 27, none⟩ (.int .i64 (nextM l m D : Nat))).setCell ⟨pM, 30, none⟩ (.int .i64 ((m.steps + 1 : Nat) : Int))) := Kept.set (X := fun b => b = pM) (Kept.set (X := fun b => b = pM) Kept.refl rfl) rfl
      have hm9 := hm7.regs hks { D.1 with place := nextM l m D, steps := m.steps + 1 } hs2 hm7.lr hm7.ls hm7.u64 rfl rfl rfl rfl
      have HL := Lib.hid (hS.out.trans (if_neg (fun e => e he)))
      have hkf := hkw.trans hks (fun i hi e => by subst e; exact hpw hi)
      have HF := Lib.hid (And.intro hm9 hkf)
      rw [hst2] at p30
      have hw1 : ((m.steps : Nat) : Int) + 1 = ((m.steps + 1 : Nat) : Int) := rfl
      have HW := Lib.hid hw1
      subst hN
      clear hS hdo hsem hm7 hs1 hs2 hks hm9 hkf he hnx hw1 hst2
      go_wp2_with fail
      go_ret
      rw [HL.out]
      refine ⟨rfl, own7, g7, hlow, ?_, ?_⟩
      · exact HF.out.1
      · exact HF.out.2
    · have hdb : (D.2.2 != 0) = true := by simpa using he
      have p28 : w7.cell? ⟨pM, 28, none⟩ = some (.bool D.1.over) := hm7.blk.cell (mch_hi hm7.lr hm7.ls 5)
      have f28 := hm7.blk.free 28
      have hs1 := hm7.blk.set (k := 28) (by rw [mch_len hm7.lr hm7.ls]; decide) (.bool true)
      rw [show (mchCells g7 D.1).set 28 (.bool true) = mchCells g7 { D.1 with over := true } from mch_set_hi (g := g7) (m := D.1) (m' := { D.1 with over := true }) hm7.lr hm7.ls 5 _ rfl rfl rfl rfl] at hs1
      have p29 : (w7.setCell ⟨pM, 28, none⟩ (.bool true)).cell? ⟨pM, 29, none⟩ = some (.int .i64 D.1.code) := hs1.cell (mch_hi (m := { D.1 with over := true }) hm7.lr hm7.ls 6)
      have f29 := hs1.free 29
      have hs2 := hs1.set (k := 29) (by rw [mch_len (m := { D.1 with over := true }) hm7.lr hm7.ls]; decide) (.int .i64 D.2.2)
      rw [show (mchCells g7 { D.1 with over := true }).set 29 (.int .i64 D.2.2) = mchCells g7 { D.1 with over := true, code := D.2.2 } from mch_set_hi (g := g7) (m := { D.1 with over := true }) (m' := { D.1 with over := true, code := D.2.2 }) hm7.lr hm7.ls 6 _ rfl rfl rfl rfl] at hs2
      have hks : Kept (fun b => b = pM) w7 ((w7.setCell ⟨pM, 28, none⟩ (.bool true)).setCell ⟨pM, 29, none⟩ (.int .i64 D.2.2)) := Kept.set (X := fun b => b = pM) (Kept.set (X := fun b => b = pM) Kept.refl rfl) rfl
      have hm9 := hm7.regs hks { D.1 with over := true, code := D.2.2 } hs2 hm7.lr hm7.ls hm7.u64 rfl rfl rfl rfl
      have HL := Lib.hid (hS.out.trans (if_pos he))
      have hkf := hkw.trans hks (fun i hi e => by subst e; exact hpw hi)
      have HF := Lib.hid (And.intro hm9 hkf)
      clear hS hdo hsem hm7 hs1 hs2 hks hm9 hkf he hnx hst2
      go_wp2_with fail
      go_ret
      rw [HL.out]
      exact ⟨rfl, own7, g7, hlow, HF.out.1, HF.out.2⟩
end
end Go.Proofs.Ytncogaikiceidaa
