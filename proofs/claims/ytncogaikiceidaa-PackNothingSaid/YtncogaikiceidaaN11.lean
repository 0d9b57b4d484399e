/- arith and store. No statement is proved here. -/
import Derived.Test.YtncogaikiceidaaN4
import Derived.Test.YtncogaikiceidaaN9
import Derived.Test.YtncogaikiceidaaN10
namespace Go.Proofs.Ytncogaikiceidaa
set_option maxRecDepth 100000
open Go.RowKit
set_option linter.unusedSimpArgs false
set_option linter.unusedVariables false
set_option linter.unnecessarySimpa false
section
theorem doG_ok (op : Int) (wide : Bool) (off a b : Int) (ha : U64 a) (hb : U64 b) : DoOk op wide off a b (doG op wide off a b).1 := by
  unfold doG
  split
  · rename_i h
    obtain ⟨rfl, rfl, rfl⟩ := h
    exact ⟨hb, 0, fun w => rdo_mov64 a b ha hb w⟩
  · exact Classical.epsilon_spec (rdo_ok op wide off a b ha hb)
theorem isG_ok (op : Int) (wide : Bool) (a b : Int) (ha : U64 a) (hb : U64 b) : IsOk op wide a b (isG op wide a b) := Classical.epsilon_spec (ris_ok op wide a b ha hb)
theorem swapG_ok (turn : Bool) (width a : Int) (ha : U64 a) : SwapOk turn width a (swapG turn width a).1 := Classical.epsilon_spec (rswap_ok turn width a ha)
end
section
theorem secondM_u64 {own : Own} {w : World} {pM : Nat} {g : Gh} {l : List Insn} {defs : List DefM} {m : MchM} (h : MchIn own w pM g l defs m) (x : Insn) (s : What) (i : Nat) (hsrc : x.src = i) : U64 (secondM m x s).1 := by
  unfold secondM
  split
  · rw [hsrc]; exact h.reg_u64 i
  · exact signG_u64 _ ⟨by omega, by omega⟩ 32 (by unfold Wide; omega)
set_option maxHeartbeats 1000000 in
theorem rarith11 {own : Own} {w : World} {pM : Nat} {g : Gh} {l : List Insn} {defs : List DefM} {m : MchM} (h : MchIn own w pM g l defs m) (x : Insn) (s : What) (i d : Nat) (hsrc : x.src = i) (hi : i < 11) (hdst : x.dst = d) (hd : d < 11) :
    Calls Try.prog 63 #[.pointer (some ⟨pM, 0, none⟩), x.val, s.val] w fun e w' => e = .returned (.int .i64 (arithMM m x s).2) ∧ MchIn own w' pM g l defs (arithMM m x s).1 ∧ Kept (fun b => b = pM) w w' := by
  have hB := fun w' (hb : Below w.heap.size w w') => h.below hb
  have hK := fun w' (hb : Below w.heap.size w w') => Kept.of (X := fun b => b = pM) hb (Nat.le_refl _)
  have hsec := fun w' (hb : Below w.heap.size w w') => rsecond11 (h.below hb) x s i hsrc hi
  have hsu := secondM_u64 h x s i hsrc
  have hput := fun n hn w' (hb : Below w.heap.size w w') => rput11 (h.below hb) d hd n hn
  have hr : ∀ w', Below w.heap.size w w' → w'.cell? ⟨pM, 12 + d, none⟩ = some (.bool (setM m d)) := fun w' hb => (h.blk.below hb).cell (mch_s h.lr h.ls d hd)
  have hg2 : ∀ w', Below w.heap.size w w' → w'.cell? ⟨pM, 1 + d, none⟩ = some (.int .u64 (regM m d)) := fun w' hb => (h.blk.below hb).cell (mch_r h.lr d hd)
  obtain ⟨x0, x1, x2, x3, x4⟩ := x
  obtain ⟨k, op, wd, rg, sg, sz⟩ := s
  simp only at hsrc hdst
  subst hsrc
  subst hdst
  have hA : arithMM m ⟨x0, d, i, x3, x4⟩ ⟨k, op, wd, rg, sg, sz⟩ = if (secondM m ⟨x0, d, i, x3, x4⟩ ⟨k, op, wd, rg, sg, sz⟩).2 = false ∨ op ≠ 176 ∧ setM m d = false then (m, 110) else (putR m d (doG op wd x3 (regM m d) (if op = 128 then 0 else (secondM m ⟨x0, d, i, x3, x4⟩ ⟨k, op, wd, rg, sg, sz⟩).1)).1, 0) := rfl
  generalize secondM m ⟨x0, d, i, x3, x4⟩ ⟨k, op, wd, rg, sg, sz⟩ = sc at *
  obtain ⟨n2, ok⟩ := sc
  simp only at hA hsec hsu
  obtain ⟨hW0, hx, hy⟩ := box2 w [.int .u8 x0, .int .u8 d, .int .u8 i, .int .i16 x3, .int .i32 x4] [.int .u8 k, .int .u8 op, .bool wd, .bool rg, .bool sg, .int .i64 sz] 40 42
  have hd2 : (d : Int) < 11 := by omega
  cases ok
  · have hL0 := hA.trans (if_pos (.inl rfl))
    clear hA
    generalize arithMM m ⟨x0, d, i, x3, x4⟩ ⟨k, op, wd, rg, sg, sz⟩ = AM at *
    generalize setM m d = st at *
    generalize regM m d = ra at *
    clear h
    go_enter Try.func63, Try.ntmps63
    go_upto_region 1 with fail
    generalize hWe : (w.alloc (.cells #[.int .u8 x0, .int .u8 d, .int .u8 i, .int .i16 x3, .int .i32 x4] 40)).alloc (.cells #[.int .u8 k, .int .u8 op, .bool wd, .bool rg, .bool sg, .int .i64 sz] 42) = W at *
    clear hWe
    have hrW := Below.refl W.heap.size W
    have q0 := hx _ hrW 0 _ rfl
    have q1 := hx _ hrW 1 _ rfl
    have q2 := hx _ hrW 2 _ rfl
    have q3 := hx _ hrW 3 _ rfl
    have q4 := hx _ hrW 4 _ rfl
    have p0 := hy _ hrW 0 _ rfl
    have p1 := hy _ hrW 1 _ rfl
    have p2 := hy _ hrW 2 _ rfl
    have p3 := hy _ hrW 3 _ rfl
    have p4 := hy _ hrW 4 _ rfl
    have p5 := hy _ hrW 5 _ rfl
    go_wp2_with fail
    refine (hsec _ hW0).mono ?_
    rintro e w1 ⟨rfl, hc1⟩
    have hS1 := pstep2 (And.intro hW0 hrW) (Nat.le_refl _) (Nat.le_refl _) hc1
    clear hc1 q0 q1 q2 q3 q4 p0 p1 p2 p3 p4 p5
    go_upto_region 1 with fail
    have hr2 := fun nq => hr _ (below_drewN hS1.1 nq)
    have a2 := fun nq => hx _ (below_drewN hS1.2 nq) 1 _ rfl
    have b2 := fun nq => hy _ (below_drewN hS1.2 nq) 1 _ rfl
    go_quiet (fail)
    clear hr2 a2 b2
    rename_i nq
    have hS2 := And.intro (below_drewN hS1.1 nq) (below_drewN hS1.2 nq)
    clear hS1
    generalize w1.drewN nq = V at *
    have hL := Lib.hid hL0
    clear hL0 hput
    go_wp2_with fail
    go_ret
    rw [hL.out]
    exact ⟨rfl, hB _ hS2.1, hK _ hS2.1⟩
  · by_cases k176 : op = 176
    · have hdo0 := doG_ok op wd x3 (regM m d) n2 (h.reg_u64 d) hsu
      obtain ⟨hdu, cc, hdo1⟩ := hdo0
      have hdo : ∀ w, Calls Try.prog 77 #[.int .u8 op, .bool wd, .int .i16 x3, .int .u64 (regM m d), .int .u64 n2] w fun e w' => e = .returned (.tuple #[.int .u64 (doG op wd x3 (regM m d) n2).1, .int .i64 cc]) ∧ Below w.heap.size w w' := fun w => (hdo1 w).mono (by rintro e w' ⟨rfl, k, rfl⟩; exact ⟨rfl, below_drewN (Below.refl _ _) k⟩)
      clear hdo1
      have hL0 := hA.trans (if_neg (show ¬ (true = false ∨ op ≠ 176 ∧ setM m d = false) from by rintro (h | h); exact absurd h (by decide); exact h.1 k176))
      rw [if_neg (by omega)] at hL0
      clear hA
      generalize (doG op wd x3 (regM m d) n2).1 = dn at *
      subst k176
      generalize arithMM m ⟨x0, d, i, x3, x4⟩ ⟨k, 176, wd, rg, sg, sz⟩ = AM at *
      generalize setM m d = st at *
      generalize regM m d = ra at *
      clear h
      go_enter Try.func63, Try.ntmps63
      go_upto_region 1 with fail
      generalize hWe : (w.alloc (.cells #[.int .u8 x0, .int .u8 d, .int .u8 i, .int .i16 x3, .int .i32 x4] 40)).alloc (.cells #[.int .u8 k, .int .u8 176, .bool wd, .bool rg, .bool sg, .int .i64 sz] 42) = W at *
      clear hWe
      have hrW := Below.refl W.heap.size W
      have q0 := hx _ hrW 0 _ rfl
      have q1 := hx _ hrW 1 _ rfl
      have q2 := hx _ hrW 2 _ rfl
      have q3 := hx _ hrW 3 _ rfl
      have q4 := hx _ hrW 4 _ rfl
      have p0 := hy _ hrW 0 _ rfl
      have p1 := hy _ hrW 1 _ rfl
      have p2 := hy _ hrW 2 _ rfl
      have p3 := hy _ hrW 3 _ rfl
      have p4 := hy _ hrW 4 _ rfl
      have p5 := hy _ hrW 5 _ rfl
      go_wp2_with fail
      refine (hsec _ hW0).mono ?_
      rintro e w1 ⟨rfl, hc1⟩
      have hS1 := pstep2 (And.intro hW0 hrW) (Nat.le_refl _) (Nat.le_refl _) hc1
      clear hc1 q0 q1 q2 q3 q4 p0 p1 p2 p3 p4 p5
      go_upto_region 1 with fail
      have hr2 := fun nq => hr _ (below_drewN hS1.1 nq)
      have a2 := fun nq => hx _ (below_drewN hS1.2 nq) 1 _ rfl
      have b2 := fun nq => hy _ (below_drewN hS1.2 nq) 1 _ rfl
      go_quiet (fail)
      clear hr2 a2 b2
      rename_i nq
      have hS2 := And.intro (below_drewN hS1.1 nq) (below_drewN hS1.2 nq)
      clear hS1
      generalize w1.drewN nq = V at *
      have hL := Lib.hid hL0
      clear hL0
      have c1 := hy _ hS2.2 1 _ rfl
      go_upto_region 1 with fail
      go_region_held3 (fun w' => Below w.heap.size w w' ∧ Below W.heap.size W w')
        (first | assumption | exact sdrew2 (by assumption))
        (first | (go_at_call 77; refine (hdo _).mono ?_; rintro e w3 ⟨rfl, hc3⟩; have hS3 := pstep2 (show Below w.heap.size w _ ∧ Below W.heap.size W _ by first | assumption | exact sdrew2 (by assumption)) (Nat.le_refl _) (Nat.le_refl _) hc3))
      all_goals
        rename_i hS3
        have hKd := hK _ hS3.1
        have d1 := hx _ hS3.2 1 _ rfl
        clear hr hg2 hdo hsec
        go_wp2_with fail
        refine (hput _ hdu _ hS3.1).mono ?_
        rintro e w4 ⟨rfl, hM4, hK4⟩
        go_wp2_with fail
        go_ret
        rw [hL.out]
        exact ⟨rfl, hM4, hKd.trans hK4 (fun _ _ h => h)⟩
    · cases hst : setM m d
      · have hL0 := hA.trans (if_pos (.inr ⟨k176, hst⟩))
        clear hA
        rw [hst] at hr
        generalize arithMM m ⟨x0, d, i, x3, x4⟩ ⟨k, op, wd, rg, sg, sz⟩ = AM at *
        clear hst
        generalize regM m d = ra at *
        clear h
        have k176b : (op != 176) = true := by simpa using k176
        go_enter Try.func63, Try.ntmps63
        go_upto_region 1 with fail
        generalize hWe : (w.alloc (.cells #[.int .u8 x0, .int .u8 d, .int .u8 i, .int .i16 x3, .int .i32 x4] 40)).alloc (.cells #[.int .u8 k, .int .u8 op, .bool wd, .bool rg, .bool sg, .int .i64 sz] 42) = W at *
        clear hWe
        have hrW := Below.refl W.heap.size W
        have q0 := hx _ hrW 0 _ rfl
        have q1 := hx _ hrW 1 _ rfl
        have q2 := hx _ hrW 2 _ rfl
        have q3 := hx _ hrW 3 _ rfl
        have q4 := hx _ hrW 4 _ rfl
        have p0 := hy _ hrW 0 _ rfl
        have p1 := hy _ hrW 1 _ rfl
        have p2 := hy _ hrW 2 _ rfl
        have p3 := hy _ hrW 3 _ rfl
        have p4 := hy _ hrW 4 _ rfl
        have p5 := hy _ hrW 5 _ rfl
        go_wp2_with fail
        refine (hsec _ hW0).mono ?_
        rintro e w1 ⟨rfl, hc1⟩
        have hS1 := pstep2 (And.intro hW0 hrW) (Nat.le_refl _) (Nat.le_refl _) hc1
        clear hc1 q0 q1 q2 q3 q4 p0 p1 p2 p3 p4 p5
        go_upto_region 1 with fail
        have hr2 := fun nq => hr _ (below_drewN hS1.1 nq)
        have a2 := fun nq => hx _ (below_drewN hS1.2 nq) 1 _ rfl
        have b2 := fun nq => hy _ (below_drewN hS1.2 nq) 1 _ rfl
        go_quiet (fail)
        clear hr2 a2 b2
        rename_i nq
        have hS2 := And.intro (below_drewN hS1.1 nq) (below_drewN hS1.2 nq)
        clear hS1
        generalize w1.drewN nq = V at *
        have hL := Lib.hid hL0
        clear hL0 hput
        go_wp2_with fail
        go_ret
        rw [hL.out]
        exact ⟨rfl, hB _ hS2.1, hK _ hS2.1⟩
      · rw [hst] at hr
        have k176b : (op != 176) = true := by simpa using k176
        by_cases k128 : op = 128
        · have hdo0 := doG_ok op wd x3 (regM m d) 0 (h.reg_u64 d) u64_z
          obtain ⟨hdu, cc, hdo1⟩ := hdo0
          have hdo : ∀ w, Calls Try.prog 77 #[.int .u8 op, .bool wd, .int .i16 x3, .int .u64 (regM m d), .int .u64 0] w fun e w' => e = .returned (.tuple #[.int .u64 (doG op wd x3 (regM m d) 0).1, .int .i64 cc]) ∧ Below w.heap.size w w' := fun w => (hdo1 w).mono (by rintro e w' ⟨rfl, k, rfl⟩; exact ⟨rfl, below_drewN (Below.refl _ _) k⟩)
          clear hdo1
          have hL0 := hA.trans (if_neg (show ¬ (true = false ∨ op ≠ 176 ∧ setM m d = false) from by rw [hst]; rintro (h | h); exact absurd h (by decide); exact absurd h.2 (by decide)))
          rw [if_pos k128] at hL0
          clear hA
          generalize (doG op wd x3 (regM m d) 0).1 = dn at *
          subst k128
          generalize arithMM m ⟨x0, d, i, x3, x4⟩ ⟨k, 128, wd, rg, sg, sz⟩ = AM at *
          clear hst
          generalize regM m d = ra at *
          clear h
          go_enter Try.func63, Try.ntmps63
          go_upto_region 1 with fail
          generalize hWe : (w.alloc (.cells #[.int .u8 x0, .int .u8 d, .int .u8 i, .int .i16 x3, .int .i32 x4] 40)).alloc (.cells #[.int .u8 k, .int .u8 128, .bool wd, .bool rg, .bool sg, .int .i64 sz] 42) = W at *
          clear hWe
          have hrW := Below.refl W.heap.size W
          have q0 := hx _ hrW 0 _ rfl
          have q1 := hx _ hrW 1 _ rfl
          have q2 := hx _ hrW 2 _ rfl
          have q3 := hx _ hrW 3 _ rfl
          have q4 := hx _ hrW 4 _ rfl
          have p0 := hy _ hrW 0 _ rfl
          have p1 := hy _ hrW 1 _ rfl
          have p2 := hy _ hrW 2 _ rfl
          have p3 := hy _ hrW 3 _ rfl
          have p4 := hy _ hrW 4 _ rfl
          have p5 := hy _ hrW 5 _ rfl
          go_wp2_with fail
          refine (hsec _ hW0).mono ?_
          rintro e w1 ⟨rfl, hc1⟩
          have hS1 := pstep2 (And.intro hW0 hrW) (Nat.le_refl _) (Nat.le_refl _) hc1
          clear hc1 q0 q1 q2 q3 q4 p0 p1 p2 p3 p4 p5
          go_upto_region 1 with fail
          have hr2 := fun nq => hr _ (below_drewN hS1.1 nq)
          have a2 := fun nq => hx _ (below_drewN hS1.2 nq) 1 _ rfl
          have b2 := fun nq => hy _ (below_drewN hS1.2 nq) 1 _ rfl
          go_quiet (fail)
          clear hr2 a2 b2
          rename_i nq
          have hS2 := And.intro (below_drewN hS1.1 nq) (below_drewN hS1.2 nq)
          clear hS1
          generalize w1.drewN nq = V at *
          have hL := Lib.hid hL0
          clear hL0
          have c1 := hy _ hS2.2 1 _ rfl
          go_upto_region 1 with fail
          go_region_held3 (fun w' => Below w.heap.size w w' ∧ Below W.heap.size W w')
            (first | assumption | exact sdrew2 (by assumption))
            (first | (go_at_call 77; refine (hdo _).mono ?_; rintro e w3 ⟨rfl, hc3⟩; have hS3 := pstep2 (show Below w.heap.size w _ ∧ Below W.heap.size W _ by first | assumption | exact sdrew2 (by assumption)) (Nat.le_refl _) (Nat.le_refl _) hc3))
          all_goals
            rename_i hS3
            have hKd := hK _ hS3.1
            have d1 := hx _ hS3.2 1 _ rfl
            clear hr hg2 hdo hsec
            go_wp2_with fail
            refine (hput _ hdu _ hS3.1).mono ?_
            rintro e w4 ⟨rfl, hM4, hK4⟩
            go_wp2_with fail
            go_ret
            rw [hL.out]
            exact ⟨rfl, hM4, hKd.trans hK4 (fun _ _ h => h)⟩
        · have hdo0 := doG_ok op wd x3 (regM m d) n2 (h.reg_u64 d) hsu
          obtain ⟨hdu, cc, hdo1⟩ := hdo0
          have hdo : ∀ w, Calls Try.prog 77 #[.int .u8 op, .bool wd, .int .i16 x3, .int .u64 (regM m d), .int .u64 n2] w fun e w' => e = .returned (.tuple #[.int .u64 (doG op wd x3 (regM m d) n2).1, .int .i64 cc]) ∧ Below w.heap.size w w' := fun w => (hdo1 w).mono (by rintro e w' ⟨rfl, k, rfl⟩; exact ⟨rfl, below_drewN (Below.refl _ _) k⟩)
          clear hdo1
          have hL0 := hA.trans (if_neg (show ¬ (true = false ∨ op ≠ 176 ∧ setM m d = false) from by rw [hst]; rintro (h | h); exact absurd h (by decide); exact absurd h.2 (by decide)))
          rw [if_neg k128] at hL0
          clear hA
          generalize (doG op wd x3 (regM m d) n2).1 = dn at *
          have k128b : (op == 128) = false := by simpa using k128
          generalize arithMM m ⟨x0, d, i, x3, x4⟩ ⟨k, op, wd, rg, sg, sz⟩ = AM at *
          clear hst
          generalize regM m d = ra at *
          clear h
          go_enter Try.func63, Try.ntmps63
          go_upto_region 1 with fail
          generalize hWe : (w.alloc (.cells #[.int .u8 x0, .int .u8 d, .int .u8 i, .int .i16 x3, .int .i32 x4] 40)).alloc (.cells #[.int .u8 k, .int .u8 op, .bool wd, .bool rg, .bool sg, .int .i64 sz] 42) = W at *
          clear hWe
          have hrW := Below.refl W.heap.size W
          have q0 := hx _ hrW 0 _ rfl
          have q1 := hx _ hrW 1 _ rfl
          have q2 := hx _ hrW 2 _ rfl
          have q3 := hx _ hrW 3 _ rfl
          have q4 := hx _ hrW 4 _ rfl
          have p0 := hy _ hrW 0 _ rfl
          have p1 := hy _ hrW 1 _ rfl
          have p2 := hy _ hrW 2 _ rfl
          have p3 := hy _ hrW 3 _ rfl
          have p4 := hy _ hrW 4 _ rfl
          have p5 := hy _ hrW 5 _ rfl
          go_wp2_with fail
          refine (hsec _ hW0).mono ?_
          rintro e w1 ⟨rfl, hc1⟩
          have hS1 := pstep2 (And.intro hW0 hrW) (Nat.le_refl _) (Nat.le_refl _) hc1
          clear hc1 q0 q1 q2 q3 q4 p0 p1 p2 p3 p4 p5
          go_upto_region 1 with fail
          have hr2 := fun nq => hr _ (below_drewN hS1.1 nq)
          have a2 := fun nq => hx _ (below_drewN hS1.2 nq) 1 _ rfl
          have b2 := fun nq => hy _ (below_drewN hS1.2 nq) 1 _ rfl
          go_quiet (fail)
          clear hr2 a2 b2
          rename_i nq
          have hS2 := And.intro (below_drewN hS1.1 nq) (below_drewN hS1.2 nq)
          clear hS1
          generalize w1.drewN nq = V at *
          have hL := Lib.hid hL0
          clear hL0
          have c1 := hy _ hS2.2 1 _ rfl
          go_upto_region 1 with fail
          go_region_held3 (fun w' => Below w.heap.size w w' ∧ Below W.heap.size W w')
            (first | assumption | exact sdrew2 (by assumption))
            (first | (go_at_call 77; refine (hdo _).mono ?_; rintro e w3 ⟨rfl, hc3⟩; have hS3 := pstep2 (show Below w.heap.size w _ ∧ Below W.heap.size W _ by first | assumption | exact sdrew2 (by assumption)) (Nat.le_refl _) (Nat.le_refl _) hc3))
          all_goals
            rename_i hS3
            have hKd := hK _ hS3.1
            have d1 := hx _ hS3.2 1 _ rfl
            clear hr hg2 hdo hsec
            go_wp2_with fail
            refine (hput _ hdu _ hS3.1).mono ?_
            rintro e w4 ⟨rfl, hM4, hK4⟩
            go_wp2_with fail
            go_ret
            rw [hL.out]
            exact ⟨rfl, hM4, hKd.trans hK4 (fun _ _ h => h)⟩
end
section
set_option maxHeartbeats 1000000 in
theorem rstore11 {own : Own} {w : World} {pM : Nat} {g : Gh} {l : List Insn} {defs : List DefM} {m : MchM} (h : MchIn own w pM g l defs m) (hn : m.mem.length ≤ 1000000) (x : Insn) (s : What) (i d : Nat) (hsrc : x.src = i) (hi : i < 11) (hdst : x.dst = d) (hd : d < 11) (hf : Fits s.size) :
    Calls Try.prog 68 #[.pointer (some ⟨pM, 0, none⟩), x.val, s.val] w fun e w' => e = .returned (.int .i64 (storeMM m x s).2) ∧ MchIn own w' pM g l defs (storeMM m x s).1 ∧ Kept own.areas w w' := by
  have hB := fun w' (hb : Below w.heap.size w w') => h.below hb
  have hK := fun w' (hb : Below w.heap.size w w') => Kept.of (X := own.areas) hb (Nat.le_refl _)
  have hT := fun w' mem' (hk : Kept own.areas w w') (hm : MemIn own w' g.pm g.vm g.sl mem') => h.turnMem hk hm
  have hsec := fun w' (hb : Below w.heap.size w w') => rsecond11 (h.below hb) x s i hsrc hi
  have hadr := fun w' (hb : Below w.heap.size w w') => raddr11 (h.below hb) d hd x
  have hau : U64 (addrM m d x) := ⟨by simp only [addrM]; omega, by simp only [addrM]; omega⟩
  have hld := fun w' (hb : Below w.heap.size w w') => rload8 (h.below hb).mem hn (addrM m d x) s.size hau hf
  have hlu : U64 (loadM m.mem (addrM m d x) s.size).1 := loadM_u64 h.mem.ok hau.1 hf
  have hst := fun n (hu : U64 n) w' (hb : Below w.heap.size w w') => rstore8 (h.below hb).mem hn (addrM m d x) s.size n hau hf hu
  have hsu := secondM_u64 h x s i hsrc
  have hr : ∀ w', Below w.heap.size w w' → w'.cell? ⟨pM, 12 + d, none⟩ = some (.bool (setM m d)) := fun w' hb => (h.blk.below hb).cell (mch_s h.lr h.ls d hd)
  have hpm : ∀ w', Below w.heap.size w w' → w'.cell? ⟨pM, 23, none⟩ = some (.pointer (some ⟨g.pm, 0, none⟩)) := fun w' hb => (h.blk.below hb).cell (mch_hi h.lr h.ls 0)
  obtain ⟨x0, x1, x2, x3, x4⟩ := x
  obtain ⟨k, op, wd, rg, sg, sz⟩ := s
  simp only at hsrc hdst
  subst hsrc
  subst hdst
  have hA : storeMM m ⟨x0, d, i, x3, x4⟩ ⟨k, op, wd, rg, sg, sz⟩ = if (secondM m ⟨x0, d, i, x3, x4⟩ ⟨k, op, wd, rg, sg, sz⟩).2 = false ∨ setM m d = false then (m, 110) else
      if k = 8 then (if (loadM m.mem (addrM m d ⟨x0, d, i, x3, x4⟩) sz).2 ≠ 0 then (m, (loadM m.mem (addrM m d ⟨x0, d, i, x3, x4⟩) sz).2) else
        ({ m with mem := (storeM m.mem (addrM m d ⟨x0, d, i, x3, x4⟩) sz (doG op true 0 (loadM m.mem (addrM m d ⟨x0, d, i, x3, x4⟩) sz).1 (secondM m ⟨x0, d, i, x3, x4⟩ ⟨k, op, wd, rg, sg, sz⟩).1).1).1 }, (storeM m.mem (addrM m d ⟨x0, d, i, x3, x4⟩) sz (doG op true 0 (loadM m.mem (addrM m d ⟨x0, d, i, x3, x4⟩) sz).1 (secondM m ⟨x0, d, i, x3, x4⟩ ⟨k, op, wd, rg, sg, sz⟩).1).1).2))
      else ({ m with mem := (storeM m.mem (addrM m d ⟨x0, d, i, x3, x4⟩) sz (secondM m ⟨x0, d, i, x3, x4⟩ ⟨k, op, wd, rg, sg, sz⟩).1).1 }, (storeM m.mem (addrM m d ⟨x0, d, i, x3, x4⟩) sz (secondM m ⟨x0, d, i, x3, x4⟩ ⟨k, op, wd, rg, sg, sz⟩).1).2) := rfl
  simp only at hadr hau hld hlu hst hf
  generalize secondM m ⟨x0, d, i, x3, x4⟩ ⟨k, op, wd, rg, sg, sz⟩ = sc at *
  obtain ⟨n2, ok⟩ := sc
  simp only at hA hsec hsu
  generalize addrM m d ⟨x0, d, i, x3, x4⟩ = ad at *
  generalize loadM m.mem ad sz = lo at *
  obtain ⟨ln, er⟩ := lo
  simp only at hA hld hlu
  generalize storeMM m ⟨x0, d, i, x3, x4⟩ ⟨k, op, wd, rg, sg, sz⟩ = SM at *
  generalize setM m d = st at *
  obtain ⟨hW0, hx, hy⟩ := box2 w [.int .u8 x0, .int .u8 d, .int .u8 i, .int .i16 x3, .int .i32 x4] [.int .u8 k, .int .u8 op, .bool wd, .bool rg, .bool sg, .int .i64 sz] 40 42
  have hd2 : (d : Int) < 11 := by omega
  clear h
  cases ok
  · have hL0 := hA.trans (if_pos (.inl rfl))
    clear hA hadr hld hst
    go_enter Try.func68, Try.ntmps68
    go_upto_region 1 with fail
    generalize hWe : (w.alloc (.cells #[.int .u8 x0, .int .u8 d, .int .u8 i, .int .i16 x3, .int .i32 x4] 40)).alloc (.cells #[.int .u8 k, .int .u8 op, .bool wd, .bool rg, .bool sg, .int .i64 sz] 42) = W at *
    clear hWe
    have hrW := Below.refl W.heap.size W
    have q0 := hx _ hrW 0 _ rfl
    have q1 := hx _ hrW 1 _ rfl
    have q2 := hx _ hrW 2 _ rfl
    have q3 := hx _ hrW 3 _ rfl
    have q4 := hx _ hrW 4 _ rfl
    have p0 := hy _ hrW 0 _ rfl
    have p1 := hy _ hrW 1 _ rfl
    have p2 := hy _ hrW 2 _ rfl
    have p3 := hy _ hrW 3 _ rfl
    have p4 := hy _ hrW 4 _ rfl
    have p5 := hy _ hrW 5 _ rfl
    go_wp2_with fail
    refine (hsec _ hW0).mono ?_
    rintro e w1 ⟨rfl, hc1⟩
    have hS1 := pstep2 (And.intro hW0 hrW) (Nat.le_refl _) (Nat.le_refl _) hc1
    clear hc1 q0 q1 q2 q3 q4 p0 p1 p2 p3 p4 p5
    go_upto_region 1 with fail
    have hr2 := fun nq => hr _ (below_drewN hS1.1 nq)
    have a2 := fun nq => hx _ (below_drewN hS1.2 nq) 1 _ rfl
    have b2 := fun nq => hy _ (below_drewN hS1.2 nq) 1 _ rfl
    go_quiet (fail)
    clear hr2 a2 b2
    rename_i nq
    have hS2 := And.intro (below_drewN hS1.1 nq) (below_drewN hS1.2 nq)
    clear hS1
    generalize w1.drewN nq = V at *
    have hL := Lib.hid hL0
    clear hL0
    go_wp2_with fail
    go_ret
    rw [hL.out]
    exact ⟨rfl, hB _ hS2.1, hK _ hS2.1⟩
  · cases st
    · have hL0 := hA.trans (if_pos (.inr rfl))
      clear hA hadr hld hst
      go_enter Try.func68, Try.ntmps68
      go_upto_region 1 with fail
      generalize hWe : (w.alloc (.cells #[.int .u8 x0, .int .u8 d, .int .u8 i, .int .i16 x3, .int .i32 x4] 40)).alloc (.cells #[.int .u8 k, .int .u8 op, .bool wd, .bool rg, .bool sg, .int .i64 sz] 42) = W at *
      clear hWe
      have hrW := Below.refl W.heap.size W
      have q0 := hx _ hrW 0 _ rfl
      have q1 := hx _ hrW 1 _ rfl
      have q2 := hx _ hrW 2 _ rfl
      have q3 := hx _ hrW 3 _ rfl
      have q4 := hx _ hrW 4 _ rfl
      have p0 := hy _ hrW 0 _ rfl
      have p1 := hy _ hrW 1 _ rfl
      have p2 := hy _ hrW 2 _ rfl
      have p3 := hy _ hrW 3 _ rfl
      have p4 := hy _ hrW 4 _ rfl
      have p5 := hy _ hrW 5 _ rfl
      go_wp2_with fail
      refine (hsec _ hW0).mono ?_
      rintro e w1 ⟨rfl, hc1⟩
      have hS1 := pstep2 (And.intro hW0 hrW) (Nat.le_refl _) (Nat.le_refl _) hc1
      clear hc1 q0 q1 q2 q3 q4 p0 p1 p2 p3 p4 p5
      go_upto_region 1 with fail
      have hr2 := fun nq => hr _ (below_drewN hS1.1 nq)
      have a2 := fun nq => hx _ (below_drewN hS1.2 nq) 1 _ rfl
      have b2 := fun nq => hy _ (below_drewN hS1.2 nq) 1 _ rfl
      go_quiet (fail)
      clear hr2 a2 b2
      rename_i nq
      have hS2 := And.intro (below_drewN hS1.1 nq) (below_drewN hS1.2 nq)
      clear hS1
      generalize w1.drewN nq = V at *
      have hL := Lib.hid hL0
      clear hL0
      go_wp2_with fail
      go_ret
      rw [hL.out]
      exact ⟨rfl, hB _ hS2.1, hK _ hS2.1⟩
    · have hA2 := hA.trans (if_neg (by rintro (h | h) <;> exact absurd h (by decide)))
      clear hA
      by_cases k8 : k = 8
      · rw [if_pos k8] at hA2
        subst k8
        by_cases he : er = 0
        · rw [if_neg (by omega)] at hA2
          subst he
          obtain ⟨hdu, cc, hdo1⟩ := doG_ok op true 0 ln n2 hlu hsu
          have hdo : ∀ w, Calls Try.prog 77 #[.int .u8 op, .bool true, .int .i16 0, .int .u64 ln, .int .u64 n2] w fun e w' => e = .returned (.tuple #[.int .u64 (doG op true 0 ln n2).1, .int .i64 cc]) ∧ Below w.heap.size w w' := fun w => (hdo1 w).mono (by rintro e w' ⟨rfl, k, rfl⟩; exact ⟨rfl, below_drewN (Below.refl _ _) k⟩)
          clear hdo1
          have hst1 := hst _ hdu
          clear hst
          generalize (doG op true 0 ln n2).1 = dn at *
          have hL := Lib.hid hA2
          clear hA2
          go_enter Try.func68, Try.ntmps68
          go_upto_region 1 with fail
          generalize hWe : (w.alloc (.cells #[.int .u8 x0, .int .u8 d, .int .u8 i, .int .i16 x3, .int .i32 x4] 40)).alloc (.cells #[.int .u8 8, .int .u8 op, .bool wd, .bool rg, .bool sg, .int .i64 sz] 42) = W at *
          clear hWe
          have hrW := Below.refl W.heap.size W
          have q0 := hx _ hrW 0 _ rfl
          have q1 := hx _ hrW 1 _ rfl
          have q2 := hx _ hrW 2 _ rfl
          have q3 := hx _ hrW 3 _ rfl
          have q4 := hx _ hrW 4 _ rfl
          have p0 := hy _ hrW 0 _ rfl
          have p1 := hy _ hrW 1 _ rfl
          have p2 := hy _ hrW 2 _ rfl
          have p3 := hy _ hrW 3 _ rfl
          have p4 := hy _ hrW 4 _ rfl
          have p5 := hy _ hrW 5 _ rfl
          go_wp2_with fail
          refine (hsec _ hW0).mono ?_
          rintro e w1 ⟨rfl, hc1⟩
          have hS1 := pstep2 (And.intro hW0 hrW) (Nat.le_refl _) (Nat.le_refl _) hc1
          clear hc1 q0 q1 q2 q3 q4 p0 p1 p2 p3 p4 p5
          go_upto_region 1 with fail
          have hr2 := fun nq => hr _ (below_drewN hS1.1 nq)
          have a2 := fun nq => hx _ (below_drewN hS1.2 nq) 1 _ rfl
          have b2 := fun nq => hy _ (below_drewN hS1.2 nq) 1 _ rfl
          go_quiet (fail)
          clear hr2 a2 b2
          rename_i nq
          have hS2 := And.intro (below_drewN hS1.1 nq) (below_drewN hS1.2 nq)
          clear hS1
          generalize w1.drewN nq = V at *
          have q0 := hx _ hS2.2 0 _ rfl
          have q1 := hx _ hS2.2 1 _ rfl
          have q2 := hx _ hS2.2 2 _ rfl
          have q3 := hx _ hS2.2 3 _ rfl
          have q4 := hx _ hS2.2 4 _ rfl
          go_wp2_with fail
          refine (hadr _ hS2.1).mono ?_
          rintro e w3 ⟨rfl, hc3⟩
          have hS3 := pstep2 hS2 (Nat.le_refl _) (Nat.le_refl _) hc3
          clear hc3 q0 q1 q2 q3 q4 hS2
          have p0 := hy _ hS3.2 0 _ rfl
          go_upto_region 1 with fail
          go_region_held3 (fun w' => Below w.heap.size w w' ∧ Below W.heap.size W w')
            (first | assumption | exact sdrew2 (by assumption))
            (first | (go_at_call 79; refine (hld _ (by first | exact (show _ ∧ _ by assumption).1 | exact (sdrew2 (show _ ∧ _ by assumption)).1)).mono ?_; rintro e w4 ⟨rfl, hc4⟩; have hS4 := pstep2 (show Below w.heap.size w _ ∧ Below W.heap.size W _ by first | assumption | exact sdrew2 (by assumption)) (Nat.le_refl _) (Nat.le_refl _) hc4))
          all_goals
            rename_i hS4
            have p1 := hy _ hS4.2 1 _ rfl
            go_wp2_with fail
            refine (hdo _).mono ?_
            rintro e w5 ⟨rfl, hc5⟩
            have hS5 := pstep2 hS4 (Nat.le_refl _) (Nat.le_refl _) hc5
            clear p1 hc5 hS4
            go_upto_region 1 with fail
            have hbt := sdrew2 hS5
            have r1 := hpm _ hbt.1
            have p5 := hy _ hbt.2 5 _ rfl
            refine wp_region_still_tail 8 (by kernel_rfl) (by kernel_rfl) ?_
            simp only [List.take_succ_cons, List.take_zero, List.drop_succ_cons, List.drop_zero]
            change wpStill _ _ w5.drew _ _ _
            repeat still_step
            refine wpStill_nil ?_
            change wpList _ _ _ _ _ w5.drew
            generalize w5.drew = V2 at *
            clear r1 p5
            go_wp2_with fail
            refine (hst1 _ hbt.1).mono ?_
            rintro e w9 ⟨rfl, hM9, hK9⟩
            have hk9 := (hK _ hbt.1).trans hK9 (fun _ _ h => h)
            go_wp2_with fail
            go_ret
            rw [hL.out]
            exact ⟨rfl, hT _ _ hk9 hM9, hk9⟩
        · rw [if_pos he] at hA2
          have hL := Lib.hid hA2
          have he2 : (er == 0) = false := by simpa using he
          clear hA2 hst
          go_enter Try.func68, Try.ntmps68
          go_upto_region 1 with fail
          generalize hWe : (w.alloc (.cells #[.int .u8 x0, .int .u8 d, .int .u8 i, .int .i16 x3, .int .i32 x4] 40)).alloc (.cells #[.int .u8 8, .int .u8 op, .bool wd, .bool rg, .bool sg, .int .i64 sz] 42) = W at *
          clear hWe
          have hrW := Below.refl W.heap.size W
          have q0 := hx _ hrW 0 _ rfl
          have q1 := hx _ hrW 1 _ rfl
          have q2 := hx _ hrW 2 _ rfl
          have q3 := hx _ hrW 3 _ rfl
          have q4 := hx _ hrW 4 _ rfl
          have p0 := hy _ hrW 0 _ rfl
          have p1 := hy _ hrW 1 _ rfl
          have p2 := hy _ hrW 2 _ rfl
          have p3 := hy _ hrW 3 _ rfl
          have p4 := hy _ hrW 4 _ rfl
          have p5 := hy _ hrW 5 _ rfl
          go_wp2_with fail
          refine (hsec _ hW0).mono ?_
          rintro e w1 ⟨rfl, hc1⟩
          have hS1 := pstep2 (And.intro hW0 hrW) (Nat.le_refl _) (Nat.le_refl _) hc1
          clear hc1 q0 q1 q2 q3 q4 p0 p1 p2 p3 p4 p5
          go_upto_region 1 with fail
          have hr2 := fun nq => hr _ (below_drewN hS1.1 nq)
          have a2 := fun nq => hx _ (below_drewN hS1.2 nq) 1 _ rfl
          have b2 := fun nq => hy _ (below_drewN hS1.2 nq) 1 _ rfl
          go_quiet (fail)
          clear hr2 a2 b2
          rename_i nq
          have hS2 := And.intro (below_drewN hS1.1 nq) (below_drewN hS1.2 nq)
          clear hS1
          generalize w1.drewN nq = V at *
          have q0 := hx _ hS2.2 0 _ rfl
          have q1 := hx _ hS2.2 1 _ rfl
          have q2 := hx _ hS2.2 2 _ rfl
          have q3 := hx _ hS2.2 3 _ rfl
          have q4 := hx _ hS2.2 4 _ rfl
          go_wp2_with fail
          refine (hadr _ hS2.1).mono ?_
          rintro e w3 ⟨rfl, hc3⟩
          have hS3 := pstep2 hS2 (Nat.le_refl _) (Nat.le_refl _) hc3
          clear hc3 q0 q1 q2 q3 q4 hS2
          have p0 := hy _ hS3.2 0 _ rfl
          go_upto_region 1 with fail
          go_region_held3 (fun w' => Below w.heap.size w w' ∧ Below W.heap.size W w')
            (first | assumption | exact sdrew2 (by assumption))
            (first | (go_at_call 79; refine (hld _ (by first | exact (show _ ∧ _ by assumption).1 | exact (sdrew2 (show _ ∧ _ by assumption)).1)).mono ?_; rintro e w4 ⟨rfl, hc4⟩; have hS4 := pstep2 (show Below w.heap.size w _ ∧ Below W.heap.size W _ by first | assumption | exact sdrew2 (by assumption)) (Nat.le_refl _) (Nat.le_refl _) hc4))
          all_goals
            rename_i hS4
            have hBd := hB _ hS4.1
            have hKd := hK _ hS4.1
            go_wp2_with fail
            go_ret
            rw [hL.out]
            exact ⟨rfl, hBd, hKd⟩
      · rw [if_neg k8] at hA2
        have k8b : (k == 8) = false := by simpa using k8
        have hst1 := hst _ hsu
        clear hst hld
        have hL := Lib.hid hA2
        clear hA2
        go_enter Try.func68, Try.ntmps68
        go_upto_region 1 with fail
        generalize hWe : (w.alloc (.cells #[.int .u8 x0, .int .u8 d, .int .u8 i, .int .i16 x3, .int .i32 x4] 40)).alloc (.cells #[.int .u8 k, .int .u8 op, .bool wd, .bool rg, .bool sg, .int .i64 sz] 42) = W at *
        clear hWe
        have hrW := Below.refl W.heap.size W
        have q0 := hx _ hrW 0 _ rfl
        have q1 := hx _ hrW 1 _ rfl
        have q2 := hx _ hrW 2 _ rfl
        have q3 := hx _ hrW 3 _ rfl
        have q4 := hx _ hrW 4 _ rfl
        have p0 := hy _ hrW 0 _ rfl
        have p1 := hy _ hrW 1 _ rfl
        have p2 := hy _ hrW 2 _ rfl
        have p3 := hy _ hrW 3 _ rfl
        have p4 := hy _ hrW 4 _ rfl
        have p5 := hy _ hrW 5 _ rfl
        go_wp2_with fail
        refine (hsec _ hW0).mono ?_
        rintro e w1 ⟨rfl, hc1⟩
        have hS1 := pstep2 (And.intro hW0 hrW) (Nat.le_refl _) (Nat.le_refl _) hc1
        clear hc1 q0 q1 q2 q3 q4 p0 p1 p2 p3 p4 p5
        go_upto_region 1 with fail
        have hr2 := fun nq => hr _ (below_drewN hS1.1 nq)
        have a2 := fun nq => hx _ (below_drewN hS1.2 nq) 1 _ rfl
        have b2 := fun nq => hy _ (below_drewN hS1.2 nq) 1 _ rfl
        go_quiet (fail)
        clear hr2 a2 b2
        rename_i nq
        have hS2 := And.intro (below_drewN hS1.1 nq) (below_drewN hS1.2 nq)
        clear hS1
        generalize w1.drewN nq = V at *
        have q0 := hx _ hS2.2 0 _ rfl
        have q1 := hx _ hS2.2 1 _ rfl
        have q2 := hx _ hS2.2 2 _ rfl
        have q3 := hx _ hS2.2 3 _ rfl
        have q4 := hx _ hS2.2 4 _ rfl
        go_wp2_with fail
        refine (hadr _ hS2.1).mono ?_
        rintro e w3 ⟨rfl, hc3⟩
        have hS3 := pstep2 hS2 (Nat.le_refl _) (Nat.le_refl _) hc3
        clear hc3 q0 q1 q2 q3 q4 hS2
        have p0 := hy _ hS3.2 0 _ rfl
        go_upto_region 1 with fail
        have hbt := sdrew2 hS3
        have r1 := hpm _ hbt.1
        have p5 := hy _ hbt.2 5 _ rfl
        refine wp_region_still_tail 8 (by kernel_rfl) (by kernel_rfl) ?_
        simp only [List.take_succ_cons, List.take_zero, List.drop_succ_cons, List.drop_zero]
        change wpStill _ _ w3.drew _ _ _
        repeat still_step
        refine wpStill_nil ?_
        change wpList _ _ _ _ _ w3.drew
        generalize w3.drew = V2 at *
        clear r1 p5
        go_wp2_with fail
        refine (hst1 _ hbt.1).mono ?_
        rintro e w9 ⟨rfl, hM9, hK9⟩
        have hk9 := (hK _ hbt.1).trans hK9 (fun _ _ h => h)
        go_wp2_with fail
        go_ret
        rw [hL.out]
        exact ⟨rfl, hT _ _ hk9 hM9, hk9⟩
end
end Go.Proofs.Ytncogaikiceidaa
