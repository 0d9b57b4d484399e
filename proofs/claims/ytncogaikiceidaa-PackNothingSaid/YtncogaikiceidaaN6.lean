/- The plain law of PackNothing. No statement is proved here. -/
import Derived.Test.YtncogaikiceidaaN1
namespace Go.Proofs.Ytncogaikiceidaa
open Go.RowKit
set_option linter.unusedSimpArgs false
set_option linter.unusedVariables false
set_option linter.unnecessarySimpa false
section
/-- Behind a rewrite that drops: what is left, be it a program or not. -/
structure Cut0 (l y : List Insn) (f : Nat → Bool) : Prop where
  prog : Prog l
  len : y.length = plN l (oneE l f) l.length
  one : ∀ i, i < l.length → SB l i = true → f i = false → goesB (at' l i) = false → at' y (plN l (oneE l f) i) = at' l i
  jump : ∀ i, i < l.length → SB l i = true → f i = false → goesB (at' l i) = true → ∃ t, t ≤ l.length ∧ SB l t = true ∧ (targetM l i).1 = (t : Int) ∧ at' y (plN l (oneE l f) i) = hopX (at' l i) ((plN l (oneE l f) t : Int) - plN l (oneE l f) i - 1)
  half : ∀ i, i < l.length → SB l i = true → f i = false → (at' l i).op = 24 → at' y (plN l (oneE l f) i + 1) = at' l (i + 1)
theorem cut0_made {l y : List Insn} {f : Nat → Bool} (hp : Prog l) (hA : rwA l (oneE l f) l.length = some y) : Cut0 l y f := by
  have hat : ∀ i, i < l.length → SB l i = true → f i = false → ∃ acc x r q, becL l (oneE l f) i = x :: r ∧ acc.length = plN l (oneE l f) i ∧ y = acc ++ ((if goesB x = true then hopX x ((plN l (oneE l f) (becT l (oneE l f) i).toNat : Int) - acc.length - 1) else x) :: r) ++ q ∧ (goesB x = true → 0 ≤ becT l (oneE l f) i ∧ becT l (oneE l f) i ≤ l.length) := by
    intro i hi hs hf
    obtain ⟨out, q, ho, hq⟩ := rwA_more (l := l) (es := oneE l f) (i := i + 1) (l.length - (i + 1)) (by rw [show i + 1 + (l.length - (i + 1)) = l.length by omega]; exact hA)
    rw [rwA, if_pos hs] at ho
    cases ha : rwA l (oneE l f) i with
    | none => rw [ha] at ho; cases ho
    | some acc =>
      rw [ha] at ho
      have ho : putX l (oneE l f) i acc = some out := ho
      have hx : ∃ x r, becL l (oneE l f) i = x :: r := by
        rw [becL_one hi, hf]
        by_cases hw : (at' l i).op = 24
        · exact ⟨_, _, by rw [if_neg (by simp), if_pos hw]⟩
        · exact ⟨_, _, by rw [if_neg (by simp), if_neg hw]⟩
      obtain ⟨x, r, hx⟩ := hx
      refine ⟨acc, x, r, q, hx, rwA_len _ ha, ?_, ?_⟩
      · unfold putX at ho
        rw [hx] at ho
        simp only at ho
        by_cases hg : goesB x = true
        · rw [if_pos hg] at ho ⊢
          split at ho
          · injection ho with ho; rw [hq, ← ho]
          · cases ho
        · rw [if_neg hg] at ho ⊢
          injection ho with ho; rw [hq, ← ho]
      · intro hg
        unfold putX at ho
        rw [hx] at ho
        simp only at ho
        rw [if_pos hg] at ho
        split at ho
        · assumption
        · cases ho
  have hx0 : ∀ i x r, i < l.length → f i = false → becL l (oneE l f) i = x :: r → x = at' l i ∧ ((at' l i).op = 24 → r = [at' l (i + 1)]) := by
    intro i x r hi hf hx
    rw [becL_one hi, hf] at hx
    by_cases hw : (at' l i).op = 24
    · rw [if_neg (by simp), if_pos hw] at hx
      injection hx with hx1 hx2
      exact ⟨hx1.symm, fun _ => hx2.symm⟩
    · rw [if_neg (by simp), if_neg hw] at hx
      injection hx with hx1 hx2
      exact ⟨hx1.symm, fun h => absurd h hw⟩
  refine ⟨hp, rwA_len _ hA, ?_, ?_, ?_⟩
  · intro i hi hs hf hg
    obtain ⟨acc, x, r, q, hx, hl, hy, -⟩ := hat i hi hs hf
    obtain ⟨rfl, -⟩ := hx0 i x r hi hf hx
    rw [if_neg (by rw [hg]; simp)] at hy
    rw [hy, ← hl, List.append_assoc]
    exact (at_append (k := 0)).trans rfl
  · intro i hi hs hf hg
    obtain ⟨acc, x, r, q, hx, hl, hy, hb⟩ := hat i hi hs hf
    obtain ⟨rfl, -⟩ := hx0 i x r hi hf hx
    obtain ⟨t, ht, hst, htg, htn⟩ := hp.goes_at hi hs (by simpa [goesB, kindM] using hg)
    have hT := becT_one hi hf
    rw [htg] at hT
    simp only at hT
    rw [if_pos hg, hT, Int.toNat_natCast, hl] at hy
    refine ⟨t, by omega, hst, by rw [htg], ?_⟩
    rw [hy, ← hl, List.append_assoc]
    exact (at_append (k := 0)).trans rfl
  · intro i hi hs hf hw
    obtain ⟨acc, x, r, q, hx, hl, hy, -⟩ := hat i hi hs hf
    obtain ⟨rfl, hr⟩ := hx0 i x r hi hf hx
    rw [hy, ← hl, List.append_assoc, at_append, hr hw]
    rfl
section
variable {l y : List Insn} {f : Nat → Bool}
theorem Cut0.op (h : Cut0 l y f) {i : Nat} (hi : i < l.length) (hs : SB l i = true) (hf : f i = false) : (at' y (plN l (oneE l f) i)).op = (at' l i).op := by
  cases hg : goesB (at' l i)
  · rw [h.one i hi hs hf hg]
  · obtain ⟨t, -, -, -, e⟩ := h.jump i hi hs hf hg
    rw [e, hopX_op]
theorem Cut0.step (h : Cut0 l y f) {i : Nat} (hi : i < l.length) (hs : SB l i = true) (hf : f i = false) : plN l (oneE l f) (stepN l i) = stepN y (plN l (oneE l f) i) := by
  rw [plN_step hs, becL_one hi, hf]
  unfold stepN
  rw [h.op hi hs hf]
  by_cases hw : (at' l i).op = 24 <;> simp [hw]
theorem Cut0.gone {i : Nat} (hs : SB l i = true) (hi : i < l.length) (hf : f i = true) : plN l (oneE l f) (stepN l i) = plN l (oneE l f) i := by
  rw [plN_step hs, becL_one hi, hf]
  simp
theorem Cut0.starts (h : Cut0 l y f) : ∀ i, i ≤ l.length → SB l i = true → SB y (plN l (oneE l f) i) = true := by
  apply starts_ind
  · rfl
  · intro i hi hs ih
    cases hf : f i
    · rw [h.step hi hs hf]; exact SB_step ih
    · rw [Cut0.gone hs hi hf]; exact ih
theorem Cut0.lt (h : Cut0 l y f) {i : Nat} (hi : i < l.length) (hs : SB l i = true) (hf : f i = false) : plN l (oneE l f) i < y.length := by
  have h1 := plN_lt (l := l) (es := oneE l f) (i + 1) (l.length - (i + 1))
  rw [show i + 1 + (l.length - (i + 1)) = l.length by omega, ← h.len] at h1
  have h2 : 1 ≤ (becL l (oneE l f) i).length := by
    rw [becL_one hi, hf]
    by_cases hw : (at' l i).op = 24 <;> simp [hw]
  rw [plN, if_pos hs] at h1
  omega
theorem Cut0.goes (h : Cut0 l y f) {i : Nat} (hi : i < l.length) (hs : SB l i = true) (hf : f i = false) : goesB (at' y (plN l (oneE l f) i)) = goesB (at' l i) := by
  cases hg : goesB (at' l i)
  · rw [h.one i hi hs hf hg, hg]
  · obtain ⟨t, -, -, -, e⟩ := h.jump i hi hs hf hg
    rw [e, goesB_hop _ hg]
theorem kind_not24 {x : Insn} (h : (sem x).1.kind = 9 ∨ (sem x).1.kind = 10 ∨ (sem x).1.kind = 12) : ¬ x.op = 24 := by
  intro e
  cases hk : (sem x).2
  · rw [sem_no hk] at h; simp [What.zero] at h
  · have := sem_wide hk e
    omega
theorem goes_not24 {x : Insn} (h : goesB x = true) : ¬ x.op = 24 := by
  refine kind_not24 ?_
  simp [goesB] at h
  omega
theorem Cut0.to (h : Cut0 l y f) {i : Nat} (hi : i < l.length) (hs : SB l i = true) (hf : f i = false) (hg : goesB (at' l i) = true) : ∃ t, t < l.length ∧ SB l t = true ∧ targetM l i = ((t : Int), true) ∧ toM y (plN l (oneE l f) i) = ((plN l (oneE l f) t : Int), true) := by
  obtain ⟨t', h1', h2', h3', e⟩ := h.jump i hi hs hf hg
  obtain ⟨t, h1, h2, h3, -⟩ := h.prog.goes_at hi hs (by simpa [goesB, kindM] using hg)
  have : t' = t := by rw [h3] at h3'; simp only at h3'; omega
  subst this
  refine ⟨t', h1, h2, h3, ?_⟩
  have hgy := h.goes hi hs hf
  rw [hg] at hgy
  unfold toM
  rw [if_neg (by simp [goesB] at hgy; omega), e, hopX_op]
  by_cases h6 : (at' l i).op = 6
  · rw [if_pos h6, hopX, if_pos h6]; simp [withImm]; omega
  · rw [if_neg h6, hopX, if_neg h6]; simp; omega
/-- What is dropped is single, and not the last one. -/
def Inner (l : List Insn) (f : Nat → Bool) : Prop := ∀ i, i < l.length → SB l i = true → f i = true → ¬ (at' l i).op = 24 ∧ i + 1 < l.length
theorem plN_inner (hp : Prog l) (hd : Inner l f) : ∀ (n i : Nat), l.length - i ≤ n → i < l.length → SB l i = true → plN l (oneE l f) i < plN l (oneE l f) l.length
  | 0, i, h, hi, _ => by omega
  | n + 1, i, h, hi, hs => by
    cases hf : f i
    · have h1 := plN_lt (l := l) (es := oneE l f) (i + 1) (l.length - (i + 1))
      rw [show i + 1 + (l.length - (i + 1)) = l.length by omega] at h1
      have h2 : 1 ≤ (becL l (oneE l f) i).length := by
        rw [becL_one hi, hf]
        by_cases hw : (at' l i).op = 24 <;> simp [hw]
      rw [plN, if_pos hs] at h1
      omega
    · obtain ⟨h24, hlt⟩ := hd i hi hs hf
      have e := Cut0.gone hs hi hf
      have e2 : stepN l i = i + 1 := by unfold stepN; rw [if_neg h24]
      have hs2 := SB_step hs
      rw [e2] at e hs2
      rw [← e]
      exact plN_inner hp hd n (i + 1) (by omega) hlt hs2
theorem Cut0.cover (h : Cut0 l y f) : ∀ i, i ≤ l.length → SB l i = true → ∀ k, k < plN l (oneE l f) i → SB y k = true → ∃ s, s < l.length ∧ SB l s = true ∧ f s = false ∧ plN l (oneE l f) s = k := by
  refine starts_ind (P := fun i => ∀ k, k < plN l (oneE l f) i → SB y k = true → ∃ s, s < l.length ∧ SB l s = true ∧ f s = false ∧ plN l (oneE l f) s = k) (fun k hk => absurd hk (by simp [plN])) ?_
  intro i hi hs ih k hk hsk
  cases hf : f i
  · rw [h.step hi hs hf] at hk
    rcases Nat.lt_trichotomy k (plN l (oneE l f) i) with h1 | h1 | h1
    · exact ih k h1 hsk
    · exact ⟨i, hi, hs, hf, h1.symm⟩
    · exfalso
      have hsy := h.starts i (by omega) hs
      unfold stepN at hk
      split at hk
      · rename_i hw
        have := (SB_wide hsy hw).1
        rw [show k = plN l (oneE l f) i + 1 by omega, this] at hsk
        cases hsk
      · omega
  · rw [Cut0.gone hs hi hf] at hk
    exact ih k hk hsk
theorem plN_one_le (hp : Prog l) : ∀ i, i ≤ l.length → SB l i = true → plN l (oneE l f) i ≤ i := by
  refine starts_ind (P := fun i => plN l (oneE l f) i ≤ i) (by simp [plN]) ?_
  intro i hi hs ih
  rw [plN_step hs, becL_one hi]
  unfold stepN
  cases f i
  · by_cases hw : (at' l i).op = 24 <;> simp [hw] <;> omega
  · simp; split <;> omega
theorem Cut0.made (h : Cut0 l y f) (hd : Inner l f) : Prog y := by
  have hp := h.prog
  have hlen := h.len
  have hle := plN_one_le (f := f) hp l.length (Nat.le_refl _) hp.SB_all
  have hpos := plN_inner hp hd l.length 0 (by omega) hp.pos rfl
  refine ⟨by rw [hlen]; omega, by rw [hlen]; have := hp.few; omega, ?_, ?_, ?_⟩
  · intro k hk hsk
    rw [hlen] at hk
    obtain ⟨s, hs1, hs2, hs3, rfl⟩ := h.cover l.length (Nat.le_refl _) hp.SB_all k hk hsk
    have hok := hp.ok hs1 hs2
    have hlt := h.lt hs1 hs2 hs3
    unfold wholeB
    cases hg : goesB (at' l s)
    · have e := h.one s hs1 hs2 hs3 hg
      rw [e, hok]
      by_cases hw : (at' l s).op = 24
      · obtain ⟨h1, h2⟩ := hp.half hs1 hs2 hw
        have e2 := h.half s hs1 hs2 hs3 hw
        have h3 : otherB y (plN l (oneE l f) s) = true := by
          unfold otherB at h2 ⊢
          rw [e, e2]; exact h2
        have h4 := h.step hs1 hs2 hs3
        have h5 := plN_lt (l := l) (es := oneE l f) (stepN l s) (l.length - stepN l s)
        rw [show stepN l s + (l.length - stepN l s) = l.length by have := hp.step_le hs1 hs2; omega, h4, ← hlen] at h5
        unfold stepN at h5
        rw [if_pos (by rw [e]; exact hw)] at h5
        simp [hw, h3]; omega
      · simp [hw]
    · obtain ⟨t, -, -, -, e⟩ := h.jump s hs1 hs2 hs3 hg
      rw [e, goes_hop _ hg, hok]
      simp [hopX_op, goes_not24 hg]
  · intro k hk
    unfold badJ
    cases hsk : SB y k
    · rfl
    · rw [hlen] at hk
      obtain ⟨s, hs1, hs2, hs3, rfl⟩ := h.cover l.length (Nat.le_refl _) hp.SB_all k hk hsk
      cases hg : goesB (at' l s)
      · have hgy := h.goes hs1 hs2 hs3
        rw [hg] at hgy
        have : (toM y (plN l (oneE l f) s)).2 = false := by
          unfold toM
          rw [if_pos (by simpa [goesB] using hgy)]
        simp [this]
      · obtain ⟨t, h1, h2, h3, h4⟩ := h.to hs1 hs2 hs3 hg
        rw [h4]
        have h5 := plN_inner hp hd l.length t (by omega) h1 h2
        have h6 := h.starts t (by omega) h2
        rw [← hlen] at h5
        simp [h6]; omega
  · obtain ⟨e, he⟩ : ∃ e, l.length = e + 1 := ⟨l.length - 1, by have := hp.pos; omega⟩
    have hen := hp.ends
    have hall := hp.SB_all
    have hse : SB l e = true := by
      cases hs : SB l e
      · exfalso
        cases e with
        | zero => cases hs
        | succ k =>
          have hw : (at' l k).op = 24 := by
            rw [SB] at hs
            simp at hs
            exact hs.2
          unfold endB lastN at hen
          rw [he, show k + 1 + 1 - 1 = k + 1 by omega, hs, if_neg (by simp), show k + 1 + 1 - 2 = k by omega] at hen
          simp at hen
          exact kind_not24 (by omega) hw
      · rfl
    have hk : (sem (at' l e)).1.kind = 12 ∨ (sem (at' l e)).1.kind = 9 := by
      unfold endB lastN at hen
      rw [he, show e + 1 - 1 = e by omega, hse, if_pos rfl] at hen
      simpa using hen
    have h24 : ¬ (at' l e).op = 24 := kind_not24 (by omega)
    have hfe : f e = false := by
      cases hf : f e
      · rfl
      · have := (hd e (by omega) hse hf).2; omega
    have hst : stepN l e = e + 1 := by unfold stepN; rw [if_neg h24]
    have h1 := h.step (by omega) hse hfe
    rw [hst, ← he, ← hlen] at h1
    unfold stepN at h1
    rw [h.op (by omega) hse hfe, if_neg h24] at h1
    have h2 := h.starts e (by omega) hse
    unfold endB lastN
    rw [h1, show plN l (oneE l f) e + 1 - 1 = plN l (oneE l f) e by omega, h2, if_pos rfl]
    cases hg : goesB (at' l e)
    · rw [h.one e (by omega) hse hfe hg]; simpa using hk
    · obtain ⟨t, -, -, -, e1⟩ := h.jump e (by omega) hse hfe hg
      rw [e1, goes_hop _ hg]; simpa using hk
end
theorem rwA_some {l : List Insn} {f : Nat → Bool} (hp : Prog l) : ∀ i, i ≤ l.length → ∃ acc, rwA l (oneE l f) i = some acc
  | 0, _ => ⟨[], rfl⟩
  | i + 1, h => by
    obtain ⟨acc, ha⟩ := rwA_some hp i (by omega)
    rw [rwA]
    cases hs : SB l i
    · exact ⟨acc, ha⟩
    · rw [if_pos rfl, ha]
      show ∃ acc_1, putX l (oneE l f) i acc = some acc_1
      unfold putX
      split
      · exact ⟨_, rfl⟩
      · rename_i x r hb
        cases hg : goesB x
        · exact ⟨_, rfl⟩
        · have hi : i < l.length := by omega
          rw [becL_one hi] at hb
          cases hf : f i
          · rw [hf] at hb
            have hx : x = at' l i := by
              by_cases hw : (at' l i).op = 24
              · rw [if_neg (by simp), if_pos hw] at hb; injection hb with h1 _; exact h1.symm
              · rw [if_neg (by simp), if_neg hw] at hb; injection hb with h1 _; exact h1.symm
            subst hx
            obtain ⟨t, ht, -, htg, -⟩ := hp.goes_at hi hs (by simpa [goesB, kindM] using hg)
            rw [becT_one hi hf, htg, if_pos rfl, if_pos (by simp only; omega)]
            exact ⟨_, rfl⟩
          · rw [hf] at hb; cases hb
/-- What drops only what is single and not the last is a program. -/
theorem rwM_inner {l : List Insn} {f : Nat → Bool} (hp : Prog l) (hd : Inner l f) : ∃ y, rwM l (oneE l f) = (y, true) ∧ Cut l y f := by
  obtain ⟨y, hy⟩ := rwA_some (f := f) hp l.length (Nat.le_refl _)
  have hm := (cut0_made hp hy).made hd
  have hr : rwM l (oneE l f) = (y, true) := by
    unfold rwM
    rw [if_neg (by rw [prog_check hp]; simp), hy]
    simp only
    rw [if_pos (by rw [prog_check hm])]
  exact ⟨y, hr, cut_made hr⟩
end
section
/-! ### Two runs -/
/-- Where a machine is, and how many steps it did, told anew. -/
def MchM.goto (m : MchM) (p st : Nat) : MchM := { m with place := p, steps := st }
section
variable (m : MchM) (defs : List DefM) (x y : Insn) (w : What) (p st : Nat)
theorem reg_goto (i : Int) : regM (m.goto p st) i = regM m i := rfl
theorem set_goto (i : Int) : setM (m.goto p st) i = setM m i := rfl
theorem put_goto (i n : Int) : putR (m.goto p st) i n = (putR m i n).goto p st := rfl
theorem second_goto : secondM (m.goto p st) x w = secondM m x w := rfl
theorem addr_goto (i : Int) : addrM (m.goto p st) i x = addrM m i x := rfl
theorem arith_goto : arithMM (m.goto p st) x w = ((arithMM m x w).1.goto p st, (arithMM m x w).2) := by
  unfold arithMM
  rw [second_goto, set_goto, reg_goto]
  split <;> rfl
theorem load_goto : loadMM (m.goto p st) x w = ((loadMM m x w).1.goto p st, (loadMM m x w).2) := by
  unfold loadMM
  rw [set_goto, addr_goto, show (m.goto p st).mem = m.mem from rfl]
  split
  · rfl
  · simp only
    split <;> rfl
theorem store_goto : storeMM (m.goto p st) x w = ((storeMM m x w).1.goto p st, (storeMM m x w).2) := by
  unfold storeMM
  rw [second_goto, set_goto, addr_goto, show (m.goto p st).mem = m.mem from rfl]
  split
  · rfl
  · simp only
    split
    · split <;> rfl
    · rfl
theorem told_goto : ∀ (l : List Int) (i : Nat) (c : CalledM), toldM (m.goto p st) defs l i c = toldM m defs l i c
  | [], _, _ => rfl
  | k :: l, i, c => by
    unfold toldM
    simp only [reg_goto, set_goto, told_goto l, show (m.goto p st).mem = m.mem from rfl]
theorem call_goto (id : Int) : callM (m.goto p st) defs id = ((callM m defs id).1.goto p st, (callM m defs id).2) := by
  unfold callM
  split
  · rfl
  · simp only [told_goto, show (m.goto p st).mem = m.mem from rfl, show (m.goto p st).tab = m.tab from rfl, show (m.goto p st).draws = m.draws from rfl]
    split
    · rfl
    split
    · split <;> rfl
    split
    · split <;> rfl
    split
    · split <;> rfl
    split
    · split <;> rfl
    · rfl
/-- What an instruction does goes by no place. -/
theorem does_goto : doesM (m.goto p st) defs x y w = ((doesM m defs x y w).1.goto p st, (doesM m defs x y w).2) := by
  unfold doesM
  rw [arith_goto, load_goto, store_goto, call_goto, second_goto]
  simp only [reg_goto, set_goto, put_goto]
  by_cases k1 : w.kind = 1
  · rw [if_pos k1, if_pos k1]
  rw [if_neg k1, if_neg k1]
  by_cases k2 : w.kind = 2
  · rw [if_pos k2, if_pos k2]
    by_cases c : setM m x.dst = false
    iterate 2
      · simp [c]
  rw [if_neg k2, if_neg k2]
  by_cases k3 : w.kind = 3
  · rw [if_pos k3, if_pos k3]
  rw [if_neg k3, if_neg k3]
  by_cases k4 : w.kind = 4
  · rw [if_pos k4, if_pos k4]
    by_cases c : (defs.length : Int) ≤ x.imm
    iterate 2
      · simp [c]
  rw [if_neg k4, if_neg k4]
  by_cases k5 : w.kind = 5
  · rw [if_pos k5, if_pos k5]
  rw [if_neg k5, if_neg k5]
  by_cases k6 : w.kind = 6 ∨ w.kind = 7 ∨ w.kind = 8
  · rw [if_pos k6, if_pos k6]
  rw [if_neg k6, if_neg k6]
  by_cases k9 : w.kind = 9
  · rw [if_pos k9, if_pos k9]
  rw [if_neg k9, if_neg k9]
  by_cases k10 : w.kind = 10
  · rw [if_pos k10, if_pos k10]
    by_cases c : (secondM m x w).2 = false ∨ setM m x.dst = false
    iterate 2
      · simp [c]
  rw [if_neg k10, if_neg k10]
  by_cases k11 : w.kind = 11
  · rw [if_pos k11, if_pos k11]
  rw [if_neg k11, if_neg k11]
  by_cases k12 : w.kind = 12
  · rw [if_pos k12, if_pos k12]
    by_cases c : setM m 0 = false
    · simp [c]
    · simp [c]
      rfl
  rw [if_neg k12, if_neg k12]
end
/-- The half of a wide instruction behind it is read of Numbers alone. -/
theorem does_half (m : MchM) (defs : List DefM) (x y y' : Insn) (w : What) (h : w.kind = 3 → y = y') : doesM m defs x y w = doesM m defs x y' w := by
  unfold doesM
  by_cases hk : w.kind = 3
  · rw [h hk]
  · simp only [hk, if_false]
/-- A jump's Off is no part of what it does. -/
theorem does_hop (m : MchM) (defs : List DefM) (x y : Insn) (n : Int) (w : What) (h : w.kind = 9 ∨ w.kind = 10 ∧ ¬ x.op = 6) : doesM m defs (hopX x n) y w = doesM m defs x y w := by
  unfold doesM
  have h1 : ¬ w.kind = 1 ∧ ¬ w.kind = 2 ∧ ¬ w.kind = 3 ∧ ¬ w.kind = 4 ∧ ¬ w.kind = 5 ∧ ¬ (w.kind = 6 ∨ w.kind = 7 ∨ w.kind = 8) := by omega
  obtain ⟨a, b, c, d, e, f⟩ := h1
  simp only [a, b, c, d, e, f, if_false]
  rcases h with h | ⟨h, h6⟩
  · rw [if_pos h, if_pos h]
  · have h9 : ¬ w.kind = 9 := by omega
    have hx : hopX x n = ⟨x.op, x.dst, x.src, n, x.imm⟩ := by unfold hopX; rw [if_neg h6]
    simp only [h9, h, if_false, if_true, hx]
    rfl
/-- A Mov of a register to itself does nothing. -/
theorem does_same {m : MchM} {defs : List DefM} {x y : Insn} {w : What} (hk : w.kind = 1) (ho : w.op = 176) (hw : w.wide = true) (hr : w.reg = true) (hf : x.off = 0) (hd : x.dst = x.src) (he : (doesM m defs x y w).2.2 = 0) : doesM m defs x y w = (m, false, 0) := by
  unfold doesM at he ⊢
  rw [if_pos hk] at he ⊢
  simp only at he
  unfold arithMM at he ⊢
  split
  · rename_i h; rw [if_pos h] at he; cases he
  · rename_i h
    have hs : (secondM m x w).2 = true := by
      cases hs : (secondM m x w).2
      · exact absurd (.inl hs) h
      · rfl
    have h2 : secondM m x w = (regM m x.src, setM m x.src) := by unfold secondM; rw [if_pos hr]
    rw [h2] at hs ⊢
    simp only at hs
    have hv : (doG w.op w.wide x.off (regM m x.dst) (if w.op = 128 then 0 else regM m x.src)).1 = regM m x.dst := by
      rw [ho, hf]
      unfold doG
      rw [if_pos ⟨rfl, hw, rfl⟩, if_neg (by decide), hd]
    simp only [hv]
    have hput : putR m x.dst (regM m x.dst) = m := by
      unfold putR regM
      have e1 : m.r.set x.dst.toNat (m.r.getD x.dst.toNat 0) = m.r := by
        apply List.ext_getElem?
        intro k
        rw [List.getElem?_set]
        split
        · rename_i e; subst e
          split
          · rename_i hl; rw [List.getD_eq_getElem?_getD, List.getElem?_eq_getElem hl]; rfl
          · rename_i hl; rw [List.getElem?_eq_none (by omega)]
        · rfl
      have e2 : m.s.set x.dst.toNat true = m.s := by
        rw [← hd] at hs
        unfold setM at hs
        apply List.ext_getElem?
        intro k
        rw [List.getElem?_set]
        split
        · rename_i e; subst e
          split
          · rename_i hl
            rw [List.getD_eq_getElem?_getD, List.getElem?_eq_getElem hl] at hs
            rw [List.getElem?_eq_getElem hl]
            simpa using hs.symm
          · rename_i hl; rw [List.getElem?_eq_none (by omega)]
        · rfl
      rw [e1, e2]
    rw [hput]
/-! ### Without what does nothing -/
/-- What is dropped does nothing: a Jump by 0, a Mov of a register to itself. -/
structure Idle (l : List Insn) (f : Nat → Bool) : Prop where
  inner : Inner l f
  idle : ∀ i, i < l.length → SB l i = true → f i = true →
    (kindM l i = 9 ∧ targetM l i = (((i + 1 : Nat) : Int), true)) ∨
    ((sem (at' l i)).1.kind = 1 ∧ (sem (at' l i)).1.op = 176 ∧ (sem (at' l i)).1.wide = true ∧ (sem (at' l i)).1.reg = true ∧ (at' l i).off = 0 ∧ (at' l i).dst = (at' l i).src)
/-- A machine and another one that runs what is left. -/
structure SimM (l : List Insn) (f : Nat → Bool) (m n : MchM) : Prop where
  at_ : m.place < l.length
  start : SB l m.place = true
  same : n = m.goto (plN l (oneE l f) m.place) n.steps
  less : n.steps ≤ m.steps
theorem branch_op {x : Insn} (h : (sem x).1.kind = 10) : ¬ x.op = 6 := by
  intro e
  obtain ⟨o, d, s, g, i⟩ := x
  simp only at e
  subst e
  unfold sem norm whatM at h
  simp [jumpsM, kindW] at h
  (repeat' split at h) <;> simp_all [What.zero]
theorem step_ok {l : List Insn} {defs : List DefM} {m : MchM} (ho : m.over = false) (he : (stepM l defs m).2 = 0) :
    (doesM m defs (at' l m.place) (at' l (m.place + 1)) (sem (at' l m.place)).1).2.2 = 0 ∧
    (stepM l defs m).1 = (doesM m defs (at' l m.place) (at' l (m.place + 1)) (sem (at' l m.place)).1).1.goto (nextM l m (doesM m defs (at' l m.place) (at' l (m.place + 1)) (sem (at' l m.place)).1)) (m.steps + 1) := by
  unfold stepM at he ⊢
  rw [if_neg (by simp [ho])] at he ⊢
  simp only at he ⊢
  split at he
  · rename_i h; exact absurd he h
  · rename_i h
    rw [if_neg h]
    exact ⟨by omega, rfl⟩
theorem does_taken {m : MchM} {defs : List DefM} {x y : Insn} {w : What} (h : (doesM m defs x y w).2.1 = true) : w.kind = 9 ∨ w.kind = 10 := by
  unfold doesM at h
  by_cases k9 : w.kind = 9
  · exact .inl k9
  by_cases k10 : w.kind = 10
  · exact .inr k10
  exfalso
  revert h
  repeat' split
  all_goals first | (intro h; cases h; done) | omega
theorem arith_over (m : MchM) (x : Insn) (w : What) : (arithMM m x w).1.over = m.over := by unfold arithMM; split <;> rfl
theorem load_over (m : MchM) (x : Insn) (w : What) : (loadMM m x w).1.over = m.over := by
  unfold loadMM
  split
  · rfl
  · simp only; split <;> rfl
theorem store_over (m : MchM) (x : Insn) (w : What) : (storeMM m x w).1.over = m.over := by
  unfold storeMM
  split
  · rfl
  · simp only
    split
    · split <;> rfl
    · rfl
theorem call_over (m : MchM) (defs : List DefM) (id : Int) : (callM m defs id).1.over = m.over := by
  unfold callM
  split
  · rfl
  · simp only
    split
    · rfl
    split
    · split <;> rfl
    split
    · split <;> rfl
    split
    · split <;> rfl
    split
    · split <;> rfl
    · rfl
theorem does_over {m : MchM} {defs : List DefM} {x y : Insn} {w : What} (h : ¬ w.kind = 12) : (doesM m defs x y w).1.over = m.over := by
  unfold doesM
  by_cases k1 : w.kind = 1
  · rw [if_pos k1]; exact arith_over _ _ _
  rw [if_neg k1]
  by_cases k2 : w.kind = 2
  · rw [if_pos k2]; split <;> rfl
  rw [if_neg k2]
  by_cases k3 : w.kind = 3
  · rw [if_pos k3]; rfl
  rw [if_neg k3]
  by_cases k4 : w.kind = 4
  · rw [if_pos k4]; split <;> rfl
  rw [if_neg k4]
  by_cases k5 : w.kind = 5
  · rw [if_pos k5]; exact load_over _ _ _
  rw [if_neg k5]
  by_cases k6 : w.kind = 6 ∨ w.kind = 7 ∨ w.kind = 8
  · rw [if_pos k6]; exact store_over _ _ _
  rw [if_neg k6]
  by_cases k9 : w.kind = 9
  · rw [if_pos k9]
  rw [if_neg k9]
  by_cases k10 : w.kind = 10
  · rw [if_pos k10]; split <;> rfl
  rw [if_neg k10]
  by_cases k11 : w.kind = 11
  · rw [if_pos k11]; exact call_over _ _ _
  rw [if_neg k11, if_neg h]
theorem does_jump {m : MchM} {defs : List DefM} {x y : Insn} {w : What} (h : w.kind = 9) : doesM m defs x y w = (m, true, 0) := by
  unfold doesM
  rw [if_neg (by omega), if_neg (by omega), if_neg (by omega), if_neg (by omega), if_neg (by omega), if_neg (by omega), if_pos h]
theorem does_exit {m : MchM} {defs : List DefM} {x y : Insn} {w : What} (h : w.kind = 12) (he : (doesM m defs x y w).2.2 = 0) : (doesM m defs x y w).1.over = true := by
  unfold doesM at he ⊢
  rw [if_neg (by omega), if_neg (by omega), if_neg (by omega), if_neg (by omega), if_neg (by omega), if_neg (by omega), if_neg (by omega), if_neg (by omega), if_neg (by omega), if_pos h] at he ⊢
  split
  · rename_i c; rw [if_pos c] at he; cases he
  · rfl
section
variable {l y : List Insn} {f : Nat → Bool} {defs : List DefM} {m n : MchM}
theorem sim_step (hc : Cut l y f) (hi : Idle l f) (h : SimM l f m n) (ho : m.over = false) (he : (stepM l defs m).2 = 0) :
    ((stepM l defs m).1.over = false ∧ SimM l f (stepM l defs m).1 n ∧ m.steps + 1 = (stepM l defs m).1.steps) ∨
    ((stepM y defs n).2 = 0 ∧ m.steps + 1 = (stepM l defs m).1.steps ∧ (stepM y defs n).1.steps = n.steps + 1 ∧ (((stepM l defs m).1.over = false ∧ SimM l f (stepM l defs m).1 (stepM y defs n).1) ∨ (stepM l defs m).1.over = true ∧ ∃ p, (stepM y defs n).1 = (stepM l defs m).1.goto p (n.steps + 1))) := by
  obtain ⟨h1, h2, h3, h4⟩ := h
  obtain ⟨hd, hm⟩ := step_ok ho he
  have hp := hc.prog
  cases hf : f m.place
  · right
    -- kept
    have hw : sem (at' y (plN l (oneE l f) m.place)) = sem (at' l m.place) := by
      cases hg : goesB (at' l m.place)
      · rw [hc.one _ h1 h2 hf hg]
      · obtain ⟨t, -, -, -, e⟩ := hc.jump _ h1 h2 hf hg
        rw [e, goes_hop _ hg]
    have hpl : n.place = plN l (oneE l f) m.place := by rw [h3]; rfl
    have hdn : doesM n defs (at' y n.place) (at' y (n.place + 1)) (sem (at' y n.place)).1 = ((doesM m defs (at' l m.place) (at' l (m.place + 1)) (sem (at' l m.place)).1).1.goto n.place n.steps, (doesM m defs (at' l m.place) (at' l (m.place + 1)) (sem (at' l m.place)).1).2) := by
      rw [hpl, hw]
      conv => lhs; rw [h3]
      rw [← does_goto]
      cases hg : goesB (at' l m.place)
      · rw [hc.one _ h1 h2 hf hg]
        refine does_half _ _ _ _ _ _ (fun hk => ?_)
        have h24 : (at' l m.place).op = 24 := by
          by_cases e : (at' l m.place).op = 24
          · exact e
          · exact absurd hk (sem_short e).1
        rw [hc.half _ h1 h2 hf h24]
      · obtain ⟨t, -, -, -, e⟩ := hc.jump _ h1 h2 hf hg
        have hk : (sem (at' l m.place)).1.kind = 9 ∨ (sem (at' l m.place)).1.kind = 10 := by simpa [goesB] using hg
        rw [e, does_hop _ _ _ _ _ _ (by rcases hk with hk | hk; exact .inl hk; exact .inr ⟨hk, branch_op hk⟩)]
        exact does_half _ _ _ _ _ _ (fun hk3 => by omega)
    have hon : n.over = false := by rw [h3]; exact ho
    have hsn : (stepM y defs n).2 = 0 ∧ (stepM y defs n).1 = (doesM m defs (at' l m.place) (at' l (m.place + 1)) (sem (at' l m.place)).1).1.goto (nextM y n (doesM n defs (at' y n.place) (at' y (n.place + 1)) (sem (at' y n.place)).1)) (n.steps + 1) := by
      unfold stepM
      rw [if_neg (by simp [hon])]
      simp only
      rw [if_neg (by rw [hdn]; simp only; omega)]
      refine ⟨rfl, ?_⟩
      rw [hdn]
      rfl
    refine ⟨hsn.1, by rw [hm]; rfl, by rw [hsn.2]; rfl, ?_⟩
    by_cases hk12 : (sem (at' l m.place)).1.kind = 12
    · refine .inr ⟨?_, _, by rw [hsn.2, hm]; rfl⟩
      rw [hm]
      exact does_exit hk12 hd
    · left
      have hov : (stepM l defs m).1.over = false := by rw [hm]; exact (does_over hk12).trans ho
      refine ⟨hov, ?_⟩
      have hnx : ∃ t, t < l.length ∧ SB l t = true ∧ nextM l m (doesM m defs (at' l m.place) (at' l (m.place + 1)) (sem (at' l m.place)).1) = t ∧ nextM y n (doesM n defs (at' y n.place) (at' y (n.place + 1)) (sem (at' y n.place)).1) = plN l (oneE l f) t := by
        unfold nextM
        rw [hdn]
        have hw2 : sem (at' y n.place) = sem (at' l m.place) := by rw [hpl]; exact hw
        rw [hw2, if_neg hk12, if_neg hk12]
        simp only
        by_cases htk : (doesM m defs (at' l m.place) (at' l (m.place + 1)) (sem (at' l m.place)).1).2.1 = true
        · rw [if_pos htk, if_pos htk]
          have hk := does_taken htk
          have hg : goesB (at' l m.place) = true := by simpa [goesB] using hk
          obtain ⟨t, a1, a2, a3, a4, -⟩ := hc.target h1 h2 hf hg
          obtain ⟨u, b1, b2, b3, -⟩ := hp.goes_at h1 h2 (by simpa [kindM] using hk)
          have : u = t := by rw [b3] at a3; simp only at a3; omega
          subst this
          exact ⟨u, b1, b2, by rw [a3]; rfl, by rw [hpl, a4]; rfl⟩
        · rw [if_neg htk, if_neg htk]
          have hk9 : (sem (at' l m.place)).1.kind ≠ 9 := fun h9 => htk (by rw [does_jump h9])
          obtain ⟨a1, a2⟩ := hp.next h1 h2 hk12 hk9
          exact ⟨_, a1, a2, rfl, by rw [hpl, hc.step h1 h2 hf]⟩
      obtain ⟨t, t1, t2, t3, t4⟩ := hnx
      have hmp : (stepM l defs m).1.place = t := by rw [hm]; exact t3
      refine ⟨by rw [hmp]; exact t1, by rw [hmp]; exact t2, ?_, ?_⟩
      · rw [hmp, hsn.2, hm, t4]; rfl
      · rw [hsn.2, hm]
        show n.steps + 1 ≤ m.steps + 1
        omega
  · left
    obtain ⟨h24, hlt⟩ := hi.inner _ h1 h2 hf
    have hst : stepN l m.place = m.place + 1 := by unfold stepN; rw [if_neg h24]
    have hgone := Cut0.gone h2 h1 hf
    rw [hst] at hgone
    have hs2 := SB_step h2
    rw [hst] at hs2
    have hmm : (stepM l defs m).1 = m.goto (m.place + 1) (m.steps + 1) := by
      rw [hm]
      rcases hi.idle _ h1 h2 hf with ⟨a1, a2⟩ | ⟨a1, a2, a3, a4, a5, a6⟩
      · have e : doesM m defs (at' l m.place) (at' l (m.place + 1)) (sem (at' l m.place)).1 = (m, true, 0) := does_jump a1
        rw [e]
        unfold nextM
        rw [if_neg (by unfold kindM at a1; omega), if_pos rfl, a2]
        rfl
      · have e := does_same a1 a2 a3 a4 a5 a6 hd
        rw [e]
        unfold nextM
        rw [if_neg (by omega), if_neg (by simp), hst]
    rw [hmm]
    refine ⟨ho, ⟨hlt, hs2, ?_, ?_⟩, rfl⟩
    · rw [show (m.goto (m.place + 1) (m.steps + 1)).place = m.place + 1 from rfl, hgone]; exact h3
    · show n.steps ≤ m.steps + 1
      omega
end
/-- So many steps of one are so many, or fewer, of the other one. -/
theorem sim_run {l y : List Insn} {f : Nat → Bool} {defs : List DefM} (hc : Cut l y f) (hi : Idle l f) : ∀ (k : Nat) {m n : MchM}, SimM l f m n → m.over = false → 600 - m.steps ≤ k → 
    (runK l defs 600 k m).over = true → (runK l defs 600 k m).code = 0 → ∀ k', 600 - n.steps ≤ k' → ∃ p s, runK y defs 600 k' n = (runK l defs 600 k m).goto p s
  | 0, m, n, h, ho, hk, hov, hcd, k', hk' => by rw [show (runK l defs 600 0 m) = m from rfl, ho] at hov; cases hov
  | k + 1, m, n, h, ho, hk, hov, hcd, k', hk' => by
    rw [runK] at hov hcd ⊢
    by_cases hst : 600 ≤ m.steps
    · rw [if_pos (.inr hst), ho] at hov; cases hov
    · have hcn : ¬ (m.over = true ∨ 600 ≤ m.steps) := by rw [ho]; simp; omega
      rw [if_neg hcn] at hov hcd ⊢
      by_cases he : (stepM l defs m).2 = 0
      · rcases sim_step hc hi h ho he with ⟨a1, a2, a3⟩ | ⟨b1, b2, b3, b4⟩
        · exact sim_run hc hi k a2 a1 (by omega) hov hcd k' hk'
        · have hl := h.less
          obtain ⟨k2, rfl⟩ : ∃ k2, k' = k2 + 1 := ⟨k' - 1, by omega⟩
          have hno : n.over = false := by rw [h.same]; exact ho
          rw [runK, if_neg (by rw [hno]; simp; omega)]
          rcases b4 with ⟨c1, c2⟩ | ⟨hov2, p, hp⟩
          · exact sim_run hc hi k c2 c1 (by omega) hov hcd k2 (by omega)
          · have e1 : runK l defs 600 k (stepM l defs m).1 = (stepM l defs m).1 := by cases k <;> simp [runK, hov2]
            have e2 : runK y defs 600 k2 (stepM y defs n).1 = (stepM y defs n).1 := by
              have : (stepM y defs n).1.over = true := by rw [hp]; exact hov2
              cases k2 <;> simp [runK, this]
            rw [e1, e2]
            exact ⟨p, _, hp⟩
      · exfalso
        have hcode : (stepM l defs m).1.over = true ∧ (stepM l defs m).1.code ≠ 0 := by
          unfold stepM at he ⊢
          rw [if_neg (by simp [ho])] at he ⊢
          simp only at he ⊢
          split at he
          · rename_i h; rw [if_pos h]; exact ⟨rfl, h⟩
          · cases he rfl
        have e1 : runK l defs 600 k (stepM l defs m).1 = (stepM l defs m).1 := by cases k <;> simp [runK, hcode.1]
        rw [e1] at hcd
        exact hcode.2 hcd
end
section
/-- How many are dropped ahead of a place. -/
def manyF (l : List Insn) (f : Nat → Bool) : Nat → Nat
  | 0 => 0
  | i + 1 => manyF l f i + (if SB l i = true ∧ f i = true then 1 else 0)
/-- What is dropped, and what stays, are all. -/
theorem plN_many {l : List Insn} {f : Nat → Bool} (hd : ∀ i, i < l.length → SB l i = true → f i = true → ¬ (at' l i).op = 24) : ∀ (i : Nat), i ≤ l.length → SB l i = true → plN l (oneE l f) i + manyF l f i = i := by
  intro i
  induction i using Nat.strongRecOn with
  | ind i ih =>
    intro hle hs
    match i, hs with
    | 0, _ => rfl
    | i + 1, hs =>
      rcases SB_prev hs with ⟨h1, h2⟩ | ⟨k, rfl, h1, h2⟩
      · have e := plN_step (es := oneE l f) h1
        have ih1 := ih i (by omega) (by omega) h1
        rw [h2, becL_one (by omega)] at e
        have h24 : ¬ (at' l i).op = 24 := by unfold stepN at h2; split at h2; omega; assumption
        rw [manyF, e]
        cases hf : f i
        · rw [hf] at e
          simp [h24]
          omega
        · rw [hf] at e
          simp [h1]
          omega
      · have e := plN_step (es := oneE l f) h1
        have ih1 := ih k (by omega) (by omega) h1
        rw [h2, becL_one (by omega)] at e
        have h24 : (at' l k).op = 24 := by unfold stepN at h2; split at h2; assumption; omega
        have hf : f k = false := by
          cases hf : f k
          · rfl
          · exact absurd h24 (hd k (by omega) h1 hf)
        have hs1 : SB l (k + 1) = false := by simp [SB, h1, h24]
        rw [manyF, manyF, e, hf, hs1]
        simp [h24]
        omega
end
section
theorem newM_other {x y : List Insn} {e : EnvM} (h : (checkM y).2 = 0) {a : MchM} (ha : newM x e = some a) : newM y e = some a := by
  unfold newM at *
  split at ha
  · cases ha
  · rename_i hn
    rw [if_neg (fun hh => hn (by
      rcases hh with hh | hh | hh | hh
      · exact absurd h hh
      · exact .inr (.inl hh)
      · exact .inr (.inr (.inl hh))
      · exact .inr (.inr (.inr hh))))]
    exact ha
theorem newM_begin {x : List Insn} {e : EnvM} {a : MchM} (ha : newM x e = some a) : a.place = 0 ∧ a.steps = 0 ∧ a.over = false := by
  unfold newM at ha
  split at ha
  · cases ha
  · simp only [Option.map_eq_some_iff] at ha
    obtain ⟨mt, -, rfl⟩ := ha
    exact ⟨rfl, rfl, rfl⟩
theorem alike_goto (defs : List DefM) (m : MchM) (p s : Nat) : alikeM (endM defs m) (endM defs (m.goto p s)) = true := by
  have e1 : (endM defs (m.goto p s)).code = (endM defs m).code := rfl
  have e2 : (endM defs (m.goto p s)).r0 = (endM defs m).r0 := rfl
  have e3 : (endM defs (m.goto p s)).calls = (endM defs m).calls := rfl
  have e4 : (endM defs (m.goto p s)).maps = (endM defs m).maps := rfl
  unfold alikeM
  rw [e1, e2, e3, e4]
  simp
/-- Without what is dropped a program ends the same. -/
theorem nothing_plain {x y : List Insn} {f : Nat → Bool} {e : EnvM} {a : MchM} (hp : Prog x) (hi : Idle x f) (hc : Cut x y f) (ha : newM x e = some a)
    (h0 : (endM e.defs (runK x e.defs 600 600 a)).code = 0) : alikeM (endM e.defs (runK x e.defs 600 600 a)) (endM e.defs (runK y e.defs 600 600 a)) = true := by
  obtain ⟨h1, h2, h3⟩ := newM_begin ha
  have hs : SimM x f a a := ⟨by rw [h1]; exact hp.pos, by rw [h1]; rfl, by
    rw [h1, show plN x (oneE x f) 0 = 0 from rfl]
    obtain ⟨r, s, me, tb, dr, pl, ov, co, st, ca⟩ := a
    simp only at h1 h2
    subst h1; subst h2
    rfl, Nat.le_refl _⟩
  have hov : (runK x e.defs 600 600 a).over = true := by
    cases hq : (runK x e.defs 600 600 a).over
    · unfold endM at h0
      rw [hq] at h0
      simp at h0
    · rfl
  have hcd : (runK x e.defs 600 600 a).code = 0 := by
    unfold endM at h0
    rw [hov] at h0
    simpa using h0
  obtain ⟨p, s, he⟩ := sim_run hc hi 600 hs h3 (by omega) hov hcd 600 (by omega)
  rw [he]
  exact alike_goto _ _ _ _
end
section
/-- What the law drops. -/
def lawF (x : List Insn) (put : List Int) (i : Nat) : Bool :=
  SB x i && ((kindM x i == 9 && (targetM x i).2 && decide ((targetM x i).1 = ((i + 1 : Nat) : Int)) && decide (i + 1 < x.length)) ||
    ((at' x i).op == 191 && (at' x i).off == 0 && (at' x i).dst == (at' x i).src && decide (i < put.length) && put.getD i 0 % 2 == 1))
theorem mov_sem {x : Insn} (ho : x.op = 191) (hf : x.off = 0) (hs : (sem x).2 = true) : (sem x).1.kind = 1 ∧ (sem x).1.op = 176 ∧ (sem x).1.wide = true ∧ (sem x).1.reg = true := by
  obtain ⟨op, dst, src, off, imm⟩ := x
  simp only at ho hf
  subst ho; subst hf
  unfold sem norm at *
  split at hs
  · rename_i h
    rw [if_pos h]
    by_cases hd : 10 < dst ∨ 10 < src
    · exfalso
      simp [whatM, hd, What.zero] at h
    · simp [whatM, hd, arithM, regB]
  · cases hs
theorem wide_kind {x : Insn} (h : x.op = 24) : ¬ (sem x).1.kind = 9 := by
  obtain ⟨op, dst, src, off, imm⟩ := x
  simp only at h
  subst h
  unfold sem norm
  split
  · by_cases hd : 10 < dst ∨ 10 < src
    · simp [whatM, hd, What.zero]
    · simp only [whatM, wideM, if_neg hd, if_pos]
      repeat' split
      all_goals simp [What.zero]
  · simp [What.zero]
theorem idle_law {x : List Insn} (hp : Prog x) (put : List Int) : Idle x (lawF x put) := by
  have hcase : ∀ i, i < x.length → SB x i = true → lawF x put i = true → (kindM x i = 9 ∧ targetM x i = (((i + 1 : Nat) : Int), true) ∧ i + 1 < x.length) ∨ ((at' x i).op = 191 ∧ (at' x i).off = 0 ∧ (at' x i).dst = (at' x i).src) := fun i hi hs hf => by
    unfold lawF at hf
    rw [hs] at hf
    simp only [Bool.true_and, Bool.or_eq_true, Bool.and_eq_true, beq_iff_eq, decide_eq_true_eq] at hf
    rcases hf with ⟨⟨⟨h1, h2⟩, h3⟩, h4⟩ | ⟨⟨⟨⟨h1, h2⟩, h3⟩, -⟩, -⟩
    · exact .inl ⟨h1, Prod.ext h3 h2, h4⟩
    · exact .inr ⟨h1, h2, h3⟩
  have hsem : ∀ i, i < x.length → SB x i = true → (sem (at' x i)).2 = true := fun i hi hs => by
    have := hp.whole i hi hs
    unfold wholeB at this
    rw [Bool.and_eq_true] at this
    exact this.1
  refine ⟨fun i hi hs hf => ?_, fun i hi hs hf => ?_⟩
  · rcases hcase i hi hs hf with ⟨h1, -, h3⟩ | ⟨h1, h2, h3⟩
    · exact ⟨fun h => wide_kind h h1, h3⟩
    · have hm := mov_sem h1 h2 (hsem i hi hs)
      have h24 : ¬ (at' x i).op = 24 := by rw [h1]; decide
      have hn := (hp.next hi hs (by rw [hm.1]; decide) (by rw [hm.1]; decide)).1
      unfold stepN at hn
      rw [if_neg h24] at hn
      exact ⟨h24, hn⟩
  · rcases hcase i hi hs hf with ⟨h1, h2, -⟩ | ⟨h1, h2, h3⟩
    · exact .inl ⟨h1, h2⟩
    · have hm := mov_sem h1 h2 (hsem i hi hs)
      exact .inr ⟨hm.1, hm.2.1, hm.2.2.1, hm.2.2.2, h2, h3⟩
/-- The law, in plain: what is rewritten, how long it is, and how it ends. -/
theorem nothing_law {x : List Insn} {e : EnvM} {a : MchM} (put : List Int) (ha : newM x e = some a) : ∃ y, rwM x (oneE x (lawF x put)) = (y, true) ∧ y.length + manyF x (lawF x put) x.length = x.length ∧ newM y e = some a ∧
    ((endM e.defs (runK x e.defs 600 600 a)).code = 0 → alikeM (endM e.defs (runK x e.defs 600 600 a)) (endM e.defs (runK y e.defs 600 600 a)) = true) := by
  have hck : (checkM x).2 = 0 := by
    unfold newM at ha
    split at ha
    · cases ha
    · rename_i hn
      exact Decidable.not_not.1 (fun h => hn (.inl h))
  have hp := check_prog hck
  have hi := idle_law hp put
  obtain ⟨y, hy, hc⟩ := rwM_inner hp hi.inner
  have hyes := rwM_yes (l := x) (es := oneE x (lawF x put)) (by rw [hy])
  rw [hy] at hyes
  refine ⟨y, hy, ?_, newM_other hyes.2.1 ha, nothing_plain hp hi hc ha⟩
  rw [hyes.2.2]
  exact plN_many (fun i h1 h2 h3 => (hi.inner i h1 h2 h3).1) x.length (Nat.le_refl _) hp.SB_all
end
end Go.Proofs.Ytncogaikiceidaa
