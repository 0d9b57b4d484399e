/- What is dropped first, and then, may be dropped at once: in plain terms. No statement is proved here. -/
import Derived.Test.YtgbmeckhagklnaaPackM
namespace Go.Proofs.Ytgbmeckhagklnaa
open Go.RowKit
theorem hopX_op (x : Insn) (n : Int) : (hopX x n).op = x.op := by
  unfold hopX
  split <;> rfl
theorem hopX_hopX (x : Insn) (n m : Int) : hopX (hopX x n) m = hopX x m := by
  unfold hopX
  by_cases h : x.op = 6
  · rw [if_pos h, if_pos (show (withImm x n).op = 6 from h), if_pos h]; rfl
  · rw [if_neg h, if_neg (show ¬ x.op = 6 from h), if_neg h]
theorem goes_hop {x : Insn} (n : Int) (h : goesB x = true) : sem (hopX x n) = sem x := by
  have hy : (sem x).2 = true := by
    cases hs : (sem x).2
    · rw [goesB, sem_no hs] at h; cases h
    · rfl
  have hg : (sem x).1.kind = 9 ∨ (sem x).1.kind = 10 := by simpa [goesB] using h
  have hd := sem_regs hy
  have hd' : ¬ (10 < x.dst ∨ 10 < x.src) := by omega
  have e1 := hopX_op x n
  have e2 : (hopX x n).dst = x.dst := by unfold hopX; split <;> rfl
  have e3 : (hopX x n).src = x.src := by unfold hopX; split <;> rfl
  unfold sem whatM at *
  rw [if_neg hd'] at *
  rw [e1, e2, e3, if_neg hd']
  by_cases c1 : x.op = 24
  · rw [if_pos c1] at *
    obtain ⟨-, hw⟩ := norm_yes hy
    rw [hw] at hg
    have : (wideM x).1.kind = 3 ∨ (wideM x).1.kind = 4 ∨ (wideM x).1.kind = 0 := by
      by_cases e0 : x.src = 0 <;> by_cases e1 : x.src = 1 <;> simp [wideM, What.zero, e0, e1]
    omega
  rw [if_neg c1] at *
  rw [if_neg c1]
  by_cases c2 : x.op = 212 ∨ x.op = 220 ∨ x.op = 215
  · rw [if_pos c2] at *
    obtain ⟨-, hw⟩ := norm_yes hy
    rw [hw] at hg
    simp [swapsM] at hg
  rw [if_neg c2] at *
  rw [if_neg c2]
  by_cases c3 : x.op % 8 = 4 ∨ x.op % 8 = 7
  · rw [if_pos c3] at *
    obtain ⟨-, hw⟩ := norm_yes hy
    rw [hw, arithM_kind] at hg
    omega
  rw [if_neg c3] at *
  rw [if_neg c3]
  by_cases c4 : x.op % 8 = 5 ∨ x.op % 8 = 6
  · rw [if_pos c4] at *
    rw [if_pos c4]
    by_cases j6 : x.op = 6
    · simp [jumpsM, j6, hopX, withImm, zerosB]
    by_cases j5 : x.op = 5
    · simp [jumpsM, j5, hopX, zerosB]
    obtain ⟨-, hw⟩ := norm_yes hy
    rw [hw] at hg
    by_cases j133 : x.op = 133
    · simp [jumpsM, j133, kindW] at hg
    by_cases j149 : x.op = 149
    · simp [jumpsM, j149, kindW] at hg
    · simp [jumpsM, hopX, zerosB, regB, j5, j6, j133, j149]
  rw [if_neg c4] at *
  rw [if_neg c4]
  by_cases c5 : x.op % 8 = 0
  · rw [if_pos c5] at hy; simp [norm] at hy
  rw [if_neg c5] at *
  rw [if_neg c5]
  obtain ⟨hy2, hw⟩ := norm_yes hy
  rw [hw] at hg
  by_cases m1 : x.op % 8 = 1
  · simp [movesM, m1] at hg
  by_cases m2 : x.op % 8 = 2
  · simp [movesM, m2] at hg
  by_cases m3 : x.op % 8 = 3
  · simp only [movesM, m3] at hg
    simp at hg
    split at hg <;> simp at hg
  · simp [movesM, m1, m2, m3] at hy2
theorem goesB_hop {x : Insn} (n : Int) (h : goesB x = true) : goesB (hopX x n) = true := by
  unfold goesB at *
  rw [goes_hop n h]
  exact h
/-- What is told of places, by a yes or no for each. -/
def dropE (b : Bool) : Edit := if b then Edit.drop else Edit.none
def oneE (l : List Insn) (f : Nat → Bool) : List Edit := (List.range l.length).map fun i => dropE (f i)
def restE (l : List Insn) (f g : Nat → Bool) : Nat → List Edit
  | 0 => []
  | i + 1 => restE l f g i ++ (if f i = false ∧ SB l i = true then dropE (g i) :: (if (at' l i).op = 24 then [Edit.none] else []) else [])
theorem editM_one {l : List Insn} {f : Nat → Bool} {i : Nat} (h : i < l.length) : editM (oneE l f) i = dropE (f i) := by
  have e : edAt (oneE l f) i = dropE (f i) := by rw [edAt_get (by simpa [oneE] using h)]; simp [oneE]
  unfold editM
  rw [e, if_pos ⟨by simpa [oneE] using h, by unfold dropE; split <;> simp [Edit.drop, Edit.none]⟩]
theorem becL_one {l : List Insn} {f : Nat → Bool} {i : Nat} (h : i < l.length) : becL l (oneE l f) i = if f i = true then [] else if (at' l i).op = 24 then [at' l i, at' l (i + 1)] else [at' l i] := by
  unfold becL
  rw [editM_one h]
  cases f i <;> simp [dropE, Edit.drop, Edit.none]
theorem becT_one {l : List Insn} {f : Nat → Bool} {i : Nat} (h : i < l.length) (hf : f i = false) : becT l (oneE l f) i = (targetM l i).1 := by
  unfold becT
  rw [editM_one h, hf]
  simp [dropE, Edit.none]
theorem restE_len (l : List Insn) (f g : Nat → Bool) : ∀ i, i ≤ l.length → (restE l f g i).length = plN l (oneE l f) i
  | 0, _ => rfl
  | i + 1, h => by
    rw [restE, plN, List.length_append, restE_len l f g i (by omega), becL_one (by omega)]
    congr 1
    cases hf : f i <;> cases hs : SB l i <;> by_cases hw : (at' l i).op = 24 <;> simp [hw]
theorem restE_more (l : List Insn) (f g : Nat → Bool) (i : Nat) : ∀ k, ∃ r, restE l f g (i + k) = restE l f g i ++ r
  | 0 => ⟨[], by simp⟩
  | k + 1 => by
    obtain ⟨r, hr⟩ := restE_more l f g i k
    rw [← Nat.add_assoc, restE, hr]
    exact ⟨_, List.append_assoc _ _ _⟩
theorem restE_at {l : List Insn} {f g : Nat → Bool} {i n : Nat} (hi : i < n) (hn : n ≤ l.length) (hs : SB l i = true) (hf : f i = false) : editM (restE l f g n) (plN l (oneE l f) i) = dropE (g i) := by
  obtain ⟨r, hr⟩ := restE_more l f g (i + 1) (n - (i + 1))
  rw [show i + 1 + (n - (i + 1)) = n by omega, restE, if_pos ⟨hf, hs⟩, List.append_assoc] at hr
  have hl := restE_len l f g i (by omega)
  have hlt : plN l (oneE l f) i < (restE l f g n).length := by rw [hr, List.length_append, hl]; simp
  have e : edAt (restE l f g n) (plN l (oneE l f) i) = dropE (g i) := by
    rw [edAt_get hlt]
    simp only [hr]
    rw [List.getElem_append_right (by omega)]
    simp [hl]
  unfold editM
  rw [e, if_pos ⟨hlt, by unfold dropE; split <;> simp [Edit.drop, Edit.none]⟩]
theorem rwA_more {l : List Insn} {es : List Edit} {i : Nat} : ∀ (k : Nat) {out : List Insn}, rwA l es (i + k) = some out → ∃ acc r, rwA l es i = some acc ∧ out = acc ++ r
  | 0, out, h => ⟨out, [], h, by simp⟩
  | k + 1, out, h => by
    rw [← Nat.add_assoc, rwA] at h
    split at h
    · cases ha : rwA l es (i + k) with
      | none => rw [ha] at h; cases h
      | some a =>
        rw [ha] at h
        obtain ⟨acc, r, h1, h2⟩ := rwA_more k ha
        have h : putX l es (i + k) a = some out := h
        unfold putX at h
        split at h
        · injection h with h; exact ⟨acc, r, h1, by rw [← h, h2]⟩
        · split at h
          · split at h
            · injection h with h; exact ⟨acc, r ++ _, h1, by rw [← h, h2, List.append_assoc]⟩
            · cases h
          · injection h with h; exact ⟨acc, r ++ _, h1, by rw [← h, h2, List.append_assoc]⟩
    · exact rwA_more k h
theorem at_append {a b : List Insn} {k : Nat} : at' (a ++ b) (a.length + k) = at' b k := by
  simp [at', List.getD_eq_getElem?_getD, List.getElem?_append_right]
/-- Behind the first rewrite. -/
structure Cut (l y : List Insn) (f : Nat → Bool) : Prop where
  prog : Prog l
  made : Prog y
  len : y.length = plN l (oneE l f) l.length
  one : ∀ i, i < l.length → SB l i = true → f i = false → goesB (at' l i) = false → at' y (plN l (oneE l f) i) = at' l i
  jump : ∀ i, i < l.length → SB l i = true → f i = false → goesB (at' l i) = true → ∃ t, t ≤ l.length ∧ SB l t = true ∧ (targetM l i).1 = (t : Int) ∧ at' y (plN l (oneE l f) i) = hopX (at' l i) ((plN l (oneE l f) t : Int) - plN l (oneE l f) i - 1)
  half : ∀ i, i < l.length → SB l i = true → f i = false → (at' l i).op = 24 → at' y (plN l (oneE l f) i + 1) = at' l (i + 1)
theorem cut_made {l y : List Insn} {f : Nat → Bool} (h : rwM l (oneE l f) = (y, true)) : Cut l y f := by
  have hyes := rwM_yes (l := l) (es := oneE l f) (by rw [h])
  rw [h] at hyes
  obtain ⟨h1, h2, h3⟩ := hyes
  have hp := check_prog h1
  have hA : rwA l (oneE l f) l.length = some y := by
    unfold rwM at h
    rw [if_neg (by simp [h1])] at h
    split at h
    · cases h
    · rename_i out e
      split at h
      · injection h with h; rw [e, h]
      · cases h
  have hat : ∀ i, i < l.length → SB l i = true → f i = false → ∃ acc x r q, becL l (oneE l f) i = x :: r ∧ acc.length = plN l (oneE l f) i ∧ y = acc ++ ((if goesB x = true then hopX x ((plN l (oneE l f) (becT l (oneE l f) i).toNat : Int) - acc.length - 1) else x) :: r) ++ q ∧ (goesB x = true → 0 ≤ becT l (oneE l f) i ∧ becT l (oneE l f) i ≤ l.length) := by
    intro i hi hs hf
    obtain ⟨out, q, ho, hq⟩ := rwA_more (l := l) (es := oneE l f) (i := i + 1) (l.length - (i + 1)) (by rw [show i + 1 + (l.length - (i + 1)) = l.length by omega]; exact hA)
    rw [rwA, if_pos hs] at ho
    cases ha : rwA l (oneE l f) i with
    | none => rw [ha] at ho; cases ho
    | some acc =>
      rw [ha] at ho
      have ho : putX l (oneE l f) i acc = some out := ho
      have hx : ∃ x r, becL l (oneE l f) i = x :: r := by
        rw [becL_one hi, hf]
        by_cases hw : (at' l i).op = 24
        · exact ⟨_, _, by rw [if_neg (by simp), if_pos hw]⟩
        · exact ⟨_, _, by rw [if_neg (by simp), if_neg hw]⟩
      obtain ⟨x, r, hx⟩ := hx
      refine ⟨acc, x, r, q, hx, rwA_len _ ha, ?_, ?_⟩
      · unfold putX at ho
        rw [hx] at ho
        simp only at ho
        by_cases hg : goesB x = true
        · rw [if_pos hg] at ho ⊢
          split at ho
          · injection ho with ho; rw [hq, ← ho]
          · cases ho
        · rw [if_neg hg] at ho ⊢
          injection ho with ho; rw [hq, ← ho]
      · intro hg
        unfold putX at ho
        rw [hx] at ho
        simp only at ho
        rw [if_pos hg] at ho
        split at ho
        · assumption
        · cases ho
  have hx0 : ∀ i x r, i < l.length → f i = false → becL l (oneE l f) i = x :: r → x = at' l i ∧ ((at' l i).op = 24 → r = [at' l (i + 1)]) := by
    intro i x r hi hf hx
    rw [becL_one hi, hf] at hx
    by_cases hw : (at' l i).op = 24
    · rw [if_neg (by simp), if_pos hw] at hx
      injection hx with hx1 hx2
      exact ⟨hx1.symm, fun _ => hx2.symm⟩
    · rw [if_neg (by simp), if_neg hw] at hx
      injection hx with hx1 hx2
      exact ⟨hx1.symm, fun h => absurd h hw⟩
  refine ⟨hp, check_prog h2, h3, ?_, ?_, ?_⟩
  · intro i hi hs hf hg
    obtain ⟨acc, x, r, q, hx, hl, hy, -⟩ := hat i hi hs hf
    obtain ⟨rfl, -⟩ := hx0 i x r hi hf hx
    rw [if_neg (by rw [hg]; simp)] at hy
    rw [hy, ← hl, List.append_assoc]
    exact (at_append (k := 0)).trans rfl
  · intro i hi hs hf hg
    obtain ⟨acc, x, r, q, hx, hl, hy, hb⟩ := hat i hi hs hf
    obtain ⟨rfl, -⟩ := hx0 i x r hi hf hx
    obtain ⟨t, ht, hst, htg, htn⟩ := hp.goes_at hi hs (by simpa [goesB, kindM] using hg)
    have hT := becT_one hi hf
    rw [htg] at hT
    simp only at hT
    rw [if_pos hg, hT, Int.toNat_natCast, hl] at hy
    refine ⟨t, by omega, hst, by rw [htg], ?_⟩
    rw [hy, ← hl, List.append_assoc]
    exact (at_append (k := 0)).trans rfl
  · intro i hi hs hf hw
    obtain ⟨acc, x, r, q, hx, hl, hy, -⟩ := hat i hi hs hf
    obtain ⟨rfl, hr⟩ := hx0 i x r hi hf hx
    rw [hy, ← hl, List.append_assoc, at_append, hr hw]
    rfl
section
variable {l y : List Insn} {f : Nat → Bool}
theorem Cut.op (h : Cut l y f) {i : Nat} (hi : i < l.length) (hs : SB l i = true) (hf : f i = false) : (at' y (plN l (oneE l f) i)).op = (at' l i).op := by
  cases hg : goesB (at' l i)
  · rw [h.one i hi hs hf hg]
  · obtain ⟨t, -, -, -, e⟩ := h.jump i hi hs hf hg
    rw [e, hopX_op]
theorem Cut.step (h : Cut l y f) {i : Nat} (hi : i < l.length) (hs : SB l i = true) (hf : f i = false) : plN l (oneE l f) (stepN l i) = stepN y (plN l (oneE l f) i) := by
  rw [plN_step hs, becL_one hi, hf]
  unfold stepN
  rw [h.op hi hs hf]
  by_cases hw : (at' l i).op = 24 <;> simp [hw]
theorem Cut.gone {i : Nat} (hs : SB l i = true) (hi : i < l.length) (hf : f i = true) : plN l (oneE l f) (stepN l i) = plN l (oneE l f) i := by
  rw [plN_step hs, becL_one hi, hf]
  simp
theorem starts_ind {l : List Insn} {P : Nat → Prop} (h0 : P 0) (hstep : ∀ i, i < l.length → SB l i = true → P i → P (stepN l i)) : ∀ i, i ≤ l.length → SB l i = true → P i := by
  intro i
  induction i using Nat.strongRecOn with
  | ind i ih =>
    intro hle hs
    match i, hs, hle with
    | 0, _, _ => exact h0
    | i + 1, hs, hle =>
      rcases SB_prev hs with ⟨h1, h2⟩ | ⟨k, rfl, h1, h2⟩
      · have := hstep i (by omega) h1 (ih i (by omega) (by omega) h1)
        rwa [h2] at this
      · have := hstep k (by omega) h1 (ih k (by omega) (by omega) h1)
        rwa [h2] at this
theorem Cut.starts (h : Cut l y f) : ∀ i, i ≤ l.length → SB l i = true → SB y (plN l (oneE l f) i) = true := by
  apply starts_ind
  · rfl
  · intro i hi hs ih
    cases hf : f i
    · rw [h.step hi hs hf]; exact SB_step ih
    · rw [Cut.gone hs hi hf]; exact ih
theorem plN_lt {l : List Insn} {es : List Edit} (i : Nat) : ∀ k, plN l es i ≤ plN l es (i + k)
  | 0 => Nat.le_refl _
  | k + 1 => by
    have := plN_lt (l := l) (es := es) i k
    rw [← Nat.add_assoc, plN]
    omega
theorem Cut.lt (h : Cut l y f) {i : Nat} (hi : i < l.length) (hs : SB l i = true) (hf : f i = false) : plN l (oneE l f) i < y.length := by
  have h1 := plN_lt (l := l) (es := oneE l f) (i + 1) (l.length - (i + 1))
  rw [show i + 1 + (l.length - (i + 1)) = l.length by omega, ← h.len] at h1
  have h2 : 1 ≤ (becL l (oneE l f) i).length := by
    rw [becL_one hi, hf]
    by_cases hw : (at' l i).op = 24 <;> simp [hw]
  rw [plN, if_pos hs] at h1
  omega
theorem Cut.goes (h : Cut l y f) {i : Nat} (hi : i < l.length) (hs : SB l i = true) (hf : f i = false) : goesB (at' y (plN l (oneE l f) i)) = goesB (at' l i) := by
  cases hg : goesB (at' l i)
  · rw [h.one i hi hs hf hg, hg]
  · obtain ⟨t, -, -, -, e⟩ := h.jump i hi hs hf hg
    rw [e, goesB_hop _ hg]
theorem Cut.target (h : Cut l y f) {i : Nat} (hi : i < l.length) (hs : SB l i = true) (hf : f i = false) (hg : goesB (at' l i) = true) : ∃ t, t ≤ l.length ∧ SB l t = true ∧ (targetM l i).1 = (t : Int) ∧ (targetM y (plN l (oneE l f) i)).1 = (plN l (oneE l f) t : Int) ∧ plN l (oneE l f) t ≤ y.length := by
  obtain ⟨t, h1, h2, h3, e⟩ := h.jump i hi hs hf hg
  have hlt := h.lt hi hs hf
  have hgy := h.goes hi hs hf
  rw [hg] at hgy
  have hky : kindM y (plN l (oneE l f) i) = 9 ∨ kindM y (plN l (oneE l f) i) = 10 := by simpa [goesB, kindM] using hgy
  obtain ⟨u, hu, hsu, htg, -⟩ := h.made.goes_at hlt (h.starts i (by omega) hs) hky
  have hto := target_to (l := y) (i := plN l (oneE l f) i) (by rw [htg])
  have hval : (toM y (plN l (oneE l f) i)).1 = (plN l (oneE l f) t : Int) := by
    unfold toM
    rw [if_neg (by unfold kindM at hky; omega), e, hopX_op]
    by_cases h6 : (at' l i).op = 6
    · rw [if_pos h6, hopX, if_pos h6]; simp [withImm]; omega
    · rw [if_neg h6, hopX, if_neg h6]; simp; omega
  refine ⟨t, h1, h2, h3, hto.trans hval, ?_⟩
  rw [hval, htg] at hto
  simp only at hto
  omega
theorem Cut.places (h : Cut l y f) (g : Nat → Bool) : ∀ i, i ≤ l.length → SB l i = true → plN y (restE l f g l.length) (plN l (oneE l f) i) = plN l (oneE l fun i => f i || g i) i := by
  apply starts_ind
  · rfl
  · intro i hi hs ih
    cases hf : f i
    · have hb : (becL y (restE l f g l.length) (plN l (oneE l f) i)).length = (becL l (oneE l fun i => f i || g i) i).length := by
        rw [becL_one hi, becL, restE_at hi (Nat.le_refl _) hs hf, h.op hi hs hf, hf]
        cases g i <;> by_cases hw : (at' l i).op = 24 <;> simp [dropE, Edit.drop, Edit.none, hw]
      rw [h.step hi hs hf, plN_step (h.starts i (by omega) hs), plN_step hs, ih, hb]
    · rw [Cut.gone hs hi hf, plN_step hs, ih, becL_one hi, hf]
      simp
theorem Cut.rest (h : Cut l y f) (g : Nat → Bool) : ∀ i, i ≤ l.length → SB l i = true → rwA y (restE l f g l.length) (plN l (oneE l f) i) = rwA l (oneE l fun i => f i || g i) i := by
  apply starts_ind
  · rfl
  · intro i hi hs ih
    cases hf : f i
    · rw [h.step hi hs hf, rwA_step (h.starts i (by omega) hs), rwA_step hs, ih]
      congr 1
      funext acc
      have hE := restE_at (g := g) hi (Nat.le_refl _) hs hf
      cases hg : g i
      · have hb1 : becL l (oneE l fun i => f i || g i) i = if (at' l i).op = 24 then [at' l i, at' l (i + 1)] else [at' l i] := by
          rw [becL_one hi, hf, hg]; simp
        have hb2 : becL y (restE l f g l.length) (plN l (oneE l f) i) = if (at' l i).op = 24 then [at' y (plN l (oneE l f) i), at' l (i + 1)] else [at' y (plN l (oneE l f) i)] := by
          rw [becL, hE, h.op hi hs hf, hg]
          by_cases hw : (at' l i).op = 24
          · simp [dropE, Edit.none, hw, h.half i hi hs hf hw]
          · simp [dropE, Edit.none, hw]
        have hr : ∃ r, (if (at' l i).op = 24 then [at' l i, at' l (i + 1)] else [at' l i]) = at' l i :: r ∧ (if (at' l i).op = 24 then [at' y (plN l (oneE l f) i), at' l (i + 1)] else [at' y (plN l (oneE l f) i)]) = at' y (plN l (oneE l f) i) :: r := by
          by_cases hw : (at' l i).op = 24
          · exact ⟨_, by rw [if_pos hw], by rw [if_pos hw]⟩
          · exact ⟨_, by rw [if_neg hw], by rw [if_neg hw]⟩
        obtain ⟨r, hr1, hr2⟩ := hr
        unfold putX
        rw [hb1, hb2, hr1, hr2]
        simp only
        rw [h.goes hi hs hf]
        cases hgo : goesB (at' l i)
        · rw [if_neg (by simp), if_neg (by simp), h.one i hi hs hf hgo]
        · rw [if_pos rfl, if_pos rfl]
          obtain ⟨t, h1, h2, h3, h4, h5⟩ := h.target hi hs hf hgo
          obtain ⟨t', h1', h2', h3', e⟩ := h.jump i hi hs hf hgo
          have hT1 : becT y (restE l f g l.length) (plN l (oneE l f) i) = (plN l (oneE l f) t : Int) := by
            rw [becT, hE, hg]; simp [dropE, Edit.none, h4]
          have hT2 : becT l (oneE l fun i => f i || g i) i = (t : Int) := by
            rw [becT_one hi (by rw [hf, hg]; rfl), h3]
          rw [hT1, hT2, if_pos ⟨by omega, by omega⟩, if_pos ⟨by omega, by omega⟩, Int.toNat_natCast, Int.toNat_natCast, h.places g t h1 h2, e, hopX_hopX]
      · have hb1 : becL l (oneE l fun i => f i || g i) i = [] := by
          rw [becL_one hi, hf, hg]; simp
        have hb2 : becL y (restE l f g l.length) (plN l (oneE l f) i) = [] := by
          rw [becL, hE, hg]; simp [dropE, Edit.drop]
        unfold putX
        rw [hb1, hb2]
    · rw [Cut.gone hs hi hf, rwA_step hs, ih]
      have hb1 : becL l (oneE l fun i => f i || g i) i = [] := by
        rw [becL_one hi, hf]; simp
      cases rwA l (oneE l fun i => f i || g i) i with
      | none => rfl
      | some acc =>
        show _ = putX _ _ _ _
        unfold putX
        rw [hb1]
theorem twice {l y : List Insn} {f : Nat → Bool} (g : Nat → Bool) (h : rwM l (oneE l f) = (y, true)) : rwM y (restE l f g l.length) = rwM l (oneE l fun i => f i || g i) := by
  have hc := cut_made h
  have hr := hc.rest g l.length (Nat.le_refl _) hc.prog.SB_all
  rw [← hc.len] at hr
  unfold rwM
  rw [hr, prog_check hc.prog, prog_check hc.made]
end
end Go.Proofs.Ytgbmeckhagklnaa
