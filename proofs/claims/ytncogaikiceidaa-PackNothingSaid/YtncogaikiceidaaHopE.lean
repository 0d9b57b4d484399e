/- What becomes of instructions, as the model has it. No statement is proved here. -/
import Derived.Test.YtncogaikiceidaaHopM
import Derived.Laws.MakeOwn
section
namespace Go.Proofs.Ytncogaikiceidaa
open Go.RowKit
set_option linter.unusedSimpArgs false
set_option linter.unusedVariables false
set_option linter.unnecessarySimpa false
/-- What becomes of an instruction, as the model has it. -/
def Edit.cells (e : Edit) : List Value := [.int .u8 e.kind, .int .u8 e.x.op, .int .u8 e.x.dst, .int .u8 e.x.src, .int .i16 e.x.off, .int .i32 e.x.imm, .int .i64 e.to]
def Edit.val (e : Edit) : Value := .agg #[.int .u8 e.kind, .int .u8 e.x.op, .int .u8 e.x.dst, .int .u8 e.x.src, .int .i16 e.x.off, .int .i32 e.x.imm, .int .i64 e.to]
def Edit.obj (e : Edit) : Obj := .cells #[.int .u8 e.kind, .int .u8 e.x.op, .int .u8 e.x.dst, .int .u8 e.x.src, .int .i16 e.x.off, .int .i32 e.x.imm, .int .i64 e.to] 48
def Edit.Ok (e : Edit) : Prop := e.x.Ok
def editsV (l : List Edit) : List Value := (l.map Edit.cells).flatten
def edAt (l : List Edit) (i : Nat) : Edit := l.getD i Edit.none
theorem edAt_get {l : List Edit} {i : Nat} (h : i < l.length) : edAt l i = l[i] := by simp [edAt, List.getD_eq_getElem?_getD, h]
theorem editsV_append (l m : List Edit) : editsV (l ++ m) = editsV l ++ editsV m := by simp [editsV]
theorem editsV_get : ∀ {l : List Edit} {k j : Nat}, k < l.length → j < 7 → (editsV l)[k * 7 + j]? = (edAt l k).cells[j]?
  | x :: l, 0, j, _, hj => by
    show (x.cells ++ editsV l)[0 * 7 + j]? = _
    rw [List.getElem?_append_left (by simp [Edit.cells]; omega)]
    simp [edAt]
  | x :: l, k + 1, j, hk, hj => by
    show (x.cells ++ editsV l)[(k + 1) * 7 + j]? = _
    have h5 : x.cells.length = 7 := rfl
    rw [List.getElem?_append_right (by omega), h5, show (k + 1) * 7 + j - 7 = k * 7 + j by omega, editsV_get (by simpa using hk) hj]
    simp [edAt]
/-- What becomes of the instructions, from a slice of it. -/
theorem SAt.edit {W : World} {B : Nat} {A : Option Addr} {l : List Edit} (h : SAt W B 7 A l.length (editsV l)) {k : Nat} (hk : k < l.length) :
    ∃ b o, A = some ⟨b, o, none⟩ ∧ b < B ∧ (∀ w', Below B W w' → w'.cell? ⟨b, o + k * 7, none⟩ = some (.int .u8 (edAt l k).kind)) ∧ (∀ w', Below B W w' → w'.cell? ⟨b, o + k * 7 + 1, none⟩ = some (.int .u8 (edAt l k).x.op)) ∧
     (∀ w', Below B W w' → w'.cell? ⟨b, o + k * 7 + 2, none⟩ = some (.int .u8 (edAt l k).x.dst)) ∧ (∀ w', Below B W w' → w'.cell? ⟨b, o + k * 7 + 3, none⟩ = some (.int .u8 (edAt l k).x.src)) ∧
     (∀ w', Below B W w' → w'.cell? ⟨b, o + k * 7 + 4, none⟩ = some (.int .i16 (edAt l k).x.off)) ∧ (∀ w', Below B W w' → w'.cell? ⟨b, o + k * 7 + 5, none⟩ = some (.int .i32 (edAt l k).x.imm)) ∧ (∀ w', Below B W w' → w'.cell? ⟨b, o + k * 7 + 6, none⟩ = some (.int .i64 (edAt l k).to)) := by
  obtain ⟨b, o, rfl, hb, hc⟩ := h.2 (by omega)
  have hj : ∀ j u, j < 7 → (edAt l k).cells[j]? = some u → ∀ w', Below B W w' → w'.cell? ⟨b, o + k * 7 + j, none⟩ = some u := by
    intro j u hj hu w' hw
    rw [Nat.add_assoc, hw.cell hb]
    exact hc _ _ (by rw [editsV_get hk hj, hu])
  exact ⟨b, o, rfl, hb, hj 0 _ (by omega) rfl, hj 1 _ (by omega) rfl, hj 2 _ (by omega) rfl, hj 3 _ (by omega) rfl, hj 4 _ (by omega) rfl, hj 5 _ (by omega) rfl, hj 6 _ (by omega) rfl⟩
end Go.Proofs.Ytncogaikiceidaa
end
section
namespace Go.Proofs.Ytncogaikiceidaa
open Go.RowKit
/-- What becomes of a place. -/
def editM (es : List Edit) (i : Nat) : Edit := if i < es.length ∧ (edAt es i).kind ≤ 2 then edAt es i else Edit.none
def becL (l : List Insn) (es : List Edit) (i : Nat) : List Insn :=
  if (editM es i).kind = 1 then [] else if (editM es i).kind = 2 then [(editM es i).x] else if (at' l i).op = 24 then [at' l i, at' l (i + 1)] else [at' l i]
def becT (l : List Insn) (es : List Edit) (i : Nat) : Int := if (editM es i).kind = 1 then 0 else if (editM es i).kind = 2 then (editM es i).to else (targetM l i).1
def plN (l : List Insn) (es : List Edit) : Nat → Nat
  | 0 => 0
  | i + 1 => plN l es i + (if SB l i = true then (becL l es i).length else 0)
def hopX (x : Insn) (n : Int) : Insn := if x.op = 6 then withImm x n else ⟨x.op, x.dst, x.src, n, x.imm⟩
def goesB (x : Insn) : Bool := (sem x).1.kind == 9 || (sem x).1.kind == 10
def putX (l : List Insn) (es : List Edit) (i : Nat) (acc : List Insn) : Option (List Insn) :=
  match becL l es i with
  | [] => some acc
  | x :: r => if goesB x = true then (if 0 ≤ becT l es i ∧ becT l es i ≤ l.length then some (acc ++ hopX x ((plN l es (becT l es i).toNat : Int) - acc.length - 1) :: r) else none) else some (acc ++ x :: r)
def rwA (l : List Insn) (es : List Edit) : Nat → Option (List Insn)
  | 0 => some []
  | i + 1 => if SB l i = true then (rwA l es i).bind (putX l es i) else rwA l es i
def rwM (l : List Insn) (es : List Edit) : List Insn × Bool :=
  if (checkM l).2 ≠ 0 then ([], false) else
  match rwA l es l.length with
  | none => ([], false)
  | some out => if (checkM out).2 = 0 then (out, true) else ([], false)
theorem becL_le (l : List Insn) (es : List Edit) (i : Nat) : (becL l es i).length ≤ 2 := by
  unfold becL
  split
  · simp
  split
  · simp
  split <;> simp
theorem plN_le (l : List Insn) (es : List Edit) : ∀ i, plN l es i ≤ 2 * i
  | 0 => by simp [plN]
  | i + 1 => by
    have := plN_le l es i
    have := becL_le l es i
    unfold plN
    split <;> omega
theorem plN_step {l : List Insn} {es : List Edit} {i : Nat} (h : SB l i = true) : plN l es (stepN l i) = plN l es i + (becL l es i).length := by
  unfold stepN
  split
  · rename_i hw
    rw [plN, plN, (SB_wide h hw).1, if_pos h]
    simp
  · rw [plN, if_pos h]
theorem rwA_step {l : List Insn} {es : List Edit} {i : Nat} (h : SB l i = true) : rwA l es (stepN l i) = (rwA l es i).bind (putX l es i) := by
  unfold stepN
  split
  · rename_i hw
    rw [rwA, rwA, (SB_wide h hw).1, if_pos h]
    simp
  · rw [rwA, if_pos h]
theorem rwA_none {l : List Insn} {es : List Edit} {i : Nat} (h : rwA l es i = none) : ∀ k, rwA l es (i + k) = none
  | 0 => h
  | k + 1 => by
    rw [← Nat.add_assoc, rwA, rwA_none h k]
    split <;> rfl
theorem putX_len {l : List Insn} {es : List Edit} {i : Nat} {acc out : List Insn} (h : putX l es i acc = some out) : out.length = acc.length + (becL l es i).length := by
  unfold putX at h
  split at h
  · rename_i e
    rw [e]; injection h with h; rw [h]; rfl
  · rename_i x r e
    rw [e]
    split at h
    · split at h
      · injection h with h; rw [← h]; simp
      · cases h
    · injection h with h; rw [← h]; simp
theorem rwA_len {l : List Insn} {es : List Edit} : ∀ (i : Nat) {acc : List Insn}, rwA l es i = some acc → acc.length = plN l es i
  | 0, acc, h => by rw [rwA] at h; injection h with h; rw [← h]; rfl
  | i + 1, acc, h => by
    rw [rwA] at h
    rw [plN]
    split at h
    · rename_i hs
      rw [if_pos hs]
      cases ha : rwA l es i with
      | none => rw [ha] at h; cases h
      | some a =>
        rw [ha] at h
        rw [putX_len h, rwA_len i ha]
    · rename_i hs
      rw [if_neg hs]
      exact rwA_len i h
/-! all kept -/
/-- Each beginning but the first one has one ahead of it. -/
theorem SB_prev {l : List Insn} {i : Nat} (h : SB l (i + 1) = true) : (SB l i = true ∧ stepN l i = i + 1) ∨ ∃ k, i = k + 1 ∧ SB l k = true ∧ stepN l k = i + 1 := by
  cases hs : SB l i
  · match i, h, hs with
    | k + 1, h, hs =>
      right
      simp [SB] at hs
      exact ⟨k, rfl, hs.1, by simp [stepN, hs.2]⟩
  · left
    simp [SB, hs] at h
    exact ⟨rfl, by simp [stepN, h]⟩
theorem target_to {l : List Insn} {i : Nat} (h : (targetM l i).2 = true) : (targetM l i).1 = (toM l i).1 := by
  unfold targetM at *
  split
  · rename_i hn; rw [if_pos hn] at h; cases h
  · rename_i hn
    rw [if_neg hn] at h
    split
    · rename_i hm; rw [if_pos hm] at h; cases h
    · simp
theorem Prog.SB_all {l : List Insn} (hp : Prog l) : SB l l.length = true := by
  cases hs : SB l l.length
  · exfalso
    obtain ⟨n, hn⟩ : ∃ n, l.length = n + 1 := ⟨l.length - 1, by have := hp.pos; omega⟩
    rw [hn] at hs
    simp [SB] at hs
    have := (hp.half (i := n) (by omega) hs.1 hs.2).1
    omega
  · rfl
theorem rwM_not {l : List Insn} {es : List Edit} (h : (checkM l).2 ≠ 0) : rwM l es = ([], false) := by unfold rwM; rw [if_pos h]
theorem rwM_yes {l : List Insn} {es : List Edit} (h : (rwM l es).2 = true) : (checkM l).2 = 0 ∧ (checkM (rwM l es).1).2 = 0 ∧ (rwM l es).1.length = plN l es l.length := by
  unfold rwM at *
  split at h
  · cases h
  · rename_i hn
    rw [if_neg hn]
    split at h
    · cases h
    · rename_i out e
      split at h
      · rename_i hc
        rw [if_pos hc]
        exact ⟨by simpa using hn, hc, rwA_len _ e⟩
      · cases h
/-! nothing left -/
end Go.Proofs.Ytncogaikiceidaa
end
section
namespace Go.Proofs.Ytncogaikiceidaa
open Go.RowKit
theorem hopX_op (x : Insn) (n : Int) : (hopX x n).op = x.op := by
  unfold hopX
  split <;> rfl
theorem goes_hop {x : Insn} (n : Int) (h : goesB x = true) : sem (hopX x n) = sem x := by
  have hy : (sem x).2 = true := by
    cases hs : (sem x).2
    · rw [goesB, sem_no hs] at h; cases h
    · rfl
  have hg : (sem x).1.kind = 9 ∨ (sem x).1.kind = 10 := by simpa [goesB] using h
  have hd := sem_regs hy
  have hd' : ¬ (10 < x.dst ∨ 10 < x.src) := by omega
  have e1 := hopX_op x n
  have e2 : (hopX x n).dst = x.dst := by unfold hopX; split <;> rfl
  have e3 : (hopX x n).src = x.src := by unfold hopX; split <;> rfl
  unfold sem whatM at *
  rw [if_neg hd'] at *
  rw [e1, e2, e3, if_neg hd']
  by_cases c1 : x.op = 24
  · rw [if_pos c1] at *
    obtain ⟨-, hw⟩ := norm_yes hy
    rw [hw] at hg
    have : (wideM x).1.kind = 3 ∨ (wideM x).1.kind = 4 ∨ (wideM x).1.kind = 0 := by
      by_cases e0 : x.src = 0 <;> by_cases e1 : x.src = 1 <;> simp [wideM, What.zero, e0, e1]
    omega
  rw [if_neg c1] at *
  rw [if_neg c1]
  by_cases c2 : x.op = 212 ∨ x.op = 220 ∨ x.op = 215
  · rw [if_pos c2] at *
    obtain ⟨-, hw⟩ := norm_yes hy
    rw [hw] at hg
    simp [swapsM] at hg
  rw [if_neg c2] at *
  rw [if_neg c2]
  by_cases c3 : x.op % 8 = 4 ∨ x.op % 8 = 7
  · rw [if_pos c3] at *
    obtain ⟨-, hw⟩ := norm_yes hy
    rw [hw, arithM_kind] at hg
    omega
  rw [if_neg c3] at *
  rw [if_neg c3]
  by_cases c4 : x.op % 8 = 5 ∨ x.op % 8 = 6
  · rw [if_pos c4] at *
    rw [if_pos c4]
    by_cases j6 : x.op = 6
    · simp [jumpsM, j6, hopX, withImm, zerosB]
    by_cases j5 : x.op = 5
    · simp [jumpsM, j5, hopX, zerosB]
    obtain ⟨-, hw⟩ := norm_yes hy
    rw [hw] at hg
    by_cases j133 : x.op = 133
    · simp [jumpsM, j133, kindW] at hg
    by_cases j149 : x.op = 149
    · simp [jumpsM, j149, kindW] at hg
    · simp [jumpsM, hopX, zerosB, regB, j5, j6, j133, j149]
  rw [if_neg c4] at *
  rw [if_neg c4]
  by_cases c5 : x.op % 8 = 0
  · rw [if_pos c5] at hy; simp [norm] at hy
  rw [if_neg c5] at *
  rw [if_neg c5]
  obtain ⟨hy2, hw⟩ := norm_yes hy
  rw [hw] at hg
  by_cases m1 : x.op % 8 = 1
  · simp [movesM, m1] at hg
  by_cases m2 : x.op % 8 = 2
  · simp [movesM, m2] at hg
  by_cases m3 : x.op % 8 = 3
  · simp only [movesM, m3] at hg
    simp at hg
    split at hg <;> simp at hg
  · simp [movesM, m1, m2, m3] at hy2
theorem goesB_hop {x : Insn} (n : Int) (h : goesB x = true) : goesB (hopX x n) = true := by
  unfold goesB at *
  rw [goes_hop n h]
  exact h
/-- What is told of places, by a yes or no for each. -/
def dropE (b : Bool) : Edit := if b then Edit.drop else Edit.none
def oneE (l : List Insn) (f : Nat → Bool) : List Edit := (List.range l.length).map fun i => dropE (f i)
theorem editM_one {l : List Insn} {f : Nat → Bool} {i : Nat} (h : i < l.length) : editM (oneE l f) i = dropE (f i) := by
  have e : edAt (oneE l f) i = dropE (f i) := by rw [edAt_get (by simpa [oneE] using h)]; simp [oneE]
  unfold editM
  rw [e, if_pos ⟨by simpa [oneE] using h, by unfold dropE; split <;> simp [Edit.drop, Edit.none]⟩]
theorem becL_one {l : List Insn} {f : Nat → Bool} {i : Nat} (h : i < l.length) : becL l (oneE l f) i = if f i = true then [] else if (at' l i).op = 24 then [at' l i, at' l (i + 1)] else [at' l i] := by
  unfold becL
  rw [editM_one h]
  cases f i <;> simp [dropE, Edit.drop, Edit.none]
theorem becT_one {l : List Insn} {f : Nat → Bool} {i : Nat} (h : i < l.length) (hf : f i = false) : becT l (oneE l f) i = (targetM l i).1 := by
  unfold becT
  rw [editM_one h, hf]
  simp [dropE, Edit.none]
theorem rwA_more {l : List Insn} {es : List Edit} {i : Nat} : ∀ (k : Nat) {out : List Insn}, rwA l es (i + k) = some out → ∃ acc r, rwA l es i = some acc ∧ out = acc ++ r
  | 0, out, h => ⟨out, [], h, by simp⟩
  | k + 1, out, h => by
    rw [← Nat.add_assoc, rwA] at h
    split at h
    · cases ha : rwA l es (i + k) with
      | none => rw [ha] at h; cases h
      | some a =>
        rw [ha] at h
        obtain ⟨acc, r, h1, h2⟩ := rwA_more k ha
        have h : putX l es (i + k) a = some out := h
        unfold putX at h
        split at h
        · injection h with h; exact ⟨acc, r, h1, by rw [← h, h2]⟩
        · split at h
          · split at h
            · injection h with h; exact ⟨acc, r ++ _, h1, by rw [← h, h2, List.append_assoc]⟩
            · cases h
          · injection h with h; exact ⟨acc, r ++ _, h1, by rw [← h, h2, List.append_assoc]⟩
    · exact rwA_more k h
theorem at_append {a b : List Insn} {k : Nat} : at' (a ++ b) (a.length + k) = at' b k := by
  simp [at', List.getD_eq_getElem?_getD, List.getElem?_append_right]
/-- Behind the first rewrite. -/
structure Cut (l y : List Insn) (f : Nat → Bool) : Prop where
  prog : Prog l
  made : Prog y
  len : y.length = plN l (oneE l f) l.length
  one : ∀ i, i < l.length → SB l i = true → f i = false → goesB (at' l i) = false → at' y (plN l (oneE l f) i) = at' l i
  jump : ∀ i, i < l.length → SB l i = true → f i = false → goesB (at' l i) = true → ∃ t, t ≤ l.length ∧ SB l t = true ∧ (targetM l i).1 = (t : Int) ∧ at' y (plN l (oneE l f) i) = hopX (at' l i) ((plN l (oneE l f) t : Int) - plN l (oneE l f) i - 1)
  half : ∀ i, i < l.length → SB l i = true → f i = false → (at' l i).op = 24 → at' y (plN l (oneE l f) i + 1) = at' l (i + 1)
theorem cut_made {l y : List Insn} {f : Nat → Bool} (h : rwM l (oneE l f) = (y, true)) : Cut l y f := by
  have hyes := rwM_yes (l := l) (es := oneE l f) (by rw [h])
  rw [h] at hyes
  obtain ⟨h1, h2, h3⟩ := hyes
  have hp := check_prog h1
  have hA : rwA l (oneE l f) l.length = some y := by
    unfold rwM at h
    rw [if_neg (by simp [h1])] at h
    split at h
    · cases h
    · rename_i out e
      split at h
      · injection h with h; rw [e, h]
      · cases h
  have hat : ∀ i, i < l.length → SB l i = true → f i = false → ∃ acc x r q, becL l (oneE l f) i = x :: r ∧ acc.length = plN l (oneE l f) i ∧ y = acc ++ ((if goesB x = true then hopX x ((plN l (oneE l f) (becT l (oneE l f) i).toNat : Int) - acc.length - 1) else x) :: r) ++ q ∧ (goesB x = true → 0 ≤ becT l (oneE l f) i ∧ becT l (oneE l f) i ≤ l.length) := by
    intro i hi hs hf
    obtain ⟨out, q, ho, hq⟩ := rwA_more (l := l) (es := oneE l f) (i := i + 1) (l.length - (i + 1)) (by rw [show i + 1 + (l.length - (i + 1)) = l.length by omega]; exact hA)
    rw [rwA, if_pos hs] at ho
    cases ha : rwA l (oneE l f) i with
    | none => rw [ha] at ho; cases ho
    | some acc =>
      rw [ha] at ho
      have ho : putX l (oneE l f) i acc = some out := ho
      have hx : ∃ x r, becL l (oneE l f) i = x :: r := by
        rw [becL_one hi, hf]
        by_cases hw : (at' l i).op = 24
        · exact ⟨_, _, by rw [if_neg (by simp), if_pos hw]⟩
        · exact ⟨_, _, by rw [if_neg (by simp), if_neg hw]⟩
      obtain ⟨x, r, hx⟩ := hx
      refine ⟨acc, x, r, q, hx, rwA_len _ ha, ?_, ?_⟩
      · unfold putX at ho
        rw [hx] at ho
        simp only at ho
        by_cases hg : goesB x = true
        · rw [if_pos hg] at ho ⊢
          split at ho
          · injection ho with ho; rw [hq, ← ho]
          · cases ho
        · rw [if_neg hg] at ho ⊢
          injection ho with ho; rw [hq, ← ho]
      · intro hg
        unfold putX at ho
        rw [hx] at ho
        simp only at ho
        rw [if_pos hg] at ho
        split at ho
        · assumption
        · cases ho
  have hx0 : ∀ i x r, i < l.length → f i = false → becL l (oneE l f) i = x :: r → x = at' l i ∧ ((at' l i).op = 24 → r = [at' l (i + 1)]) := by
    intro i x r hi hf hx
    rw [becL_one hi, hf] at hx
    by_cases hw : (at' l i).op = 24
    · rw [if_neg (by simp), if_pos hw] at hx
      injection hx with hx1 hx2
      exact ⟨hx1.symm, fun _ => hx2.symm⟩
    · rw [if_neg (by simp), if_neg hw] at hx
      injection hx with hx1 hx2
      exact ⟨hx1.symm, fun h => absurd h hw⟩
  refine ⟨hp, check_prog h2, h3, ?_, ?_, ?_⟩
  · intro i hi hs hf hg
    obtain ⟨acc, x, r, q, hx, hl, hy, -⟩ := hat i hi hs hf
    obtain ⟨rfl, -⟩ := hx0 i x r hi hf hx
    rw [if_neg (by rw [hg]; simp)] at hy
    rw [hy, ← hl, List.append_assoc]
    exact (at_append (k := 0)).trans rfl
  · intro i hi hs hf hg
    obtain ⟨acc, x, r, q, hx, hl, hy, hb⟩ := hat i hi hs hf
    obtain ⟨rfl, -⟩ := hx0 i x r hi hf hx
    obtain ⟨t, ht, hst, htg, htn⟩ := hp.goes_at hi hs (by simpa [goesB, kindM] using hg)
    have hT := becT_one hi hf
    rw [htg] at hT
    simp only at hT
    rw [if_pos hg, hT, Int.toNat_natCast, hl] at hy
    refine ⟨t, by omega, hst, by rw [htg], ?_⟩
    rw [hy, ← hl, List.append_assoc]
    exact (at_append (k := 0)).trans rfl
  · intro i hi hs hf hw
    obtain ⟨acc, x, r, q, hx, hl, hy, -⟩ := hat i hi hs hf
    obtain ⟨rfl, hr⟩ := hx0 i x r hi hf hx
    rw [hy, ← hl, List.append_assoc, at_append, hr hw]
    rfl
section
variable {l y : List Insn} {f : Nat → Bool}
theorem Cut.op (h : Cut l y f) {i : Nat} (hi : i < l.length) (hs : SB l i = true) (hf : f i = false) : (at' y (plN l (oneE l f) i)).op = (at' l i).op := by
  cases hg : goesB (at' l i)
  · rw [h.one i hi hs hf hg]
  · obtain ⟨t, -, -, -, e⟩ := h.jump i hi hs hf hg
    rw [e, hopX_op]
theorem Cut.step (h : Cut l y f) {i : Nat} (hi : i < l.length) (hs : SB l i = true) (hf : f i = false) : plN l (oneE l f) (stepN l i) = stepN y (plN l (oneE l f) i) := by
  rw [plN_step hs, becL_one hi, hf]
  unfold stepN
  rw [h.op hi hs hf]
  by_cases hw : (at' l i).op = 24 <;> simp [hw]
theorem Cut.gone {i : Nat} (hs : SB l i = true) (hi : i < l.length) (hf : f i = true) : plN l (oneE l f) (stepN l i) = plN l (oneE l f) i := by
  rw [plN_step hs, becL_one hi, hf]
  simp
theorem starts_ind {l : List Insn} {P : Nat → Prop} (h0 : P 0) (hstep : ∀ i, i < l.length → SB l i = true → P i → P (stepN l i)) : ∀ i, i ≤ l.length → SB l i = true → P i := by
  intro i
  induction i using Nat.strongRecOn with
  | ind i ih =>
    intro hle hs
    match i, hs, hle with
    | 0, _, _ => exact h0
    | i + 1, hs, hle =>
      rcases SB_prev hs with ⟨h1, h2⟩ | ⟨k, rfl, h1, h2⟩
      · have := hstep i (by omega) h1 (ih i (by omega) (by omega) h1)
        rwa [h2] at this
      · have := hstep k (by omega) h1 (ih k (by omega) (by omega) h1)
        rwa [h2] at this
theorem Cut.starts (h : Cut l y f) : ∀ i, i ≤ l.length → SB l i = true → SB y (plN l (oneE l f) i) = true := by
  apply starts_ind
  · rfl
  · intro i hi hs ih
    cases hf : f i
    · rw [h.step hi hs hf]; exact SB_step ih
    · rw [Cut.gone hs hi hf]; exact ih
theorem plN_lt {l : List Insn} {es : List Edit} (i : Nat) : ∀ k, plN l es i ≤ plN l es (i + k)
  | 0 => Nat.le_refl _
  | k + 1 => by
    have := plN_lt (l := l) (es := es) i k
    rw [← Nat.add_assoc, plN]
    omega
theorem Cut.lt (h : Cut l y f) {i : Nat} (hi : i < l.length) (hs : SB l i = true) (hf : f i = false) : plN l (oneE l f) i < y.length := by
  have h1 := plN_lt (l := l) (es := oneE l f) (i + 1) (l.length - (i + 1))
  rw [show i + 1 + (l.length - (i + 1)) = l.length by omega, ← h.len] at h1
  have h2 : 1 ≤ (becL l (oneE l f) i).length := by
    rw [becL_one hi, hf]
    by_cases hw : (at' l i).op = 24 <;> simp [hw]
  rw [plN, if_pos hs] at h1
  omega
theorem Cut.goes (h : Cut l y f) {i : Nat} (hi : i < l.length) (hs : SB l i = true) (hf : f i = false) : goesB (at' y (plN l (oneE l f) i)) = goesB (at' l i) := by
  cases hg : goesB (at' l i)
  · rw [h.one i hi hs hf hg, hg]
  · obtain ⟨t, -, -, -, e⟩ := h.jump i hi hs hf hg
    rw [e, goesB_hop _ hg]
theorem Cut.target (h : Cut l y f) {i : Nat} (hi : i < l.length) (hs : SB l i = true) (hf : f i = false) (hg : goesB (at' l i) = true) : ∃ t, t ≤ l.length ∧ SB l t = true ∧ (targetM l i).1 = (t : Int) ∧ (targetM y (plN l (oneE l f) i)).1 = (plN l (oneE l f) t : Int) ∧ plN l (oneE l f) t ≤ y.length := by
  obtain ⟨t, h1, h2, h3, e⟩ := h.jump i hi hs hf hg
  have hlt := h.lt hi hs hf
  have hgy := h.goes hi hs hf
  rw [hg] at hgy
  have hky : kindM y (plN l (oneE l f) i) = 9 ∨ kindM y (plN l (oneE l f) i) = 10 := by simpa [goesB, kindM] using hgy
  obtain ⟨u, hu, hsu, htg, -⟩ := h.made.goes_at hlt (h.starts i (by omega) hs) hky
  have hto := target_to (l := y) (i := plN l (oneE l f) i) (by rw [htg])
  have hval : (toM y (plN l (oneE l f) i)).1 = (plN l (oneE l f) t : Int) := by
    unfold toM
    rw [if_neg (by unfold kindM at hky; omega), e, hopX_op]
    by_cases h6 : (at' l i).op = 6
    · rw [if_pos h6, hopX, if_pos h6]; simp [withImm]; omega
    · rw [if_neg h6, hopX, if_neg h6]; simp; omega
  refine ⟨t, h1, h2, h3, hto.trans hval, ?_⟩
  rw [hval, htg] at hto
  simp only at hto
  omega
end
end Go.Proofs.Ytncogaikiceidaa
end
