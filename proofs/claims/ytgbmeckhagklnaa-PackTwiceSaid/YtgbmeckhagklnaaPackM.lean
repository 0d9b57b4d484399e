/- A program with each instruction become what is told, in plain terms. No statement is proved here. -/
import Derived.Test.YtgbmeckhagklnaaHopE
namespace Go.Proofs.Ytgbmeckhagklnaa
open Go.RowKit
/-- What becomes of a place. -/
def editM (es : List Edit) (i : Nat) : Edit := if i < es.length ∧ (edAt es i).kind ≤ 2 then edAt es i else Edit.none
def becL (l : List Insn) (es : List Edit) (i : Nat) : List Insn :=
  if (editM es i).kind = 1 then [] else if (editM es i).kind = 2 then [(editM es i).x] else if (at' l i).op = 24 then [at' l i, at' l (i + 1)] else [at' l i]
def becT (l : List Insn) (es : List Edit) (i : Nat) : Int := if (editM es i).kind = 1 then 0 else if (editM es i).kind = 2 then (editM es i).to else (targetM l i).1
def plN (l : List Insn) (es : List Edit) : Nat → Nat
  | 0 => 0
  | i + 1 => plN l es i + (if SB l i = true then (becL l es i).length else 0)
def placeI (l : List Insn) (es : List Edit) (i : Int) : Int := if (checkM l).2 ≠ 0 ∨ i < 0 ∨ (l.length : Int) < i then -1 else plN l es i.toNat
def hopX (x : Insn) (n : Int) : Insn := if x.op = 6 then withImm x n else ⟨x.op, x.dst, x.src, n, x.imm⟩
def goesB (x : Insn) : Bool := (sem x).1.kind == 9 || (sem x).1.kind == 10
def putX (l : List Insn) (es : List Edit) (i : Nat) (acc : List Insn) : Option (List Insn) :=
  match becL l es i with
  | [] => some acc
  | x :: r => if goesB x = true then (if 0 ≤ becT l es i ∧ becT l es i ≤ l.length then some (acc ++ hopX x ((plN l es (becT l es i).toNat : Int) - acc.length - 1) :: r) else none) else some (acc ++ x :: r)
def rwA (l : List Insn) (es : List Edit) : Nat → Option (List Insn)
  | 0 => some []
  | i + 1 => if SB l i = true then (rwA l es i).bind (putX l es i) else rwA l es i
def rwM (l : List Insn) (es : List Edit) : List Insn × Bool :=
  if (checkM l).2 ≠ 0 then ([], false) else
  match rwA l es l.length with
  | none => ([], false)
  | some out => if (checkM out).2 = 0 then (out, true) else ([], false)
theorem becL_le (l : List Insn) (es : List Edit) (i : Nat) : (becL l es i).length ≤ 2 := by
  unfold becL
  split
  · simp
  split
  · simp
  split <;> simp
theorem plN_le (l : List Insn) (es : List Edit) : ∀ i, plN l es i ≤ 2 * i
  | 0 => by simp [plN]
  | i + 1 => by
    have := plN_le l es i
    have := becL_le l es i
    unfold plN
    split <;> omega
theorem plN_step {l : List Insn} {es : List Edit} {i : Nat} (h : SB l i = true) : plN l es (stepN l i) = plN l es i + (becL l es i).length := by
  unfold stepN
  split
  · rename_i hw
    rw [plN, plN, (SB_wide h hw).1, if_pos h]
    simp
  · rw [plN, if_pos h]
theorem rwA_step {l : List Insn} {es : List Edit} {i : Nat} (h : SB l i = true) : rwA l es (stepN l i) = (rwA l es i).bind (putX l es i) := by
  unfold stepN
  split
  · rename_i hw
    rw [rwA, rwA, (SB_wide h hw).1, if_pos h]
    simp
  · rw [rwA, if_pos h]
theorem rwA_none {l : List Insn} {es : List Edit} {i : Nat} (h : rwA l es i = none) : ∀ k, rwA l es (i + k) = none
  | 0 => h
  | k + 1 => by
    rw [← Nat.add_assoc, rwA, rwA_none h k]
    split <;> rfl
theorem putX_len {l : List Insn} {es : List Edit} {i : Nat} {acc out : List Insn} (h : putX l es i acc = some out) : out.length = acc.length + (becL l es i).length := by
  unfold putX at h
  split at h
  · rename_i e
    rw [e]; injection h with h; rw [h]; rfl
  · rename_i x r e
    rw [e]
    split at h
    · split at h
      · injection h with h; rw [← h]; simp
      · cases h
    · injection h with h; rw [← h]; simp
theorem rwA_len {l : List Insn} {es : List Edit} : ∀ (i : Nat) {acc : List Insn}, rwA l es i = some acc → acc.length = plN l es i
  | 0, acc, h => by rw [rwA] at h; injection h with h; rw [← h]; rfl
  | i + 1, acc, h => by
    rw [rwA] at h
    rw [plN]
    split at h
    · rename_i hs
      rw [if_pos hs]
      cases ha : rwA l es i with
      | none => rw [ha] at h; cases h
      | some a =>
        rw [ha] at h
        rw [putX_len h, rwA_len i ha]
    · rename_i hs
      rw [if_neg hs]
      exact rwA_len i h
/-! all kept -/
theorem editM_nil (i : Nat) : editM [] i = Edit.none := by simp [editM]
theorem becL_keep (l : List Insn) (i : Nat) : becL l [] i = if (at' l i).op = 24 then [at' l i, at' l (i + 1)] else [at' l i] := by
  simp [becL, editM_nil, Edit.none]
theorem becT_keep (l : List Insn) (i : Nat) : becT l [] i = (targetM l i).1 := by
  simp [becT, editM_nil, Edit.none]
theorem becL_keep_len (l : List Insn) (i : Nat) : (becL l [] i).length = stepN l i - i := by
  rw [becL_keep, stepN]
  split <;> simp <;> omega
/-- Each beginning but the first one has one ahead of it. -/
theorem SB_prev {l : List Insn} {i : Nat} (h : SB l (i + 1) = true) : (SB l i = true ∧ stepN l i = i + 1) ∨ ∃ k, i = k + 1 ∧ SB l k = true ∧ stepN l k = i + 1 := by
  cases hs : SB l i
  · match i, h, hs with
    | k + 1, h, hs =>
      right
      simp [SB] at hs
      exact ⟨k, rfl, hs.1, by simp [stepN, hs.2]⟩
  · left
    simp [SB, hs] at h
    exact ⟨rfl, by simp [stepN, h]⟩
theorem plN_keep {l : List Insn} : ∀ (i : Nat), SB l i = true → plN l [] i = i := by
  intro i
  induction i using Nat.strongRecOn with
  | ind i ih =>
    intro hs
    match i, hs with
    | 0, _ => rfl
    | i + 1, hs =>
      rcases SB_prev hs with ⟨h1, h2⟩ | ⟨k, rfl, h1, h2⟩
      · have := plN_step (es := []) h1
        rw [h2, becL_keep_len, ih i (by omega) h1] at this
        omega
      · have := plN_step (es := []) h1
        rw [h2, becL_keep_len, ih k (by omega) h1] at this
        omega
theorem target_to {l : List Insn} {i : Nat} (h : (targetM l i).2 = true) : (targetM l i).1 = (toM l i).1 := by
  unfold targetM at *
  split
  · rename_i hn; rw [if_pos hn] at h; cases h
  · rename_i hn
    rw [if_neg hn] at h
    split
    · rename_i hm; rw [if_pos hm] at h; cases h
    · simp
theorem rwA_keep {l : List Insn} (hp : Prog l) : ∀ (i : Nat), i ≤ l.length → SB l i = true → rwA l [] i = some (l.take i) := by
  intro i
  have key : ∀ k, k < l.length → SB l k = true → rwA l [] k = some (l.take k) → rwA l [] (stepN l k) = some (l.take (stepN l k)) := by
    intro k hk hs he
    rw [rwA_step hs, he]
    have htk : l.take (stepN l k) = l.take k ++ becL l [] k := by
      rw [becL_keep, stepN]
      by_cases hw : (at' l k).op = 24
      · have h1 := (hp.half hk hs hw).1
        rw [if_pos hw, if_pos hw, take_step h1, take_step hk, List.append_assoc]
        rfl
      · rw [if_neg hw, if_neg hw, take_step hk]
    rw [htk]
    have hlen : (l.take k).length = k := by rw [List.length_take]; omega
    show putX l [] k (l.take k) = _
    by_cases hg : goesB (at' l k) = true
    · have hkk : kindM l k = 9 ∨ kindM l k = 10 := by simpa [goesB, kindM] using hg
      obtain ⟨t, ht, hst, htg, htn⟩ := hp.goes_at hk hs hkk
      have hto := target_to (l := l) (i := k) (by rw [htg])
      have hj : hopX (at' l k) ((t : Int) - k - 1) = at' l k := by
        rw [htg] at hto
        simp only at hto
        unfold hopX
        unfold toM at hto
        rw [if_neg (by unfold kindM at hkk; omega)] at hto
        by_cases h6 : (at' l k).op = 6
        · rw [if_pos h6] at hto ⊢
          simp only at hto
          rw [show (t : Int) - k - 1 = (at' l k).imm by omega]
          rfl
        · rw [if_neg h6] at hto ⊢
          simp only at hto
          rw [show (t : Int) - k - 1 = (at' l k).off by omega]
      have hT : becT l [] k = t := by rw [becT_keep, htg]
      unfold putX
      rw [becL_keep]
      have hcons : ∃ r, (if (at' l k).op = 24 then [at' l k, at' l (k + 1)] else [at' l k]) = at' l k :: r := by split <;> exact ⟨_, rfl⟩
      obtain ⟨r, hr⟩ := hcons
      rw [hr]
      simp only
      rw [if_pos hg, hT, if_pos ⟨by omega, by omega⟩, Int.toNat_natCast, plN_keep t hst, hlen, hj]
    · unfold putX
      rw [becL_keep]
      have hcons : ∃ r, (if (at' l k).op = 24 then [at' l k, at' l (k + 1)] else [at' l k]) = at' l k :: r := by split <;> exact ⟨_, rfl⟩
      obtain ⟨r, hr⟩ := hcons
      rw [hr]
      simp only
      rw [if_neg hg]
  induction i using Nat.strongRecOn with
  | ind i ih =>
    intro hle hs
    match i, hs, hle with
    | 0, _, _ => rfl
    | i + 1, hs, hle =>
      rcases SB_prev hs with ⟨h1, h2⟩ | ⟨k, rfl, h1, h2⟩
      · have := key i (by omega) h1 (ih i (by omega) (by omega) h1)
        rwa [h2] at this
      · have := key k (by omega) h1 (ih k (by omega) (by omega) h1)
        rwa [h2] at this
theorem Prog.SB_all {l : List Insn} (hp : Prog l) : SB l l.length = true := by
  cases hs : SB l l.length
  · exfalso
    obtain ⟨n, hn⟩ : ∃ n, l.length = n + 1 := ⟨l.length - 1, by have := hp.pos; omega⟩
    rw [hn] at hs
    simp [SB] at hs
    have := (hp.half (i := n) (by omega) hs.1 hs.2).1
    omega
  · rfl
theorem rwM_keep {l : List Insn} (h : (checkM l).2 = 0) : rwM l [] = (l, true) := by
  have hp := check_prog h
  unfold rwM
  rw [if_neg (by simp [h]), rwA_keep hp l.length (Nat.le_refl _) hp.SB_all]
  simp [h]
theorem rwM_not {l : List Insn} {es : List Edit} (h : (checkM l).2 ≠ 0) : rwM l es = ([], false) := by unfold rwM; rw [if_pos h]
theorem rwM_no {l : List Insn} {es : List Edit} (h : (rwM l es).2 = false) : (rwM l es).1 = [] := by
  unfold rwM at *
  split
  · rfl
  · rename_i hn
    rw [if_neg hn] at h
    split
    · rfl
    · rename_i out e
      rw [e] at h
      simp only at h ⊢
      split
      · rename_i hc; rw [if_pos hc] at h; cases h
      · rfl
theorem rwM_yes {l : List Insn} {es : List Edit} (h : (rwM l es).2 = true) : (checkM l).2 = 0 ∧ (checkM (rwM l es).1).2 = 0 ∧ (rwM l es).1.length = plN l es l.length := by
  unfold rwM at *
  split at h
  · cases h
  · rename_i hn
    rw [if_neg hn]
    split at h
    · cases h
    · rename_i out e
      split at h
      · rename_i hc
        rw [if_pos hc]
        exact ⟨by simpa using hn, hc, rwA_len _ e⟩
      · cases h
/-! nothing left -/
def dropsE (n : Nat) : List Edit := List.replicate n Edit.drop
theorem editM_drops {n i : Nat} (h : i < n) : editM (dropsE n) i = Edit.drop := by
  have e : edAt (dropsE n) i = Edit.drop := by rw [edAt_get (by simpa [dropsE] using h)]; simp [dropsE]
  unfold editM
  rw [e, if_pos ⟨by simpa [dropsE] using h, by simp [Edit.drop]⟩]
theorem rwA_drops (l : List Insn) : ∀ i, i ≤ l.length → rwA l (dropsE l.length) i = some []
  | 0, _ => rfl
  | i + 1, h => by
    rw [rwA, rwA_drops l i (by omega)]
    split
    · have e : becL l (dropsE l.length) i = [] := by rw [becL, editM_drops (by omega)]; rfl
      show putX l (dropsE l.length) i [] = _
      unfold putX
      rw [e]
    · rfl
theorem rwM_drops (l : List Insn) : rwM l (dropsE l.length) = ([], false) := by
  unfold rwM
  split
  · rfl
  · rw [rwA_drops l _ (Nat.le_refl _)]
    rfl
end Go.Proofs.Ytgbmeckhagklnaa
