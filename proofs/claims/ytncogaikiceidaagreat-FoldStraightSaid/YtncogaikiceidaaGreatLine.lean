/- Programs of plain arithmetic, as data. No statement is proved here. -/
import Derived.Test.YtncogaikiceidaaGreatNum
import Derived.Test.YtncogaikiceidaaGreatHopE
import Derived.Test.YtncogaikiceidaaGreatShow1
namespace Go.Proofs.YtncogaikiceidaaGreat
open Go.RowKit
set_option linter.unusedSimpArgs false
set_option linter.unusedVariables false
set_option linter.unnecessarySimpa false
section
/-- The arithmetic that is played: by a number, of 64 and of 32 bits. -/
def lineOps : List Int := [7, 23, 39, 55, 71, 87, 103, 119, 151, 167, 199, 4, 20, 36, 52, 68, 84, 100, 116, 148, 164, 180, 196]
/-- Arithmetic by a number, on one of the first ten registers. -/
structure Lin (x : Insn) : Prop where
  op : x.op ∈ 183 :: lineOps
  dst0 : 0 ≤ x.dst
  dst9 : x.dst ≤ 9
  src : x.src = 0
  off : x.off = 0
  imm0 : -2147483648 ≤ x.imm
  imm1 : x.imm ≤ 2147483647
abbrev opG (x : Insn) : Int := x.op / 16 * 16
abbrev opW (x : Insn) : Bool := x.op % 8 == 7
theorem Lin.ok {x : Insn} (h : Lin x) : x.Ok := by
  obtain ⟨a, b, c, d, e, f, g⟩ := h
  refine ⟨?_, ?_, by omega, by omega, by omega, by omega, by omega, by omega, by omega, by omega⟩
  all_goals
    simp only [lineOps, List.mem_cons, List.not_mem_nil, or_false] at a
    omega
theorem Lin.sem_eq {x : Insn} (h : Lin x) : sem x = (⟨1, opG x, opW x, false, false, 0⟩, true) := by
  obtain ⟨a, b, c, d, e, f, g⟩ := h
  obtain ⟨o, ds, sr, of_, im⟩ := x
  simp only at a b c d e f g
  subst d e
  have h1 : ¬ 10 < ds := by omega
  have h2 : (ds == 10) = false := by simp; omega
  simp only [lineOps, List.mem_cons, List.not_mem_nil, or_false] at a
  rcases a with rfl | rfl | rfl | rfl | rfl | rfl | rfl | rfl | rfl | rfl | rfl | rfl | rfl | rfl | rfl | rfl | rfl | rfl | rfl | rfl | rfl | rfl | rfl | rfl
  all_goals simp [sem, norm, whatM, arithM, opG, opW, regB, zerosB, h1, h2]; try omega

end
section
theorem Lin.kind {l : List Insn} {j : Nat} (h : Lin (at' l j)) : kindM l j = 1 := by show (sem (at' l j)).1.kind = 1; rw [h.sem_eq]
theorem Lin.opOk {x : Insn} (h : Lin x) : OpOk (opG x) := by
  have a := h.op
  simp only [lineOps, List.mem_cons, List.not_mem_nil, or_false] at a
  unfold OpOk opG
  omega
theorem Lin.notLong {x : Insn} (h : Lin x) : ¬ x.op = 24 := by
  have a := h.op
  simp only [lineOps, List.mem_cons, List.not_mem_nil, or_false] at a
  omega
/-- A program of such arithmetic, and an Exit. -/
structure Line (p q : List Insn) : Prop where
  eq : p = q ++ [⟨149, 0, 0, 0, 0⟩]
  lin : ∀ x ∈ q, Lin x
  few : q.length ≤ 50
section
variable {p q : List Insn}
theorem Line.len (h : Line p q) : p.length = q.length + 1 := by rw [h.eq]; simp
theorem Line.at_lt (h : Line p q) {j : Nat} (hj : j < q.length) : at' p j = at' q j := by
  rw [at_get (by rw [h.len]; omega), at_get hj]
  simp only [h.eq]
  rw [List.getElem_append_left hj]
theorem Line.at_end (h : Line p q) : at' p q.length = ⟨149, 0, 0, 0, 0⟩ := by
  rw [at_get (by rw [h.len]; omega)]
  simp [h.eq]
theorem Line.linq (h : Line p q) {j : Nat} (hj : j < q.length) : Lin (at' q j) := by
  rw [at_get hj]; exact h.lin _ (List.getElem_mem hj)
theorem Line.lin_at (h : Line p q) {j : Nat} (hj : j < q.length) : Lin (at' p j) := by rw [h.at_lt hj]; exact h.linq hj
theorem exit_sem : sem ⟨149, 0, 0, 0, 0⟩ = (⟨12, 0, false, false, false, 0⟩, true) := by decide +kernel
theorem Line.op (h : Line p q) (j : Nat) : ¬ (at' p j).op = 24 := by
  rcases Nat.lt_trichotomy j q.length with hj | hj | hj
  · exact (h.lin_at hj).notLong
  · rw [hj, h.at_end]; decide
  · rw [at', List.getD_eq_getElem?_getD, List.getElem?_eq_none (by rw [h.len]; omega)]; decide
theorem Line.starts (h : Line p q) : ∀ j, SB p j = true
  | 0 => rfl
  | j + 1 => by
    rw [SB, h.starts j]
    have := h.op j
    simp [this]
theorem Line.step (h : Line p q) (j : Nat) : stepN p j = j + 1 := by unfold stepN; rw [if_neg (h.op j)]
theorem Line.to (h : Line p q) {j : Nat} (hj : j < p.length) : toM p j = (0, false) := by
  unfold toM
  rw [if_pos]
  rcases Nat.lt_or_ge j q.length with h1 | h1
  · rw [(h.lin_at h1).sem_eq]; simp
  · have e : j = q.length := by rw [h.len] at hj; omega
    rw [e, h.at_end, exit_sem]; simp
theorem Line.target (h : Line p q) {j : Nat} (hj : j < p.length) : targetM p j = (0, false) := by
  unfold targetM
  rw [if_neg (by omega), Int.toNat_natCast, h.to hj, if_pos (.inl rfl)]
theorem Line.prog (h : Line p q) : Prog p := by
  refine ⟨by rw [h.len]; omega, by rw [h.len]; have := h.few; omega, fun i hi _ => ?_, fun i hi => ?_, ?_⟩
  · unfold wholeB
    have := h.op i
    have hs : (sem (at' p i)).2 = true := by
      rcases Nat.lt_or_ge i q.length with h1 | h1
      · rw [(h.lin_at h1).sem_eq]
      · have e : i = q.length := by rw [h.len] at hi; omega
        rw [e, h.at_end, exit_sem]
    simp [hs, this]
  · unfold badJ; rw [h.to hi]; simp
  · unfold endB lastN
    rw [h.starts, if_pos rfl, h.len, Nat.add_sub_cancel, h.at_end, exit_sem]; rfl
theorem Line.check (h : Line p q) : checkM p = (0, 0) := prog_check h.prog
theorem Line.ok (h : Line p q) : ∀ x ∈ p, x.Ok := by
  intro x hx
  rw [h.eq] at hx
  rcases List.mem_append.1 hx with h1 | h1
  · exact (h.lin x h1).ok
  · rw [List.mem_singleton.1 h1]; constructor <;> decide
end
/-- The number of an instruction, as one of 64 bits. -/
def immU (i : Int) : Int := sign32 (i % 4294967296)
theorem immU_u64 (i : Int) : U64 (immU i) := by
  unfold immU sign32
  split <;> exact ⟨by omega, by omega⟩
/-- What is known of a register, in a program of such arithmetic. -/
inductive RV where
  | no
  | ctx
  | stk
  | num (n : Int)
def RV.of : RV → Int
  | .num n => n
  | _ => 0
def RV.isNum : RV → Prop
  | .num n => U64 n
  | _ => False
theorem RV.num_of {v : RV} (h : v.isNum) : v = .num v.of ∧ U64 v.of := by
  cases v with
  | num n => exact ⟨rfl, h⟩
  | _ => exact h.elim
def line0 : List RV := [.no, .ctx, .no, .no, .no, .no, .no, .no, .no, .no, .stk]
/-- What a result is. -/
def resR (rs : List RV) (x : Insn) : Int := doM (opG x) (opW x) (rs.getD x.dst.toNat .no).of (immU x.imm)
def stepR (rs : List RV) (x : Insn) : List RV := rs.set x.dst.toNat (.num (resR rs x))
def stR (q : List Insn) : Nat → List RV
  | 0 => line0
  | j + 1 => stepR (stR q j) (at' q j)
/-- Each instruction is a Mov, or of a register that holds a number. -/
def Ready (q : List Insn) : Prop := ∀ j, j < q.length → opG (at' q j) = 176 ∨ ((stR q j).getD (at' q j).dst.toNat .no).isNum
/-- What a state of such a program is like. -/
structure StOk (rs : List RV) : Prop where
  len : rs.length = 11
  stk : rs.getD 10 .no = .stk
  num : ∀ i n, rs.getD i .no = .num n → U64 n
theorem line0_ok : StOk line0 := by
  refine ⟨rfl, rfl, fun i n h => ?_⟩
  exfalso
  have hi : i < 11 ∨ 11 ≤ i := by omega
  rcases hi with hi | hi
  · have hc : i = 0 ∨ i = 1 ∨ i = 2 ∨ i = 3 ∨ i = 4 ∨ i = 5 ∨ i = 6 ∨ i = 7 ∨ i = 8 ∨ i = 9 ∨ i = 10 := by omega
    rcases hc with rfl | rfl | rfl | rfl | rfl | rfl | rfl | rfl | rfl | rfl | rfl <;> cases h
  · rw [List.getD_eq_getElem?_getD, List.getElem?_eq_none (by simpa [line0] using hi)] at h; cases h
theorem StOk.of {rs : List RV} (h : StOk rs) (i : Nat) : U64 (rs.getD i .no).of := by
  cases hv : rs.getD i .no with
  | num n => exact h.num i n hv
  | _ => exact ⟨by decide, by decide⟩
theorem getD_set {rs : List RV} {d i : Nat} {v : RV} (hd : d < rs.length) : (rs.set d v).getD i .no = if d = i then v else rs.getD i .no := by
  rw [List.getD_eq_getElem?_getD, List.getElem?_set]
  split
  · rename_i e; subst e; simp [hd]
  · rw [List.getD_eq_getElem?_getD]
theorem res_u64 {rs : List RV} (h : StOk rs) {x : Insn} (hx : Lin x) : U64 (resR rs x) := u64_do hx.opOk (h.of _) (immU_u64 _)
theorem StOk.next {rs : List RV} (h : StOk rs) {x : Insn} (hx : Lin x) : StOk (stepR rs x) := by
  have hd : x.dst.toNat < rs.length := by rw [h.len]; have := hx.dst9; omega
  refine ⟨by unfold stepR; rw [List.length_set]; exact h.len, ?_, fun i n e => ?_⟩
  · unfold stepR; rw [getD_set hd, if_neg (by have := hx.dst9; omega)]; exact h.stk
  · unfold stepR at e
    rw [getD_set hd] at e
    split at e
    · simp only [RV.num.injEq] at e; rw [← e]; exact res_u64 h hx
    · exact h.num i n e
theorem stR_ok {q : List Insn} (h : ∀ x ∈ q, Lin x) : ∀ j, j ≤ q.length → StOk (stR q j)
  | 0, _ => line0_ok
  | j + 1, hj => (stR_ok h j (by omega)).next (by rw [at_get (by omega)]; exact h _ (List.getElem_mem _))

end
section
/-! ### The cells of a state of such a program -/
def RV.cells : RV → List Value
  | .no => Z7L
  | .ctx => CtxL
  | .stk => StkL
  | .num n => NumL n
theorem RV.cells_len (v : RV) : v.cells.length = 7 := by cases v <;> rfl
theorem RV.cells_one (v : RV) : ∀ u ∈ v.cells, u.oneCell' = true := by
  cases v
  all_goals
    intro u hu
    simp only [RV.cells, Z7L, CtxL, StkL, NumL, List.mem_cons, List.not_mem_nil, or_false] at hu
    rcases hu with rfl | rfl | rfl | rfl | rfl | rfl | rfl <;> rfl
def slotsL : List Value := (List.replicate 64 Z8L).flatten
theorem slotsL_len : slotsL.length = 512 := by decide +kernel
theorem slotsL_one : slotsL.all (·.oneCell') = true := by decide +kernel
def regsV (rs : List RV) : List Value := (rs.map RV.cells).flatten
def stV (rs : List RV) : List Value := regsV rs ++ slotsL
theorem regsV_len : ∀ rs : List RV, (regsV rs).length = 7 * rs.length
  | [] => rfl
  | v :: rs => by
    show (v.cells ++ regsV rs).length = _
    rw [List.length_append, v.cells_len, regsV_len rs, List.length_cons]; omega
theorem stV_len {rs : List RV} (h : rs.length = 11) : (stV rs).length = 589 := by rw [stV, List.length_append, regsV_len, h, slotsL_len]
theorem stV_one (rs : List RV) : ∀ u ∈ stV rs, u.oneCell' = true := by
  intro u hu
  rcases List.mem_append.1 hu with h | h
  · obtain ⟨l, hl, hu⟩ := List.mem_flatten.1 h
    obtain ⟨v, _, rfl⟩ := List.mem_map.1 hl
    exact v.cells_one u hu
  · exact List.all_eq_true.1 slotsL_one u h
theorem regsV_at : ∀ (rs : List RV) (i j : Nat), i < rs.length → j < 7 → (regsV rs)[7 * i + j]? = (rs.getD i .no).cells[j]?
  | v :: rs, 0, j, _, hj => by
    show (v.cells ++ regsV rs)[7 * 0 + j]? = _
    rw [List.getElem?_append_left (by rw [v.cells_len]; omega)]
    simp
  | v :: rs, i + 1, j, hi, hj => by
    show (v.cells ++ regsV rs)[7 * (i + 1) + j]? = _
    rw [List.getElem?_append_right (by rw [v.cells_len]; omega), v.cells_len, show 7 * (i + 1) + j - 7 = 7 * i + j by omega, regsV_at rs i j (by simpa using hi) hj]
    simp
theorem stV_reg {rs : List RV} (h : rs.length = 11) {i j : Nat} (hi : i < 11) (hj : j < 7) : (stV rs)[7 * i + j]? = (rs.getD i .no).cells[j]? := by
  rw [stV, List.getElem?_append_left (by rw [regsV_len, h]; omega)]
  exact regsV_at rs i j (by omega) hj
theorem stV_slot {rs : List RV} (h : rs.length = 11) {i j : Nat} (hi : i < 64) (hj : j < 8) : (stV rs)[77 + 8 * i + j]? = Z8L[j]? := by
  rw [stV, List.getElem?_append_right (by rw [regsV_len, h]; omega), regsV_len, h, show 77 + 8 * i + j - 7 * 11 = 8 * i + j by omega]
  exact flat_at Z8L (m := 8) rfl 64 i j hi hj
theorem RV.valOk {v : RV} (h : ∀ n, v = .num n → U64 n) : ValOk v.cells := by
  cases v with
  | no => exact .inl rfl
  | ctx => exact .inr (.inl rfl)
  | stk => exact .inr (.inr (.inl rfl))
  | num n => exact .inr (.inr (.inr ⟨n, h n rfl, rfl⟩))
theorem StOk.reg {rs : List RV} (h : StOk rs) {i : Nat} (hi : i < 11) : ∃ v, ValOk v ∧ ∀ j, j < 7 → (stV rs)[7 * i + j]? = v[j]? :=
  ⟨_, RV.valOk (v := rs.getD i .no) (fun n e => h.num i n e), fun j hj => stV_reg h.len hi hj⟩
theorem regsV_split : ∀ (rs : List RV) (d : Nat) (v : RV), d < rs.length → ∃ A C, regsV rs = A ++ ((rs.getD d .no).cells ++ C) ∧ A.length = 7 * d ∧ regsV (rs.set d v) = A ++ (v.cells ++ C)
  | u :: rs, 0, v, _ => ⟨[], regsV rs, rfl, rfl, rfl⟩
  | u :: rs, d + 1, v, h => by
    obtain ⟨A, C, h1, h2, h3⟩ := regsV_split rs d v (by simpa using h)
    refine ⟨u.cells ++ A, C, ?_, ?_, ?_⟩
    · show u.cells ++ regsV rs = _
      rw [h1]; simp
    · rw [List.length_append, u.cells_len, h2]; omega
    · show u.cells ++ regsV (rs.set d v) = _
      rw [h3]; simp
theorem stV_split {rs : List RV} {d : Nat} (v : RV) (h : d < rs.length) : ∃ A C, stV rs = A ++ ((rs.getD d .no).cells ++ C) ∧ A.length = 7 * d ∧ stV (rs.set d v) = A ++ (v.cells ++ C) := by
  obtain ⟨A, C, h1, h2, h3⟩ := regsV_split rs d v h
  exact ⟨A, C ++ slotsL, by rw [stV, h1]; simp, h2, by rw [stV, h3]; simp⟩
theorem stV_line0 : stV line0 = SVl Z7L := by kernel_rfl

end
end Go.Proofs.YtncogaikiceidaaGreat
