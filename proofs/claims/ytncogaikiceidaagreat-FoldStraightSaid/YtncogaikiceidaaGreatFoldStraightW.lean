/- The walk of FoldStraight, and what it plays, as data. No statement is proved here. -/
import Derived.Test.YtncogaikiceidaaGreatLook
import Derived.Test.YtncogaikiceidaaGreatFoldEx
import Derived.Test.YtncogaikiceidaaGreatMach
import Derived.Test.YtncogaikiceidaaGreatRow3
import Derived.Deep.CutRange
import Derived.Deep.CutBlock
section
namespace Go.Proofs.YtncogaikiceidaaGreat
open Go.RowKit
set_option linter.unusedSimpArgs false
set_option linter.unusedVariables false
set_option linter.unnecessarySimpa false
/-- Which arithmetic, on which register, by which number. -/
structure Trip where
  a : Int
  b : Int
  c : Int
structure Trip.Ok (t : Trip) : Prop where
  c0 : -2147483648 ≤ t.c
  c1 : t.c ≤ 2147483647
def Trip.cells (t : Trip) : List Value := [.int .i32 t.a, .int .i32 t.b, .int .i32 t.c]
def tripsV (l : List Trip) : List Value := (l.map Trip.cells).flatten
def Trip.ins (t : Trip) : Insn := ⟨lineOps.getD ((t.a % 4294967296) % 23).toNat 0, (t.b % 4294967296) % 10, 0, 0, t.c⟩
def movI (i : Nat) : Insn := ⟨183, i, 0, 0, i⟩
def pre10 : List Insn := [⟨183, 0, 0, 0, 0⟩, ⟨183, 1, 0, 0, 1⟩, ⟨183, 2, 0, 0, 2⟩, ⟨183, 3, 0, 0, 3⟩, ⟨183, 4, 0, 0, 4⟩, ⟨183, 5, 0, 0, 5⟩, ⟨183, 6, 0, 0, 6⟩, ⟨183, 7, 0, 0, 7⟩, ⟨183, 8, 0, 0, 8⟩, ⟨183, 9, 0, 0, 9⟩]
/-- The arithmetic that is played. -/
def lineQ (l : List Trip) : List Insn := pre10 ++ (l.take 40).map Trip.ins
abbrev exitI : Insn := ⟨149, 0, 0, 0, 0⟩
def lineP (l : List Trip) : List Insn := lineQ l ++ [exitI]
theorem ins_lin {t : Trip} (h : t.Ok) : Lin t.ins := by
  refine ⟨?_, ?_, ?_, rfl, rfl, h.c0, h.c1⟩
  · have : ((t.a % 4294967296) % 23).toNat < 23 := by omega
    show lineOps.getD _ 0 ∈ _
    generalize ((t.a % 4294967296) % 23).toNat = k at *
    have hk : k < lineOps.length := this
    rw [List.getD_eq_getElem?_getD, List.getElem?_eq_getElem hk]
    exact List.mem_cons_of_mem _ (List.getElem_mem hk)
  · show 0 ≤ (t.b % 4294967296) % 10; omega
  · show (t.b % 4294967296) % 10 ≤ 9; omega
theorem pre_lin : ∀ x ∈ pre10, Lin x := by
  intro x hx
  simp only [pre10, List.mem_cons, List.not_mem_nil, or_false] at hx
  rcases hx with rfl | rfl | rfl | rfl | rfl | rfl | rfl | rfl | rfl | rfl <;> exact ⟨by decide, by decide, by decide, rfl, rfl, by decide, by decide⟩
theorem lineQ_lin {l : List Trip} (h : ∀ t ∈ l, t.Ok) : ∀ x ∈ lineQ l, Lin x := by
  intro x hx
  rcases List.mem_append.1 hx with hx | hx
  · exact pre_lin x hx
  · obtain ⟨t, ht, rfl⟩ := List.mem_map.1 hx
    exact ins_lin (h t (List.mem_of_mem_take ht))
theorem lineQ_len (l : List Trip) : (lineQ l).length = 10 + min 40 l.length := by simp [lineQ, pre10]; omega
theorem line_ok {l : List Trip} (h : ∀ t ∈ l, t.Ok) : Line (lineP l) (lineQ l) := ⟨rfl, lineQ_lin h, by rw [lineQ_len]; omega⟩
theorem stR_ten (r : List Insn) : stR (pre10 ++ r) 10 = [.num 0, .num 1, .num 2, .num 3, .num 4, .num 5, .num 6, .num 7, .num 8, .num 9, .stk] := by rfl
/-- The first ten registers hold numbers. -/
def AllNum (rs : List RV) : Prop := ∀ d, d < 10 → ∃ n, rs.getD d .no = .num n
theorem AllNum.next {rs : List RV} (h : AllNum rs) (hl : rs.length = 11) {x : Insn} (hx : Lin x) : AllNum (stepR rs x) := by
  intro d hd
  unfold stepR
  rw [getD_set (by rw [hl]; have := hx.dst9; omega)]
  split
  · exact ⟨_, rfl⟩
  · exact h d hd
theorem allNum_from {l : List Trip} (h : ∀ t ∈ l, t.Ok) : ∀ k, 10 + k ≤ (lineQ l).length → AllNum (stR (lineQ l) (10 + k))
  | 0, _ => by
    rw [show 10 + 0 = 10 from rfl, lineQ, stR_ten]
    intro d hd
    have : d = 0 ∨ d = 1 ∨ d = 2 ∨ d = 3 ∨ d = 4 ∨ d = 5 ∨ d = 6 ∨ d = 7 ∨ d = 8 ∨ d = 9 := by omega
    rcases this with rfl | rfl | rfl | rfl | rfl | rfl | rfl | rfl | rfl | rfl <;> exact ⟨_, rfl⟩
  | k + 1, hk => by
    have ih := allNum_from h k (by omega)
    have hj : 10 + k < (lineQ l).length := by omega
    show AllNum (stepR (stR (lineQ l) (10 + k)) (at' (lineQ l) (10 + k)))
    exact ih.next (stR_ok (lineQ_lin h) _ (by omega)).len (lineQ_lin h _ (by rw [at_get hj]; exact List.getElem_mem hj))
theorem line_goes {l : List Trip} (h : ∀ t ∈ l, t.Ok) : Goes (lineQ l) := by
  have hlen := lineQ_len l
  constructor
  · intro j hj
    rcases Nat.lt_or_ge j 10 with h1 | h1
    · right
      have : j = 0 ∨ j = 1 ∨ j = 2 ∨ j = 3 ∨ j = 4 ∨ j = 5 ∨ j = 6 ∨ j = 7 ∨ j = 8 ∨ j = 9 := by omega
      rcases this with rfl | rfl | rfl | rfl | rfl | rfl | rfl | rfl | rfl | rfl
      · exact ⟨rfl, rfl, .inl rfl⟩
      · exact ⟨rfl, rfl, .inr rfl⟩
      all_goals exact ⟨rfl, rfl, .inl rfl⟩
    · left
      obtain ⟨k, rfl⟩ : ∃ k, j = 10 + k := ⟨j - 10, by omega⟩
      have hx := lineQ_lin h (at' (lineQ l) (10 + k)) (by rw [at_get hj]; exact List.getElem_mem hj)
      obtain ⟨n, hn⟩ := allNum_from h k (by omega) (at' (lineQ l) (10 + k)).dst.toNat (by have := hx.dst9; omega)
      rw [hn]
      exact (stR_ok (lineQ_lin h) _ (by omega)).num _ _ hn
  · obtain ⟨n, hn⟩ := allNum_from h ((lineQ l).length - 10) (by omega) 0 (by omega)
    rw [show 10 + ((lineQ l).length - 10) = (lineQ l).length by omega] at hn
    exact ⟨n, hn⟩
/-! ### The machine's cells -/
structure MK (q : List Insn) (Lv : Value) (j : Nat) (K : List Value) : Prop where
  len : K.length = 32
  prog : K[0]? = some Lv
  place : K[27]? = some (.int .i64 j)
  over : K[28]? = some (.bool false)
  steps : K[30]? = some (.int .i64 j)
  reg : ∀ d, d < 11 → ∃ a s, K[1 + d]? = some (.int .u64 a) ∧ U64 a ∧ K[12 + d]? = some (.bool s)
  num : ∀ d n, d < 11 → (stR q j).getD d .no = .num n → K[1 + d]? = some (.int .u64 n) ∧ K[12 + d]? = some (.bool true)
theorem doM_mov {op : Int} {wd : Bool} (h1 : op = 176) (h2 : wd = true) (a b : Int) : doM op wd a b = b := by subst h1 h2; exact doW_mov a b
theorem MK.next {q : List Insn} {Lv : Value} {j : Nat} {K : List Value} (h : MK q Lv j K) (hok : StOk (stR q j)) {d : Nat} (hd : d < 11) (hx : Lin (at' q j)) (hdd : (at' q j).dst = d) (hr : Rdy (stR q j) (at' q j)) {a : Int} (ha : K[1 + d]? = some (.int .u64 a)) :
    MK q Lv (j + 1) ((((K.set (1 + d) (.int .u64 (doM (opG (at' q j)) (opW (at' q j)) a (immU (at' q j).imm)))).set (12 + d) (.bool true)).set 27 (.int .i64 ((j : Int) + 1))).set 30 (.int .i64 ((j : Int) + 1))) ∧ doM (opG (at' q j)) (opW (at' q j)) a (immU (at' q j).imm) = resR (stR q j) (at' q j) := by
  have hdt : (at' q j).dst.toNat = d := by omega
  have hv : doM (opG (at' q j)) (opW (at' q j)) a (immU (at' q j).imm) = resR (stR q j) (at' q j) := by
    unfold resR
    rw [hdt]
    rcases hr with hn | ⟨h1, h2, -⟩
    · rw [hdt] at hn
      obtain ⟨e, -⟩ := RV.num_of hn
      obtain ⟨e1, -⟩ := h.num d _ hd e
      rw [ha] at e1
      simp only [Option.some.injEq, Value.int.injEq, true_and] at e1
      rw [← e1]
    · rw [doM_mov h1 h2, doM_mov h1 h2]
  refine ⟨?_, hv⟩
  rw [hv]
  have hl := h.len
  have hu : U64 (resR (stR q j) (at' q j)) := res_u64 hok hx
  constructor
  · simp [hl]
  · rw [List.getElem?_set_ne (by omega), List.getElem?_set_ne (by omega), List.getElem?_set_ne (by omega), List.getElem?_set_ne (by omega)]; exact h.prog
  · rw [List.getElem?_set_ne (by omega), List.getElem?_set_self (by simp [hl])]; rfl
  · rw [List.getElem?_set_ne (by omega), List.getElem?_set_ne (by omega), List.getElem?_set_ne (by omega), List.getElem?_set_ne (by omega)]; exact h.over
  · rw [List.getElem?_set_self (by simp [hl])]; rfl
  · intro d2 hd2
    obtain ⟨a2, s2, e1, e2, e3⟩ := h.reg d2 hd2
    by_cases e : d2 = d
    · subst e
      refine ⟨resR (stR q j) (at' q j), true, ?_, hu, ?_⟩
      · rw [List.getElem?_set_ne (by omega), List.getElem?_set_ne (by omega), List.getElem?_set_ne (by omega), List.getElem?_set_self (by omega)]
      · rw [List.getElem?_set_ne (by omega), List.getElem?_set_ne (by omega), List.getElem?_set_self (by simp [hl]; omega)]
    · refine ⟨a2, s2, ?_, e2, ?_⟩
      · rw [List.getElem?_set_ne (by omega), List.getElem?_set_ne (by omega), List.getElem?_set_ne (by omega), List.getElem?_set_ne (by omega)]; exact e1
      · rw [List.getElem?_set_ne (by omega), List.getElem?_set_ne (by omega), List.getElem?_set_ne (by omega), List.getElem?_set_ne (by omega)]; exact e3
  · intro d2 n hd2 hn
    rw [stR, stepR, getD_set (by rw [hok.len]; omega), hdt] at hn
    split at hn
    · rename_i e; subst e
      simp only [RV.num.injEq] at hn
      subst hn
      constructor
      · rw [List.getElem?_set_ne (by omega), List.getElem?_set_ne (by omega), List.getElem?_set_ne (by omega), List.getElem?_set_self (by omega)]
      · rw [List.getElem?_set_ne (by omega), List.getElem?_set_ne (by omega), List.getElem?_set_self (by simp [hl]; omega)]
    · obtain ⟨e1, e2⟩ := h.num d2 n hd2 hn
      constructor
      · rw [List.getElem?_set_ne (by omega), List.getElem?_set_ne (by omega), List.getElem?_set_ne (by omega), List.getElem?_set_ne (by omega)]; exact e1
      · rw [List.getElem?_set_ne (by omega), List.getElem?_set_ne (by omega), List.getElem?_set_ne (by omega), List.getElem?_set_ne (by omega)]; exact e2
theorem mk_start (q : List Insn) (Lv mv tv dv : Value) : MK q Lv 0 (mach1 Lv mv tv dv) := by
  refine ⟨rfl, rfl, rfl, rfl, rfl, ?_, ?_⟩
  · intro d hd
    have : d = 0 ∨ d = 1 ∨ d = 2 ∨ d = 3 ∨ d = 4 ∨ d = 5 ∨ d = 6 ∨ d = 7 ∨ d = 8 ∨ d = 9 ∨ d = 10 := by omega
    rcases this with rfl | rfl | rfl | rfl | rfl | rfl | rfl | rfl | rfl | rfl | rfl <;> exact ⟨_, _, rfl, ⟨by decide, by decide⟩, rfl⟩
  · intro d n hd h
    have : d = 0 ∨ d = 1 ∨ d = 2 ∨ d = 3 ∨ d = 4 ∨ d = 5 ∨ d = 6 ∨ d = 7 ∨ d = 8 ∨ d = 9 ∨ d = 10 := by omega
    rcases this with rfl | rfl | rfl | rfl | rfl | rfl | rfl | rfl | rfl | rfl | rfl <;> cases h
/-! ### What is noted, and what becomes of the instructions -/
def noteQ (q : List Insn) (i : Nat) : Note := ⟨true, false, false, 1, resR (stR q i) (at' q i), 0, resR (stR q i) (at' q i), resR (stR q i) (at' q i), 0, 0⟩
def lineN (q : List Insn) : List Note := (List.range q.length).map (noteQ q) ++ [⟨true, false, false, 0, 0, 0, 0, 0, 0, 0⟩]
theorem donesV_eq (q : List Insn) : ∀ j, donesV q j = notesV ((List.range j).map (noteQ q))
  | 0 => rfl
  | j + 1 => by
    rw [donesV, donesV_eq q j, List.range_succ, List.map_append, notesV_append]
    rfl
theorem lineN_V (q : List Insn) : notesV (lineN q) = finV q := by
  rw [lineN, notesV_append, ← donesV_eq]; rfl
theorem lineN_len (q : List Insn) : (lineN q).length = q.length + 1 := by simp [lineN]
theorem lineN_at {q : List Insn} {i : Nat} (h : i < q.length) : noteAt (lineN q) i = noteQ q i := by
  rw [noteAt_get (by rw [lineN_len]; omega)]
  simp only [lineN]
  rw [List.getElem_append_left (by simpa using h)]
  simp
theorem lineN_end (q : List Insn) : noteAt (lineN q) q.length = ⟨true, false, false, 0, 0, 0, 0, 0, 0, 0⟩ := by
  rw [noteAt_get (by rw [lineN_len]; omega)]
  simp [lineN]
theorem lineN_ok {q : List Insn} (h : ∀ x ∈ q, Lin x) : ∀ n ∈ lineN q, n.Ok := by
  intro n hn
  rcases List.mem_append.1 hn with hn | hn
  · obtain ⟨i, hi, rfl⟩ := List.mem_map.1 hn
    have hi := List.mem_range.1 hi
    exact res_u64 (stR_ok h i (by omega)) (h _ (by rw [at_get hi]; exact List.getElem_mem hi))
  · rw [List.mem_singleton.1 hn]; exact ⟨by decide, by decide⟩
/-- The Mov of a result. -/
def movQ (q : List Insn) (i : Nat) : Insn := ⟨183, (at' q i).dst, 0, 0, wrap32 (resR (stR q i) (at' q i))⟩
theorem short_imm {im : Int} (h0 : -2147483648 ≤ im) (h1 : im ≤ 2147483647) : shortB (immU im) = true := by
  unfold immU sign32 shortB
  rw [Bool.or_eq_true, decide_eq_true_eq, decide_eq_true_eq]
  split <;> omega
section
variable {p q : List Insn}
theorem line_edits (hp : Line p q) : foldL p (lineN q) = partG (foldF p (lineN q)) p.length p.length := foldL_yes (by rw [hp.check]) (by rw [lineN_len, hp.len])
theorem line_edit (hp : Line p q) {i : Nat} (hi : i < p.length) : edAt (foldL p (lineN q)) i = foldX p i (noteAt (lineN q) i) := by
  rw [line_edits hp, edAt_get (by rw [partG_length]; exact hi)]
  have := partG_get (f := foldF p (lineN q)) (n := p.length) (j := p.length) hi
  rw [List.getElem?_eq_getElem (by rw [partG_length]; exact hi), if_pos hi] at this
  simp only [Option.some.injEq] at this
  rw [this, foldF, if_pos (hp.starts i)]
theorem line_edit_end (hp : Line p q) : edAt (foldL p (lineN q)) q.length = Edit.none := by
  rw [line_edit hp (by rw [hp.len]; omega), lineN_end]
  refine foldX_other rfl ?_
  have hk : kindM p q.length = 12 := by
    show (sem (at' p q.length)).1.kind = 12
    rw [hp.at_end, exit_sem]
  rw [hk]; decide
theorem line_edit_at (hp : Line p q) {i : Nat} (hi : i < q.length) :
    edAt (foldL p (lineN q)) i = if shortB (resR (stR q i) (at' q i)) = true ∧ ¬ movQ q i = at' q i then ⟨2, movQ q i, 0⟩ else Edit.none := by
  have e := hp.at_lt hi
  rw [line_edit hp (by rw [hp.len]; omega), lineN_at hi, foldX_movs rfl (.inl (hp.lin_at hi).kind)]
  have hm : movR (at' p i) 1 (resR (stR q i) (at' q i)) 0 (resR (stR q i) (at' q i)) (resR (stR q i) (at' q i)) = if shortB (resR (stR q i) (at' q i)) = true then (movQ q i, true) else (Insn.zero, false) := by
    unfold movR knownF movQ
    simp [e]
  by_cases hs : shortB (resR (stR q i) (at' q i)) = true
  · rw [if_pos hs] at hm
    have hm2 : movR (at' p i) (noteQ q i).kind (noteQ q i).v (noteQ q i).m (noteQ q i).lo (noteQ q i).hi = (movQ q i, true) := hm
    rw [e] at hm2
    simp only [hm2, e, hs, true_and]
  · rw [if_neg hs] at hm
    have hm2 : movR (at' p i) (noteQ q i).kind (noteQ q i).v (noteQ q i).m (noteQ q i).lo (noteQ q i).hi = (Insn.zero, false) := hm
    simp only [Bool.not_eq_true] at hs
    simp [hm2, hs]
theorem line_law (hp : Line p q) {i : Nat} (hi : i < q.length) :
    (decide (at' p i = movQ q i) || decide (edAt (foldL p (lineN q)) i = ⟨2, movQ q i, 0⟩)) = shortB (resR (stR q i) (at' q i)) := by
  have e := hp.at_lt hi
  have hx := hp.linq hi
  rw [line_edit_at hp hi, e]
  by_cases hm : at' q i = movQ q i
  · have hs : shortB (resR (stR q i) (at' q i)) = true := by
      have h1 : opG (at' q i) = 176 := by rw [hm]; rfl
      have h2 : opW (at' q i) = true := by rw [hm]; rfl
      unfold resR
      rw [doM_mov h1 h2]
      exact short_imm hx.imm0 hx.imm1
    rw [hs]; simp [hm]
  · by_cases hs : shortB (resR (stR q i) (at' q i)) = true
    · rw [if_pos ⟨hs, fun h => hm h.symm⟩, hs]; simp
    · rw [if_neg (fun h => hs h.1)]
      simp only [Bool.not_eq_true] at hs
      rw [hs]
      have hne : ¬ Edit.none = ⟨2, movQ q i, 0⟩ := by intro h; cases h
      simp [hm, hne]
end
end Go.Proofs.YtncogaikiceidaaGreat
end
section
namespace Go.Proofs.YtncogaikiceidaaGreat
open Go.RowKit
set_option linter.unusedSimpArgs false
set_option linter.unusedVariables false
set_option linter.unnecessarySimpa false
theorem tripsV_get : ∀ {l : List Trip} {k j : Nat} (hk : k < l.length), j < 3 → (tripsV l)[k * 3 + j]? = l[k].cells[j]?
  | t :: l, 0, j, _, hj => by
    show (t.cells ++ tripsV l)[0 * 3 + j]? = _
    rw [List.getElem?_append_left (by simp [Trip.cells]; omega)]
    simp
  | t :: l, k + 1, j, hk, hj => by
    show (t.cells ++ tripsV l)[(k + 1) * 3 + j]? = _
    rw [List.getElem?_append_right (by simp [Trip.cells]; omega), show (k + 1) * 3 + j - t.cells.length = k * 3 + j by simp [Trip.cells]; omega, tripsV_get (by simpa using hk) hj]
    simp
theorem tripsV_length (l : List Trip) : (tripsV l).length = l.length * 3 := by
  induction l with
  | nil => rfl
  | cons t l ih =>
    show (t.cells ++ tripsV l).length = _
    rw [List.length_append, ih]; simp [Trip.cells]; omega
theorem trip_at {W : World} {B : Nat} {A : Option Addr} {l : List Trip} (h : SAt W B 3 A l.length (tripsV l)) {k : Nat} (hk : k < l.length) :
    ∃ b o, A = some ⟨b, o, none⟩ ∧ b < B ∧ (∀ w', Below B W w' → w'.cell? ⟨b, o + k * 3, none⟩ = some (.int .i32 l[k].a)) ∧ (∀ w', Below B W w' → w'.cell? ⟨b, o + k * 3 + 1, none⟩ = some (.int .i32 l[k].b)) ∧ (∀ w', Below B W w' → w'.cell? ⟨b, o + k * 3 + 2, none⟩ = some (.int .i32 l[k].c)) := by
  obtain ⟨b, o, rfl, hb, hc⟩ := h.2 (by omega)
  have hg := fun j (hj : j < 3) => tripsV_get hk hj
  refine ⟨b, o, rfl, hb, fun w' hw => ?_, fun w' hw => ?_, fun w' hw => ?_⟩
  · rw [hw.cell (p := ⟨b, o + k * 3, none⟩) hb]; exact hc (k * 3) _ (by have := hg 0 (by omega); simpa [Trip.cells] using this)
  · rw [hw.cell (p := ⟨b, o + k * 3 + 1, none⟩) hb]; have := hc (k * 3 + 1) _ (by have := hg 1 (by omega); simpa [Trip.cells] using this); rwa [show o + (k * 3 + 1) = o + k * 3 + 1 by omega] at this
  · rw [hw.cell (p := ⟨b, o + k * 3 + 2, none⟩) hb]; have := hc (k * 3 + 2) _ (by have := hg 2 (by omega); simpa [Trip.cells] using this); rwa [show o + (k * 3 + 2) = o + k * 3 + 2 by omega] at this
theorem take_pre {j : Nat} (h : j < 10) : insnsV (pre10.take (j + 1)) = insnsV (pre10.take j) ++ [.int .u8 183, .int .u8 j, .int .u8 0, .int .i16 0, .int .i32 j] := by
  have : j = 0 ∨ j = 1 ∨ j = 2 ∨ j = 3 ∨ j = 4 ∨ j = 5 ∨ j = 6 ∨ j = 7 ∨ j = 8 ∨ j = 9 := by omega
  rcases this with rfl | rfl | rfl | rfl | rfl | rfl | rfl | rfl | rfl | rfl <;> rfl
def opsA : Array Value := #[.int .u8 7, .int .u8 23, .int .u8 39, .int .u8 55, .int .u8 71, .int .u8 87, .int .u8 103, .int .u8 119, .int .u8 151, .int .u8 167, .int .u8 199, .int .u8 4, .int .u8 20, .int .u8 36, .int .u8 52, .int .u8 68, .int .u8 84, .int .u8 100, .int .u8 116, .int .u8 148, .int .u8 164, .int .u8 180, .int .u8 196]
theorem opsA_get (k : Nat) (h : k < 23) : opsA[k]? = some (.int .u8 (lineOps.getD k 0)) := by
  have : k = 0 ∨ k = 1 ∨ k = 2 ∨ k = 3 ∨ k = 4 ∨ k = 5 ∨ k = 6 ∨ k = 7 ∨ k = 8 ∨ k = 9 ∨ k = 10 ∨ k = 11 ∨ k = 12 ∨ k = 13 ∨ k = 14 ∨ k = 15 ∨ k = 16 ∨ k = 17 ∨ k = 18 ∨ k = 19 ∨ k = 20 ∨ k = 21 ∨ k = 22 := by omega
  rcases this with rfl | rfl | rfl | rfl | rfl | rfl | rfl | rfl | rfl | rfl | rfl | rfl | rfl | rfl | rfl | rfl | rfl | rfl | rfl | rfl | rfl | rfl | rfl <;> rfl
theorem lineQ_next (l : List Trip) {j : Nat} (h : j < l.length) (h40 : j < 40) : lineQ (l.take (j + 1)) = lineQ (l.take j) ++ [l[j].ins] := by
  simp only [lineQ]
  rw [List.take_take, List.take_take, show min 40 (j + 1) = j + 1 by omega, show min 40 j = j by omega, List.take_succ_eq_append_getElem h, List.map_append, List.append_assoc]
  rfl
theorem lineQ_same (l : List Trip) {j : Nat} (h : 40 ≤ j) : lineQ (l.take (j + 1)) = lineQ (l.take j) := by
  simp only [lineQ]
  rw [List.take_take, List.take_take, show min 40 (j + 1) = 40 by omega, show min 40 j = 40 by omega]
theorem own_ne {w : World} {base e size n : Nat} {v : Value} {xs : List Value} {O : Nat} {cs : Array Value} {t : TypeId} (h : w.ownsRow base e size v n xs) (hO : w.heap[O]? = some (.cells cs t)) (ht : e ≠ t) : ¬ v.ownBlock = some O := by
  intro hv
  rcases h.2 with ⟨rfl, -⟩ | ⟨g, cap, cur, rfl, -, hg, -⟩
  · cases hv
  · simp only [Value.ownBlock, Option.some.injEq] at hv
    subst hv
    rw [hg] at hO
    simp only [Option.some.injEq, Obj.cells.injEq] at hO
    exact ht hO.2.1
set_option maxRecDepth 100000 in
set_option maxHeartbeats 4000000 in
theorem foldStraight_any (l : List Trip) (hl : ∀ t ∈ l, t.Ok) (hlm : l.length ≤ maxLen) (A : Option Addr) (c : Nat) (w : World) (hat : SAt w w.heap.size 3 A l.length (tripsV l)) :
    Calls Tryz.prog 3 #[.slice A l.length c] w fun e w' => e = .returned (.bool true) ∧ Below w.heap.size w w' := by
  have hsh := shown19_any
  obtain ⟨i0, hi0, hz0, hz1, hz2⟩ := info_parts info24
  have hlm' : (l.length : Int) ≤ 9223372036854775807 := by have := hlm; simp only [maxLen] at this; omega
  go_enter Tryz.func3, Tryz.ntmps3
  go_wp2_with fail
  refine (hsh _).mono ?_
  rintro e w1 ⟨rfl, hc1⟩
  have hb1 : Below w.heap.size w w1 := hc1
  clear hc1 hsh
  go_upto_region 4 with fail
  go_loopw [4, 5, 21] (fun v _ k wr => ∃ (j : Nat) (B : Option Addr) (b : Nat), j ≤ 10 ∧ k = .int .i64 j ∧ v = .slice B j b ∧ wr.ownsRow w1.heap.size 27 5 v j (insnsV (pre10.take j)) ∧ Below w1.heap.size w1 wr) (fun _ _ k _ => 10 - (intOf k).toNat)
  case atStart => exact ⟨0, none, 0, by omega, rfl, rfl, World.ownsRow_nil _ _ _ _, Below.refl _ _⟩
  case round =>
    obtain ⟨j, B, b, hj, rfl, rfl, hown, hbr⟩ := hrel
    rcases Nat.lt_or_ge j 10 with hlt | hge
    · have hji : (j : Int) < 10 := by omega
      have hw8 : IntKind.u8.wrap (j : Int) = j := by simp [IntKind.wrap, IntKind.bits, IntKind.signed]; omega
      have hw32 : wrap32 (j : Int) = j := by unfold wrap32; omega
      have HT := Lib.hid (take_pre hlt)
      have HB := Lib.hid hbr
      have hbs := hbr.size
      go_wp2_with (at_builtin; refine wpList_append_box rfl (.tmp 24) (.tmp 30) 24 rfl w1.heap.size 27 i0 Insn.zero.val 5 12 Tryz.underlying24 hi0 hz0 hz1 hz2 rfl (by decide) B j b 1 _ rfl rfl (by simp) hown rfl ?c1 ?c2 ?c3 ?c4 ?c5)
      case c1 => first | exact ⟨rfl, rfl, rfl, rfl, rfl⟩ | (intro u hu; simp at hu; rcases hu with rfl | rfl | rfl | rfl | rfl <;> rfl) | trivial | decide | simp
      case c2 => simp only [maxLen]; omega
      case c3 => omega
      case c4 => exact hbs
      case c5 =>
        intro B' b' w6 h2 h3 h4 h5
        clear h3 h5
        go_wp2
        go_roundw
        case rel =>
          refine ⟨j + 1, B', b', by omega, by go_num, rfl, ?_, HB.out.trans h4⟩
          rw [HT.out]
          exact h2
        case measure => simp [intOf]; omega
    · obtain rfl : j = 10 := by omega
      go_upto_region 10 with fail
      have hownQ : (wr.alloc (.cells opsA 5)).ownsRow w1.heap.size 27 5 (.slice B 10 b) 10 (insnsV (lineQ (l.take 0))) := hown.alloc _
      have hO0 : (wr.alloc (.cells opsA 5)).heap[wr.heap.size]? = some (.cells opsA 5) := heap1_0 wr _
      have hbV : Below w1.heap.size w1 (wr.alloc (.cells opsA 5)) := hbr.alloc hbr.size _
      have hO1 : w1.heap.size ≤ wr.heap.size := hbr.size
      clear hown hbr
      change Code.wp _ _ _ _ (wr.alloc (.cells opsA 5))
      generalize wr.alloc (.cells opsA 5) = V at *
      generalize wr.heap.size = O at *
      go_loopw [4, 36] (fun v k wr => ∃ (j : Nat) (B : Option Addr) (b : Nat), j ≤ l.length ∧ k = .int .i64 j ∧ v = .slice B (10 + min 40 j) b ∧ wr.ownsRow w1.heap.size 27 5 v (10 + min 40 j) (insnsV (lineQ (l.take j))) ∧ wr.heap[O]? = some (.cells opsA 5) ∧ Below w1.heap.size w1 wr) (fun _ k _ => l.length - (intOf k).toNat)
      case atStart => exact ⟨0, B, b, by omega, rfl, rfl, hownQ, hO0, hbV⟩
      case round =>
        clear hownQ hO0 hbV
        obtain ⟨j, B, b, hj, rfl, rfl, hown, hOr, hbr⟩ := hrel
        rcases Nat.lt_or_ge j l.length with hlt | hge
        · obtain ⟨tb, to_, rfl, htb, T0, T1, T2⟩ := trip_at hat hlt
          have hbw := hb1.trans (hbr.mono hb1.size)
          have t0 := T0 _ hbw
          have t1 := T1 _ hbw
          have t2 := T2 _ hbw
          have hji : (j : Int) < (l.length : Int) := by omega
          go_upto_block 3 with fail
          go_cut [4, 36] from 36 to 64 (fun v k wx => k = .int .i64 j ∧ ∃ A5 c5, v = .slice A5 (10 + min 40 (j + 1)) c5 ∧ wx.ownsRow w1.heap.size 27 5 (.slice A5 (10 + min 40 (j + 1)) c5) (10 + min 40 (j + 1)) (insnsV (lineQ (l.take (j + 1)))) ∧ wx.heap[O]? = some (.cells opsA 5) ∧ Below w1.heap.size w1 wx)
          case first =>
            by_cases h40 : j < 40
            · have h40i : (j : Int) < 40 := by omega
              go_upto_region 13 with fail
              have x0 := boxc (k := 0) (u := .int .i32 l[j].a) (heap1_0 wr (.cells #[.int .i32 l[j].a, .int .i32 l[j].b, .int .i32 l[j].c] 29)) rfl _ (Below.refl _ _)
              have x1 := boxc (k := 1) (u := .int .i32 l[j].b) (heap1_0 wr (.cells #[.int .i32 l[j].a, .int .i32 l[j].b, .int .i32 l[j].c] 29)) rfl _ (Below.refl _ _)
              have x2 := boxc (k := 2) (u := .int .i32 l[j].c) (heap1_0 wr (.cells #[.int .i32 l[j].a, .int .i32 l[j].b, .int .i32 l[j].c] 29)) rfl _ (Below.refl _ _)
              have hU : Below w1.heap.size w1 (wr.alloc (.cells #[.int .i32 l[j].a, .int .i32 l[j].b, .int .i32 l[j].c] 29)) := hbr.alloc hbr.size _
              have hownU : (wr.alloc (.cells #[.int .i32 l[j].a, .int .i32 l[j].b, .int .i32 l[j].c] 29)).ownsRow w1.heap.size 27 5 (.slice B (10 + min 40 j) b) (10 + min 40 j) (insnsV (lineQ (l.take j))) := hown.alloc _
              have hOU : (wr.alloc (.cells #[.int .i32 l[j].a, .int .i32 l[j].b, .int .i32 l[j].c] 29)).heap[O]? = some (.cells opsA 5) := by
                rw [Below.heap_alloc _ _ _ (Array.getElem?_eq_some_iff.1 hOr).1]; exact hOr
              have hop : (wr.alloc (.cells #[.int .i32 l[j].a, .int .i32 l[j].b, .int .i32 l[j].c] 29)).cell? ⟨O, (l[j].a % 4294967296 % 23).toNat, none⟩ = some (.int .u8 (lineOps.getD (l[j].a % 4294967296 % 23).toNat 0)) := boxc hOU (opsA_get _ (by omega)) _ (Below.refl _ _)
              have hus : w1.heap.size ≤ (wr.alloc (.cells #[.int .i32 l[j].a, .int .i32 l[j].b, .int .i32 l[j].c] 29)).heap.size := hU.size
              have hr0 : 0 ≤ l[j].a % 4294967296 % 23 := by omega
              have hr1 : l[j].a % 4294967296 % 23 < 23 := by omega
              have hmod : (IntKind.i64.wrap (IntKind.u32.wrap l[j].a)).tmod 23 = l[j].a % 4294967296 % 23 := by
                have e1 : IntKind.u32.wrap l[j].a = l[j].a % 4294967296 := by simp [IntKind.wrap, IntKind.bits, IntKind.signed]
                have e2 : IntKind.i64.wrap (l[j].a % 4294967296) = l[j].a % 4294967296 := by rw [IntKind.wrap_i64]; omega
                rw [e1, e2, Int.tmod_eq_emod_of_nonneg (by omega)]
              have hmb : (IntKind.u32.wrap l[j].b).tmod 10 = l[j].b % 4294967296 % 10 := by
                have e1 : IntKind.u32.wrap l[j].b = l[j].b % 4294967296 := by simp [IntKind.wrap, IntKind.bits, IntKind.signed]
                rw [e1, Int.tmod_eq_emod_of_nonneg (by omega)]
              have hmb8 : IntKind.u8.wrap (l[j].b % 4294967296 % 10) = l[j].b % 4294967296 % 10 := by simp [IntKind.wrap, IntKind.bits, IntKind.signed]; omega
              have HIN := Lib.hid (show l[j].ins.cells = [.int .u8 (lineOps.getD (l[j].a % 4294967296 % 23).toNat 0), .int .u8 (l[j].b % 4294967296 % 10), .int .u8 0, .int .i16 0, .int .i32 l[j].c] from rfl)
              clear hown hOr t0 t1 t2
              generalize hrb : l[j].b % 4294967296 % 10 = rb at *
              generalize hg0 : lineOps.getD (l[j].a % 4294967296 % 23).toNat 0 = g0 at *
              generalize hra : l[j].a % 4294967296 % 23 = ra at *
              clear hg0 hra hrb
              generalize wr.alloc (.cells #[.int .i32 l[j].a, .int .i32 l[j].b, .int .i32 l[j].c] 29) = U at *
              go_region_law (first | (refine step_append_x rfl (.tmp 43) (.tmp 62) 24 rfl w1.heap.size 27 i0 Insn.zero.val 5 12 Tryz.underlying24 hi0 hz0 hz1 hz2 rfl (by decide) B (10 + min 40 j) b (insnsV (lineQ (l.take j))) rfl ?_ (U.heap.size + 1) (some ⟨U.heap.size, 0, none⟩) 1 1 [.int .u8 g0, .int .u8 rb, .int .u8 0, .int .i16 0, .int .i32 l[j].c] rfl ?_ (by decide) ?_ ?_ ?_ ?_ ?_; (exact hownU.alloc _); (exact sat_new U 27 #[.int .u8 g0, .int .u8 rb, .int .u8 0, .int .i16 0, .int .i32 l[j].c] 5 1 rfl); (intro u hu; simp at hu; rcases hu with rfl | rfl | rfl | rfl | rfl <;> rfl); (simp only [maxLen]; omega); (omega); (exact Nat.le_trans hus (below_boxes1 U _).drew.size); (intro A5 c5 w5 ho5 hg5 hb5)))
              all_goals
                have hneO : ∀ k, (Value.slice B (10 + min 40 j) b).ownBlock = some k → k ≠ O := fun k hk e => own_ne hownU hOU (by decide) (e ▸ hk)
                have h5O : w5.heap[O]? = some (.cells opsA 5) := by
                  rw [hg5.block O (Nat.lt_of_lt_of_le (Array.getElem?_eq_some_iff.1 hOU).1 (below_boxes1 U _).drew.size) (fun e => hneO O e.symm rfl)]
                  exact (Below.heap_alloc U _ _ (Array.getElem?_eq_some_iff.1 hOU).1).trans hOU
                have h5b : Below w1.heap.size w1 w5 := ((hU.alloc hus _).drew).trans (below_of_grown hg5 (Nat.le_trans hus (below_boxes1 U _).drew.size) (fun k hk => (hownU.lt k hk).1))
                have h5q : w5.ownsRow w1.heap.size 27 5 (.slice A5 (10 + min 40 (j + 1)) c5) (10 + min 40 (j + 1)) (insnsV (lineQ (l.take (j + 1)))) := by
                  rw [lineQ_next l hlt h40, show 10 + min 40 (j + 1) = 10 + min 40 j + 1 by omega, insnsV_append]
                  rw [show insnsV [l[j].ins] = l[j].ins.cells by simp [insnsV], HIN.out]
                  exact ho5
                have hsl : Value.slice A5 (10 + min 40 j + 1) c5 = Value.slice A5 (10 + min 40 (j + 1)) c5 := by rw [show 10 + min 40 (j + 1) = 10 + min 40 j + 1 by omega]
                have HF := Lib.hid (And.intro hsl (And.intro h5q (And.intro h5O h5b)))
                clear hsl h5q h5O h5b hneO ho5 hg5 hb5 hownU hOU hU hop x0 x1 x2 hus HIN T0 T1 T2
                go_wp2_with fail
                go_meet
                case rel =>
                  obtain ⟨a1, a2, a3, a4⟩ := HF.out
                  exact ⟨rfl, A5, c5, a1, a2, a3, a4⟩
            · have h40i : ¬ (j : Int) < 40 := by omega
              have hq : lineQ (l.take (j + 1)) = lineQ (l.take j) := lineQ_same l (by omega)
              have hmn : 10 + min 40 (j + 1) = 10 + min 40 j := by omega
              have HF := Lib.hid (And.intro hq (And.intro hmn (And.intro hown (And.intro hOr hbr))))
              clear hq hmn hown hOr hbr
              go_wp2_with fail
              go_meet
              case rel =>
                obtain ⟨a1, a2, a3, a4, a5⟩ := HF.out
                refine ⟨rfl, B, b, by rw [a2], ?_, ?_, a5.alloc a5.size _⟩
                · rw [a1, a2]; exact a3.alloc _
                · rw [Below.heap_alloc _ _ _ (Array.getElem?_eq_some_iff.1 a4).1]; exact a4
          case rest =>
            rename_i wc
            obtain ⟨rfl, A5, c5, rfl, a2, a3, a4⟩ := hcut
            have HF := Lib.hid (And.intro a2 (And.intro a3 a4))
            clear a2 a3 a4 hown hOr hbr t0 t1 t2
            go_wp2_with fail
            go_roundw
            case rel => exact ⟨j + 1, A5, c5, by omega, by go_num, rfl, HF.out.1, HF.out.2.1, HF.out.2.2⟩
            case measure => simp [intOf]; omega
        · obtain rfl : j = l.length := by omega
          have HB := Lib.hid hbr
          have hbs := hbr.size
          have htk : l.take l.length = l := List.take_length
          rw [htk] at hown
          clear htk hOr hbr
          go_upto_region 15 with fail
          go_wp2_with (at_builtin; refine wpList_append_box rfl (.tmp 65) (.tmp 67) 24 rfl w1.heap.size 27 i0 Insn.zero.val 5 12 Tryz.underlying24 hi0 hz0 hz1 hz2 rfl (by decide) B (10 + min 40 l.length) b 1 _ rfl rfl (by simp) hown rfl ?c1 ?c2 ?c3 ?c4 ?c5)
          case c1 => first | exact ⟨rfl, rfl, rfl, rfl, rfl⟩ | (intro u hu; simp at hu; rcases hu with rfl | rfl | rfl | rfl | rfl <;> rfl) | trivial | decide | simp
          case c2 => simp only [maxLen]; omega
          case c3 => omega
          case c4 => exact hbs
          case c5 =>
            intro B' b' w6 h2 h3 h4 h5
            clear h3 h5 hown
            have hpv : w6.ownsRow w1.heap.size 27 5 (.slice B' (10 + min 40 l.length + 1) b') (10 + min 40 l.length + 1) (insnsV (lineP l)) := by
              rw [lineP, insnsV_append]; exact h2
            have hpl : (lineP l).length = 10 + min 40 l.length + 1 := by rw [(line_ok hl).len, lineQ_len]
            rw [← hpl] at hpv
            have hatp := SAt.own hpv
            have hp := line_ok hl
            have hg := line_goes hl
            have hB6 : Below w1.heap.size w1 w6 := HB.out.trans h4
            have hpe : 10 + min 40 l.length + 1 = (lineP l).length := hpl.symm
            clear h2 h4 hpl
            simp only [hpe]
            go_upto_region 16 with fail
            clear hpv hpe
            generalize lineP l = p at *
            generalize lineQ l = q at *
            have hlen_ : p.length ≤ 100000 := by rw [hp.len]; have := hp.few; omega
            have hpr := rprogram15V hp hg B' b' w6 hatp
            go_wp2_with fail
            refine hpr.mono ?_
            rintro e w7 ⟨N, rfl, hN0, hN1, hNr, hb7⟩
            clear hpr
            have hwz := Lib.hid (show w7.heap.size + 1 = (w7.alloc (.cells #[.int .i64 0, .int .i64 0, .int .i64 ((q.length : Int) + 1), .slice (some ⟨N, 0, none⟩) p.length p.length] 34)).heap.size by simp)
            have hV := heap1_0 w7 (.cells #[.int .i64 0, .int .i64 0, .int .i64 ((q.length : Int) + 1), .slice (some ⟨N, 0, none⟩) p.length p.length] 34)
            have v0 := boxc (k := 0) (u := .int .i64 0) hV rfl
            have v3 := boxc (k := 3) (u := .slice (some ⟨N, 0, none⟩) p.length p.length) hV rfl
            clear hV
            have hb8 : Below w6.heap.size w6 (w7.alloc (.cells #[.int .i64 0, .int .i64 0, .int .i64 ((q.length : Int) + 1), .slice (some ⟨N, 0, none⟩) p.length p.length] 34)) := hb7.alloc hb7.size _
            have hNn : SAt (w7.alloc (.cells #[.int .i64 0, .int .i64 0, .int .i64 ((q.length : Int) + 1), .slice (some ⟨N, 0, none⟩) p.length p.length] 34)) (w7.heap.size + 1) 10 (some ⟨N, 0, none⟩) (lineN q).length (notesV (lineN q)) := by
              refine ⟨notesV_length _, fun _ => ⟨N, 0, rfl, by omega, fun j u hu => ?_⟩⟩
              rw [lineN_V] at hu
              exact World.rangeAt_alloc hNr _ j u hu
            clear hNr hb7
            go_upto_region 17 with fail
            change Code.wp _ _ _ _ (w7.alloc (.cells #[.int .i64 0, .int .i64 0, .int .i64 ((q.length : Int) + 1), .slice (some ⟨N, 0, none⟩) p.length p.length] 34))
            generalize w7.alloc (.cells #[.int .i64 0, .int .i64 0, .int .i64 ((q.length : Int) + 1), .slice (some ⟨N, 0, none⟩) p.length p.length] 34) = w8 at *
            have hv0 := v0 _ (Below.refl _ _)
            have hv3 := v3 _ (Below.refl _ _)
            rw [hwz.out] at hNn
            have hed := fedits_any p hp.ok B' b' hlen_ (lineN q) (lineN_ok hp.lin) (some ⟨N, 0, none⟩) p.length (by rw [lineN_len]; have := hp.few; omega) w8 ((hatp.below hb8).more hb8.size) hNn
            rw [show (lineN q).length = p.length by rw [lineN_len, hp.len]] at hed
            have hel : (foldL p (lineN q)).length = p.length := by rw [line_edits hp, partG_length]
            go_wp2_with fail
            refine hed.mono ?_
            rintro e w9 ⟨E, ec, rfl, hatE, -, -, hb9⟩
            clear hed
            have hck := fun (w' : World) (hb : Below w9.heap.size w9 w') => rcheck_any p hp.ok B' b' hlen_ w' ((((hatp.below hb8).more hb8.size).below hb9 |>.more hb9.size).below hb |>.more hb.size)
            rw [hp.check] at hck
            have hnw := rnew11_nil B' p.length b' w9 hck
            rw [hel]
            go_wp2_with fail
            refine hnw.mono ?_
            rintro e w10 ⟨⟨M, mv, tv, dv, rfl, hM0, hMb⟩, hb10⟩
            clear hnw hck
            have hb89 : Below w8.heap.size w8 w9 := hb9
            have hatp9 := ((hatp.below hb8).more hb8.size).below hb9 |>.more hb9.size
            have hNn9 := (hNn.below hb9).more hb9.size
            have hv09 : ∀ w', Below w9.heap.size w9 w' → w'.cell? ⟨w7.heap.size, 0, none⟩ = some (.int .i64 0) := fun w' h => v0 w' (hb9.trans (h.mono hb9.size))
            have hv39 : ∀ w', Below w9.heap.size w9 w' → w'.cell? ⟨w7.heap.size, 3, none⟩ = some (.slice (some ⟨N, 0, none⟩) p.length p.length) := fun w' h => v3 w' (hb9.trans (h.mono hb9.size))
            have hW9 : Below w.heap.size w w9 := (hb1.trans (hB6.mono hb1.size)).trans ((hb8.trans (hb9.mono hb8.size)).mono (Nat.le_trans hb1.size hB6.size))
            clear hat hB6 hb8 hb9 hb89 v0 v3 hv0 hv3 hatp hNn HB hbs hi0 hz0 hz1 hz2 hN0 hN1 hwz hO1
            have hq1 : p.length = q.length + 1 := hp.len
            have HQ1 := Lib.hid hq1
            have hpl1 : (p.length : Int) - 1 = (q.length : Int) := by omega
            have hpl0 : (0 : Int) ≤ (q.length : Int) := by omega
            have hpl50 : (q.length : Int) ≤ 50 := by have := hp.few; omega
            clear hq1
            have hvv0 := hv09 _ hb10
            generalize hes : foldL p (lineN q) = es at *
            go_upto_region 22 with fail
            go_loopw [99] (fun k wr => ∃ (j : Nat) (K : List Value), j ≤ q.length ∧ k = .int .i64 j ∧ MK q (.slice B' p.length b') j K ∧ Blk wr M K ∧ Below w9.heap.size w9 wr) (fun k _ => q.length - (intOf k).toNat)
            case atStart => exact ⟨0, _, by omega, rfl, mk_start q _ mv tv dv, hMb, hb10⟩
            case round =>
              clear hMb hb10 hvv0
              obtain ⟨j, K, hj, rfl, hmk, hblk, hbr⟩ := hrel
              rcases Nat.lt_or_ge j q.length with hlt | hge
              · have e := hp.at_lt hlt
                have hx := hp.linq hlt
                have hrdy := hg.rdy j hlt
                have hsok := stR_ok hp.lin j (by omega)
                obtain ⟨d, hdd⟩ : ∃ d : Nat, (at' q j).dst = d := ⟨(at' q j).dst.toNat, by have := hx.dst0; omega⟩
                have hd : d < 11 := by have := hx.dst9; omega
                have hdt : (at' q j).dst.toNat = d := by omega
                obtain ⟨a, s, hka, hau, hks⟩ := hmk.reg d hd
                have hs : s = true ∨ opG (at' p j) = 176 := by
                  rw [e]
                  rcases hrdy with h | h
                  · rw [hdt] at h
                    have h2 := (hmk.num d _ hd (RV.num_of h).1).2
                    rw [hks] at h2
                    simp only [Option.some.injEq, Value.bool.injEq] at h2
                    exact .inl h2
                  · exact .inr h.1
                have hMA : ∀ b o, B' = some ⟨b, o, none⟩ → b ≠ M := by
                  intro b0 o0 h
                  obtain ⟨b1, o1, h1, h2, -⟩ := hatp9.2 (by have := HQ1.out; omega)
                  rw [h1] at h
                  simp only [Option.some.injEq, Addr.mk.injEq, and_true] at h
                  omega
                have hst := rstep11 hp B' b' j hlt M K hmk.len hmk.prog hmk.place hmk.over hmk.steps d hd (by rw [e]; exact hdd) a hau s hka hks hs wr ((hatp9.below hbr).more hbr.size) hMA hblk
                obtain ⟨hmk2, hval⟩ := hmk.next hsok hd hx hdd hrdy hka
                rw [e] at hst
                have hnu : U64 (resR (stR q j) (at' q j)) := res_u64 hsok hx
                have hn2 : (stR q (j + 1)).getD d .no = .num (resR (stR q j) (at' q j)) := by
                  rw [stR, stepR, hdt, getD_set (by rw [hsok.len]; exact hd), if_pos rfl]
                have hkn := (hmk2.num d _ hd hn2).1
                have hlaw := line_law hp hlt
                rw [hes, e] at hlaw
                obtain ⟨pb, po, rfl, hpb, D0, D1, D2, D3, D4⟩ := hatp9.insn (l := p) (k := j) (by have := HQ1.out; omega)
                rw [e] at D0 D1 D2 D3 D4
                have hatE9 := hatE
                obtain ⟨eb, eo, rfl, heb, e0, e1, e2, e3, e4, e5, e6⟩ := hatE9.edit (k := j) (by rw [← hes, line_edits hp, partG_length]; have := HQ1.out; omega)
                obtain ⟨nb, no, hne, hnb, y0, y1, y2, y3, y4, y5, y6, y7, y8, y9⟩ := hNn9.note (k := j) (by rw [lineN_len]; omega)
                rw [lineN_at hlt] at y0 y1 y2 y3 y4 y5 y6 y7 y8 y9
                simp only [Option.some.injEq, Addr.mk.injEq, and_true] at hne
                obtain ⟨rfl, rfl⟩ := hne
                simp only [noteQ] at y0 y1 y2 y3 y4 y5 y6 y7 y8 y9
                have hmq : movQ q j = ⟨183, (at' q j).dst, 0, 0, wrap32 (resR (stR q j) (at' q j))⟩ := rfl
                have hji : (j : Int) < (p.length : Int) := by have := HQ1.out; omega
                have HMK := Lib.hid hmk2
                rw [hdd] at D1
                have hp0 := D1
                have hxo := hx.src
                have hxf := hx.off
                rw [hxo] at D2
                rw [hxf] at D3
                have hpv : (at' q j).val = .agg #[.int .u8 (at' q j).op, .int .u8 d, .int .u8 0, .int .i16 0, .int .i32 (at' q j).imm] := by
                  show Value.agg #[.int .u8 (at' q j).op, .int .u8 (at' q j).dst, .int .u8 (at' q j).src, .int .i16 (at' q j).off, .int .i32 (at' q j).imm] = _
                  rw [hdd, hxo, hxf]
                have heq1 := eq_insn (at' q j) (movQ q j)
                rw [hpv] at heq1
                have heq2 := eq_edit (edAt es j) ⟨2, movQ q j, 0⟩
                rw [hmq, hdd] at heq1 heq2 hlaw
                simp only [Edit.val, Insn.val] at heq1 heq2
                have hkk := rfknown_k (resR (stR q j) (at' q j)) hnu
                have hsh := fun w => short_any (resR (stR q j) (at' q j)) hnu w
                clear hmk hka hks hs hMA hatE9 hmk2 hval hn2 hmq hpv hp0 hxo hxf hx hrdy hsok e hnb heb hpb hau
                generalize hb1_ : decide (at' q j = ⟨183, (d : Int), 0, 0, wrap32 (resR (stR q j) (at' q j))⟩) = bb1 at *
                generalize hb2_ : decide (edAt es j = ⟨2, ⟨183, (d : Int), 0, 0, wrap32 (resR (stR q j) (at' q j))⟩, 0⟩) = bb2 at *
                clear hb1_ hb2_
                have hcv : IntKind.i32.wrap (IntKind.u32.wrap (resR (stR q j) (at' q j))) = wrap32 (resR (stR q j) (at' q j)) := by
                  have h1 := hnu.1
                  have h2 := hnu.2
                  simp only [IntKind.wrap, IntKind.bits, IntKind.signed, wrap32]
                  simp
                  omega
                have hcv2 : wrap32 (IntKind.u32.wrap (resR (stR q j) (at' q j))) = wrap32 (resR (stR q j) (at' q j)) := by
                  have : IntKind.u32.wrap (resR (stR q j) (at' q j)) = resR (stR q j) (at' q j) % 4294967296 := by simp [IntKind.wrap, IntKind.bits, IntKind.signed]
                  rw [this]
                  unfold wrap32
                  omega
                have hcv3 : wrap32 (resR (stR q j) (at' q j) % 4294967296) = wrap32 (resR (stR q j) (at' q j)) := by unfold wrap32; omega
                generalize resR (stR q j) (at' q j) = n at *
                generalize (at' q j).op = x0 at *
                generalize (at' q j).imm = im at *
                generalize edAt es j = ed at *
                obtain ⟨k0, ⟨k1, k2, k3, k4, k5⟩, k6⟩ := ed
                simp only at e0 e1 e2 e3 e4 e5 e6 heq1 heq2
                go_upto_region 24 with fail
                go_wp2_with fail
                refine hst.mono ?_
                rintro e w11 ⟨rfl, hb11, hk11⟩
                clear hst
                have hr11 : Below w9.heap.size w9 w11 := hbr.trans (hk11.below (B := w9.heap.size) (fun k e => by have e : k = M := e; omega) hbr.size)
                clear hk11
                have HB11 := Lib.hid hb11
                have hcM := hb11.cell hkn
                clear hb11 hkn hblk
                have hcD := D1 _ hr11
                have hdi : (d : Int) < 11 := by omega
                go_upto_region 25 with fail
                go_quiet (fail)
                rename_i nq
                have hr12 : Below w9.heap.size w9 (w11.drewN nq) := below_drewN hr11 nq
                have HB12 : Hid (Blk (w11.drewN nq) M _) := Lib.hid (show Blk (w11.drewN nq) M _ from ⟨HB11.out.cells, HB11.out.free, HB11.out.lt⟩)
                clear hcM hcD HB11
                generalize w11.drewN nq = w12 at *
                have hcD := D1 _ hr12
                go_upto_region 27 with fail
                have hm13 := fun k v (hv : ([.int .u8 183, .int .u8 d, .int .u8 0, .int .i16 0, .int .i32 (wrap32 n)] : List Value)[k]? = some v) => boxc (k := k) (heap1_0 w12 (.cells #[.int .u8 183, .int .u8 d, .int .u8 0, .int .i16 0, .int .i32 (wrap32 n)] 27)) (by simpa using hv)
                have hr13 : Below w9.heap.size w9 (w12.alloc (.cells #[.int .u8 183, .int .u8 d, .int .u8 0, .int .i16 0, .int .i32 (wrap32 n)] 27)) := hr12.alloc hr12.size _
                have hB13 : Below w12.heap.size w12 (w12.alloc (.cells #[.int .u8 183, .int .u8 d, .int .u8 0, .int .i16 0, .int .i32 (wrap32 n)] 27)) := below_boxes1 _ _
                generalize w12.alloc (.cells #[.int .u8 183, .int .u8 d, .int .u8 0, .int .i16 0, .int .i32 (wrap32 n)] 27) = w13 at *
                have m0 := hm13 0 _ rfl
                have m1 := hm13 1 _ rfl
                have m2 := hm13 2 _ rfl
                have m3 := hm13 3 _ rfl
                have m4 := hm13 4 _ rfl
                clear hm13 hcD
                have hV3 := hv39 _ hr13
                have n4 : w13.cell? ⟨N, j * 10 + 3 + 1, none⟩ = some (.int .u64 n) := by rw [show j * 10 + 3 + 1 = 0 + j * 10 + 4 by omega]; exact y4 _ hr13
                have n5 : w13.cell? ⟨N, j * 10 + 3 + 1 + 1, none⟩ = some (.int .u64 0) := by rw [show j * 10 + 3 + 1 + 1 = 0 + j * 10 + 5 by omega]; exact y5 _ hr13
                have n6 : w13.cell? ⟨N, j * 10 + 3 + 1 + 2, none⟩ = some (.int .u64 n) := by rw [show j * 10 + 3 + 1 + 2 = 0 + j * 10 + 6 by omega]; exact y6 _ hr13
                have n7 : w13.cell? ⟨N, j * 10 + 3 + 1 + 3, none⟩ = some (.int .u64 n) := by rw [show j * 10 + 3 + 1 + 3 = 0 + j * 10 + 7 by omega]; exact y7 _ hr13
                go_wp2_with fail
                refine (hkk _).mono ?_
                rintro e w14 ⟨rfl, hb14⟩
                have hr14 := hr13.trans (hb14.mono hr13.size)
                have M0 := m0 _ hb14
                have M1 := m1 _ hb14
                have M2 := m2 _ hb14
                have M3 := m3 _ hb14
                have M4 := m4 _ hb14
                have hB14 := hB13.trans (hb14.mono hB13.size)
                clear hV3 n4 n5 n6 n7 hb14 m0 m1 m2 m3 m4 hkk
                have P0 := D0 _ hr14
                have P1 := D1 _ hr14
                have P2 := D2 _ hr14
                have P3 := D3 _ hr14
                have P4 := D4 _ hr14
                go_upto_region 30 with fail
                cases bb1
                · have E0 := e0 _ hr14
                  have E1 := e1 _ hr14
                  have E2 := e2 _ hr14
                  have E3 := e3 _ hr14
                  have E4 := e4 _ hr14
                  have E5 := e5 _ hr14
                  have E6 := e6 _ hr14
                  simp only [Bool.false_or] at hlaw
                  go_quiet (first | (go_at_call 10; exact Calls.quiet_of_same (hsh _)))
                  have hB15 := Lib.hid (fun nq2 => (show Blk (w14.drewN nq2) M _ from ⟨(HB12.out.below hB14).cells, (HB12.out.below hB14).free, (HB12.out.below hB14).lt⟩))
                  have HR := Lib.hid (fun nq2 => (show Below w9.heap.size w9 (w14.drewN nq2) from below_drewN hr14 nq2))
                  clear M0 M1 M2 M3 M4 P0 P1 P2 P3 P4
                  go_wp2_with fail
                  go_roundw
                  case rel => exact ⟨j + 1, _, by omega, by go_num, HMK.out, hB15.out _, HR.out _⟩
                  case measure => simp [intOf]; omega
                · simp only [Bool.true_or] at hlaw
                  replace hlaw := hlaw.symm
                  go_quiet (first | (go_at_call 10; exact Calls.quiet_of_same (hsh _)))
                  have hB15 := Lib.hid (fun nq2 => (show Blk (w14.drewN nq2) M _ from ⟨(HB12.out.below hB14).cells, (HB12.out.below hB14).free, (HB12.out.below hB14).lt⟩))
                  have HR := Lib.hid (fun nq2 => (show Below w9.heap.size w9 (w14.drewN nq2) from below_drewN hr14 nq2))
                  clear M0 M1 M2 M3 M4 P0 P1 P2 P3 P4
                  go_wp2_with fail
                  go_roundw
                  case rel => exact ⟨j + 1, _, by omega, by go_num, HMK.out, hB15.out _, HR.out _⟩
                  case measure => simp [intOf]; omega
              · obtain rfl : j = q.length := by omega
                obtain ⟨pb, po, rfl, hpb, D0, D1, D2, D3, D4⟩ := hatp9.insn (l := p) (k := q.length) (by have := HQ1.out; omega)
                rw [hp.at_end] at D0 D1 D2 D3 D4
                have hel2 : es.length = p.length := by rw [← hes, line_edits hp, partG_length]
                obtain ⟨eb, eo, rfl, heb, e0, e1, e2, e3, e4, e5, e6⟩ := hatE.edit (k := q.length) (by rw [hel2]; have := HQ1.out; omega)
                have hend := line_edit_end hp
                rw [hes] at hend
                rw [hend] at e0 e1 e2 e3 e4 e5 e6
                have d0 := D0 _ hbr
                have d1 := D1 _ hbr
                have d2 := D2 _ hbr
                have d3 := D3 _ hbr
                have d4 := D4 _ hbr
                have hse := rsem_P3_2
                have hjl : (q.length : Int) < (p.length : Int) := by have := HQ1.out; omega
                have heq := eq_edit Edit.none Edit.none
                simp only [decide_true, Edit.val, Edit.none, Insn.zero] at heq
                clear hmk hblk hge hj hend hel2
                go_upto_region 33 with fail
                go_wp2_with fail
                refine (hse _).mono ?_
                rintro e w11 ⟨rfl, hb11⟩
                have hr11 := hbr.trans (hb11.mono hbr.size)
                have hb12 := heap1_0 w11 (.cells #[.int .u8 12, .int .u8 0, .bool false, .bool false, .bool false, .int .i64 0] 73)
                have c0 := boxc (k := 0) (u := .int .u8 12) hb12 rfl _ (Below.refl _ _)
                have hr12 : Below w9.heap.size w9 (w11.alloc (.cells #[.int .u8 12, .int .u8 0, .bool false, .bool false, .bool false, .int .i64 0] 73)) := hr11.alloc hr11.size _
                clear hb12 d0 d1 d2 d3 d4 hb11
                go_upto_region 34 with fail
                generalize w11.alloc (.cells #[.int .u8 12, .int .u8 0, .bool false, .bool false, .bool false, .int .i64 0] 73) = w12 at *
                have E0 := e0 _ hr12
                have E1 := e1 _ hr12
                have E2 := e2 _ hr12
                have E3 := e3 _ hr12
                have E4 := e4 _ hr12
                have E5 := e5 _ hr12
                have E6 := e6 _ hr12
                go_wp2_with fail
                go_ret
                exact ⟨rfl, hW9.trans (hr12.mono hW9.size)⟩
end Go.Proofs.YtncogaikiceidaaGreat
end
