/- A look at a program of plain arithmetic. No statement is proved here. -/
import Derived.Test.YtncogaikiceidaaGreatLineB
import Derived.Deep.OwnRows
namespace Go.Proofs.YtncogaikiceidaaGreat
open Go.RowKit
set_option linter.unusedSimpArgs false
set_option linter.unusedVariables false
set_option linter.unnecessarySimpa false
section
abbrev lookPL (p : List Insn) (Ad : Option Addr) (c Jb Jo cj : Nat) (kp : Value) (N : Nat) (steps : Int) : List Value := [.slice Ad p.length c, .slice none 0 0, .int .i64 0, .slice (some ⟨Jb, Jo, none⟩) p.length cj, kp, .int .i64 0, .int .i64 0, .int .i64 steps, .slice (some ⟨N, 0, none⟩) p.length p.length]
/-- What the look of the closed run holds: its block L, the notes' block N behind it, the program, no joint. -/
structure LookP (w : World) (p : List Insn) (Ad : Option Addr) (c Jb Jo cj : Nat) (kp : Value) (L N : Nat) (steps : Int) (notes : List Value) : Prop where
  ln : L < N
  nw : N < w.heap.size
  look : w.rangeAt L 0 (lookPL p Ad c Jb Jo cj kp N steps)
  lookF : ∀ k, w.frozen? ⟨L, k, none⟩ = false
  nts : w.rangeAt N 0 notes
  ntsF : ∀ k, w.frozen? ⟨N, k, none⟩ = false
  hat : SAt w L 5 Ad p.length (insnsV p)
  jlt : Jb < L
  joint : ∀ k, k < p.length → w.cell? ⟨Jb, Jo + k, none⟩ = some (.bool false)
section
variable {w Y : World} {p : List Insn} {Ad : Option Addr} {c Jb Jo cj : Nat} {kp : Value} {L N : Nat} {steps : Int} {notes A B C : List Value}
theorem LookP.ls (h : LookP w p Ad c Jb Jo cj kp L N steps notes) : L < w.heap.size := Nat.lt_trans h.ln h.nw
theorem LookP.js (h : LookP w p Ad c Jb Jo cj kp L N steps notes) : Jb < w.heap.size := Nat.lt_trans h.jlt h.ls
theorem LookP.below (h : LookP w p Ad c Jb Jo cj kp L N steps notes) (hb : Below w.heap.size w Y) : LookP Y p Ad c Jb Jo cj kp L N steps notes where
  ln := h.ln
  nw := Nat.lt_of_lt_of_le h.nw hb.size
  look := range_below h.look hb h.ls
  lookF := fun k => (hb.frozen (p := ⟨L, k, none⟩) h.ls).trans (h.lookF k)
  nts := range_below h.nts hb h.nw
  ntsF := fun k => (hb.frozen (p := ⟨N, k, none⟩) h.nw).trans (h.ntsF k)
  hat := h.hat.below (hb.mono (Nat.le_of_lt h.ls))
  jlt := h.jlt
  joint := fun k hk => (hb.cell (p := ⟨Jb, Jo + k, none⟩) h.js).trans (h.joint k hk)
theorem LookP.put (h : LookP w p Ad c Jb Jo cj kp L N steps (A ++ (B ++ C))) (hb : Below w.heap.size w Y) (vs : List Value) (hl : vs.length = B.length) :
    LookP (Y.setCells N A.length vs) p Ad c Jb Jo cj kp L N steps (A ++ (vs ++ C)) ∧ Below L w (Y.setCells N A.length vs) := by
  have h1 := h.below hb
  have hbL : Below L w (Y.setCells N A.length vs) := below_setCells N (Nat.le_of_lt h.ln) vs _ (hb.mono (Nat.le_of_lt h.ls))
  refine ⟨⟨h.ln, ?_, World.rangeAt_setCells_apart h1.look _ _ _ (.inl (by have := h.ln; omega)), fun k => by rw [World.frozen?_setCells]; exact h1.lookF k, range_put h1.nts hl, fun k => by rw [World.frozen?_setCells]; exact h1.ntsF k, h.hat.below hbL, h.jlt, fun k hk => by rw [hbL.cell (p := ⟨Jb, Jo + k, none⟩) h.jlt]; exact h.joint k hk⟩, hbL⟩
  exact Nat.lt_of_lt_of_le h1.nw (below_setCells (B := 0) (a := Y) N (Nat.zero_le _) vs _ (Below.refl _ _)).size
theorem LookP.count (h : LookP w p Ad c Jb Jo cj kp L N steps notes) (hb : Below w.heap.size w Y) (t : Int) :
    LookP (Y.setCell ⟨L, 7, none⟩ (.int .i64 t)) p Ad c Jb Jo cj kp L N t notes ∧ Below L w (Y.setCell ⟨L, 7, none⟩ (.int .i64 t)) := by
  have h1 := h.below hb
  have hbL : Below L w (Y.setCell ⟨L, 7, none⟩ (.int .i64 t)) := Below.setCell (hb.mono (Nat.le_of_lt h.ls)) (Nat.le_refl _) _
  have e : Y.setCell ⟨L, 7, none⟩ (.int .i64 t) = Y.setCells L 7 [.int .i64 t] := rfl
  refine ⟨⟨h.ln, ?_, ?_, fun k => by rw [e, World.frozen?_setCells]; exact h1.lookF k, ?_, fun k => by rw [e, World.frozen?_setCells]; exact h1.ntsF k, h.hat.below hbL, h.jlt, fun k hk => by rw [hbL.cell (p := ⟨Jb, Jo + k, none⟩) h.jlt]; exact h.joint k hk⟩, hbL⟩
  · rw [e]; exact Nat.lt_of_lt_of_le h1.nw (below_setCells (B := 0) (a := Y) L (Nat.zero_le _) _ _ (Below.refl _ _)).size
  · rw [e]
    have := range_put (W := Y) (b := L) (A := [.slice Ad p.length c, .slice none 0 0, .int .i64 0, .slice (some ⟨Jb, Jo, none⟩) p.length cj, kp, .int .i64 0, .int .i64 0]) (B := [.int .i64 steps]) (C := [.slice (some ⟨N, 0, none⟩) p.length p.length]) (vs := [.int .i64 t]) h1.look rfl
    exact this
  · rw [e]; exact World.rangeAt_setCells_apart h1.nts _ _ _ (.inl (by have := h.ln; omega))
end


end

section
attribute [local go_sem ↓] ldFrom_589 ldFrom_604 mkS89_eq mkW94_eq mkW108_eq
set_option maxRecDepth 100000 in
set_option maxHeartbeats 4000000 in
theorem rnote15V {p q : List Insn} (hp : Line p q) (Ad : Option Addr) (c Jb Jo cj : Nat) (kp : Value) (L N : Nat) (steps : Int) (j : Nat) (hj : j < q.length) (A_ C_ : List Value) (hA : A_.length = j * 10) (w : World) (hk : LookP w p Ad c Jb Jo cj kp L N steps (A_ ++ ([.bool false, .bool false, .bool false, .int .u8 0, .int .u64 0, .int .u64 0, .int .u64 0, .int .u64 0, .int .i64 0, .int .i64 0] ++ C_))) (b : Nat) (hb : b < w.heap.size) (rs : List RV) (hrl : rs.length = 11) (n : Int) (hrn : rs.getD (at' p j).dst.toNat .no = .num n) (hr : w.rangeAt b 0 (.int .i64 ((j + 1 : Nat) : Int) :: stV rs)) :
    Calls Tryz.prog 38 #[.pointer (some ⟨L, 0, none⟩), .int .i64 j, .slice (some ⟨b, 0, none⟩) 1 1] w fun e w' => e = .returned (.tuple #[]) ∧ LookP w' p Ad c Jb Jo cj kp L N steps (A_ ++ ([.bool true, .bool false, .bool false, .int .u8 1, .int .u64 n, .int .u64 0, .int .u64 n, .int .u64 n, .int .i64 0, .int .i64 0] ++ C_)) ∧ Below L w w' ∧ ∀ k, k < w.heap.size → k ≠ N → w'.heap[k]? = w.heap[k]? := by
  have hlen_ : p.length ≤ 100000 := by rw [hp.len]; have := hp.few; omega
  have hjp : j < p.length := by rw [hp.len]; omega
  have hx := hp.lin_at hj
  have hrs := fun (w1 : World) (hb1 : Below w.heap.size w w1) => rresult14V hp Ad c j hj b rs hrl n hrn w1 ((hk.hat.below (hb1.mono (Nat.le_of_lt hk.ls))).more (Nat.le_trans (Nat.le_of_lt hk.ls) hb1.size)) (Nat.lt_of_lt_of_le hb hb1.size) (fun k u hu => by rw [hb1.cell (p := ⟨b, 0 + k, none⟩) hb]; exact hr k u hu)
  have htg := fun (w1 : World) (hb1 : Below w.heap.size w w1) => rtarget_any p hp.ok Ad c hlen_ (j : Int) (by omega) (by omega) w1 ((hk.hat.below (hb1.mono (Nat.le_of_lt hk.ls))).more (Nat.le_trans (Nat.le_of_lt hk.ls) hb1.size))
  rw [hp.target hjp] at htg
  simp only at htg
  have hse := fun (w1 : World) => rsem_any (at' p j) hx.ok w1
  rw [hx.sem_eq] at hse
  have hdd : (at' p j).dst = (((at' p j).dst.toNat : Nat) : Int) := by have := hx.dst0; omega
  have hjm : (j : Int) < (p.length : Int) := by omega
  have hj0 : (0 : Int) ≤ (j : Int) := by omega
  have hsr := hx.src
  have hof := hx.off
  have hval : (at' p j).val = .agg #[.int .u8 (at' p j).op, .int .u8 (((at' p j).dst.toNat : Nat) : Int), .int .u8 0, .int .i16 0, .int .i32 (at' p j).imm] := by
    show Value.agg #[.int .u8 (at' p j).op, .int .u8 (at' p j).dst, .int .u8 (at' p j).src, .int .i16 (at' p j).off, .int .i32 (at' p j).imm] = _
    rw [← hdd, hsr, hof]
  rw [hval] at hse
  have HLK := Lib.hid hk
  have hlen := hk.look 8 _ rfl
  have hl0 := hk.look 0 _ rfl
  have hfN := hk.ntsF
  simp only [Nat.zero_add] at hlen hl0
  have n0 := hk.nts (j * 10) (.bool false) (by rw [List.getElem?_append_right (by omega), hA, show j * 10 - j * 10 = 0 by omega]; rfl)
  have n1 := hk.nts (j * 10 + 1) (.bool false) (by rw [List.getElem?_append_right (by omega), hA, show j * 10 + 1 - j * 10 = 1 by omega]; rfl)
  have n2 := hk.nts (j * 10 + 2) (.bool false) (by rw [List.getElem?_append_right (by omega), hA, show j * 10 + 2 - j * 10 = 2 by omega]; rfl)
  have n3 := hk.nts (j * 10 + 3) (.int .u8 0) (by rw [List.getElem?_append_right (by omega), hA, show j * 10 + 3 - j * 10 = 3 by omega]; rfl)
  have n4 := hk.nts (j * 10 + 4) (.int .u64 0) (by rw [List.getElem?_append_right (by omega), hA, show j * 10 + 4 - j * 10 = 4 by omega]; rfl)
  have n5 := hk.nts (j * 10 + 5) (.int .u64 0) (by rw [List.getElem?_append_right (by omega), hA, show j * 10 + 5 - j * 10 = 5 by omega]; rfl)
  have n6 := hk.nts (j * 10 + 6) (.int .u64 0) (by rw [List.getElem?_append_right (by omega), hA, show j * 10 + 6 - j * 10 = 6 by omega]; rfl)
  have n7 := hk.nts (j * 10 + 7) (.int .u64 0) (by rw [List.getElem?_append_right (by omega), hA, show j * 10 + 7 - j * 10 = 7 by omega]; rfl)
  have n8 := hk.nts (j * 10 + 8) (.int .i64 0) (by rw [List.getElem?_append_right (by omega), hA, show j * 10 + 8 - j * 10 = 8 by omega]; rfl)
  have n9 := hk.nts (j * 10 + 9) (.int .i64 0) (by rw [List.getElem?_append_right (by omega), hA, show j * 10 + 9 - j * 10 = 9 by omega]; rfl)
  simp only [Nat.zero_add] at n0 n1 n2 n3 n4 n5 n6 n7 n8 n9
  have hat1 := hk.hat.more (Nat.le_of_lt hk.ls)
  have hls := hk.ls
  have hnw := hk.nw
  replace hlen := fun w' (h : Below w.heap.size w w') => (h.cell (p := ⟨L, 8, none⟩) hls).trans hlen
  replace hl0 := fun w' (h : Below w.heap.size w w') => (h.cell (p := ⟨L, 0, none⟩) hls).trans hl0
  replace n0 := fun w' (h : Below w.heap.size w w') => (h.cell (p := ⟨N, j * 10, none⟩) hnw).trans n0
  replace n1 := fun w' (h : Below w.heap.size w w') => (h.cell (p := ⟨N, j * 10 + 1, none⟩) hnw).trans n1
  replace n2 := fun w' (h : Below w.heap.size w w') => (h.cell (p := ⟨N, j * 10 + 2, none⟩) hnw).trans n2
  replace n3 := fun w' (h : Below w.heap.size w w') => (h.cell (p := ⟨N, j * 10 + 3, none⟩) hnw).trans n3
  replace n4 := fun w' (h : Below w.heap.size w w') => (h.cell (p := ⟨N, j * 10 + 4, none⟩) hnw).trans n4
  replace n5 := fun w' (h : Below w.heap.size w w') => (h.cell (p := ⟨N, j * 10 + 5, none⟩) hnw).trans n5
  replace n6 := fun w' (h : Below w.heap.size w w') => (h.cell (p := ⟨N, j * 10 + 6, none⟩) hnw).trans n6
  replace n7 := fun w' (h : Below w.heap.size w w') => (h.cell (p := ⟨N, j * 10 + 7, none⟩) hnw).trans n7
  replace n8 := fun w' (h : Below w.heap.size w w') => (h.cell (p := ⟨N, j * 10 + 8, none⟩) hnw).trans n8
  replace n9 := fun w' (h : Below w.heap.size w w') => (h.cell (p := ⟨N, j * 10 + 9, none⟩) hnw).trans n9
  replace hfN := fun k w' (h : Below w.heap.size w w') => (h.frozen (p := ⟨N, k, none⟩) hnw).trans (hfN k)
  obtain ⟨q_, o, rfl, hbb, D0, D1, D2, D3, D4⟩ := hat1.insn (l := p) (k := j) hjp
  rw [hdd] at D1
  rw [hsr] at D2
  rw [hof] at D3
  clear hdd hsr hof hval hx hrn hk hat1 hls hnw hr hb
  generalize (at' p j).dst.toNat = d at *
  generalize hopg : opG (at' p j) = op at *
  generalize hopw : opW (at' p j) = wd at *
  clear hopg hopw
  generalize (at' p j).op = x0 at *
  generalize (at' p j).imm = im at *
  have HAL := Lib.hid hA
  clear hp hA
  have hrf := Below.refl w.heap.size w
  go_enter Tryz.func38, Tryz.ntmps38
  go_upto_region 1 with fail
  have hU : Below w.heap.size w (w.alloc (.cells #[.bool false, .bool false, .bool false, .int .u8 0, .int .u64 0, .int .u64 0, .int .u64 0, .int .u64 0, .int .i64 0, .int .i64 0] 68)) := below_boxes1 _ _
  have y0 := boxc (k := 0) (u := .bool false) (heap1_0 w (.cells #[.bool false, .bool false, .bool false, .int .u8 0, .int .u64 0, .int .u64 0, .int .u64 0, .int .u64 0, .int .i64 0, .int .i64 0] 68)) rfl
  have y1 := boxc (k := 1) (u := .bool false) (heap1_0 w (.cells #[.bool false, .bool false, .bool false, .int .u8 0, .int .u64 0, .int .u64 0, .int .u64 0, .int .u64 0, .int .i64 0, .int .i64 0] 68)) rfl
  have y2 := boxc (k := 2) (u := .bool false) (heap1_0 w (.cells #[.bool false, .bool false, .bool false, .int .u8 0, .int .u64 0, .int .u64 0, .int .u64 0, .int .u64 0, .int .i64 0, .int .i64 0] 68)) rfl
  have y3 := boxc (k := 3) (u := .int .u8 0) (heap1_0 w (.cells #[.bool false, .bool false, .bool false, .int .u8 0, .int .u64 0, .int .u64 0, .int .u64 0, .int .u64 0, .int .i64 0, .int .i64 0] 68)) rfl
  have y4 := boxc (k := 4) (u := .int .u64 0) (heap1_0 w (.cells #[.bool false, .bool false, .bool false, .int .u8 0, .int .u64 0, .int .u64 0, .int .u64 0, .int .u64 0, .int .i64 0, .int .i64 0] 68)) rfl
  have y5 := boxc (k := 5) (u := .int .u64 0) (heap1_0 w (.cells #[.bool false, .bool false, .bool false, .int .u8 0, .int .u64 0, .int .u64 0, .int .u64 0, .int .u64 0, .int .i64 0, .int .i64 0] 68)) rfl
  have y6 := boxc (k := 6) (u := .int .u64 0) (heap1_0 w (.cells #[.bool false, .bool false, .bool false, .int .u8 0, .int .u64 0, .int .u64 0, .int .u64 0, .int .u64 0, .int .i64 0, .int .i64 0] 68)) rfl
  have y7 := boxc (k := 7) (u := .int .u64 0) (heap1_0 w (.cells #[.bool false, .bool false, .bool false, .int .u8 0, .int .u64 0, .int .u64 0, .int .u64 0, .int .u64 0, .int .i64 0, .int .i64 0] 68)) rfl
  have y8 := boxc (k := 8) (u := .int .i64 0) (heap1_0 w (.cells #[.bool false, .bool false, .bool false, .int .u8 0, .int .u64 0, .int .u64 0, .int .u64 0, .int .u64 0, .int .i64 0, .int .i64 0] 68)) rfl
  have y9 := boxc (k := 9) (u := .int .i64 0) (heap1_0 w (.cells #[.bool false, .bool false, .bool false, .int .u8 0, .int .u64 0, .int .u64 0, .int .u64 0, .int .u64 0, .int .i64 0, .int .i64 0] 68)) rfl
  have ty := boxt (heap1_0 w (.cells #[.bool false, .bool false, .bool false, .int .u8 0, .int .u64 0, .int .u64 0, .int .u64 0, .int .u64 0, .int .i64 0, .int .i64 0] 68))
  have hUs : (w.alloc (.cells #[.bool false, .bool false, .bool false, .int .u8 0, .int .u64 0, .int .u64 0, .int .u64 0, .int .u64 0, .int .i64 0, .int .i64 0] 68)).heap.size = w.heap.size + 1 := by simp
  have hUr : World.rangeAt (w.alloc (.cells #[.bool false, .bool false, .bool false, .int .u8 0, .int .u64 0, .int .u64 0, .int .u64 0, .int .u64 0, .int .i64 0, .int .i64 0] 68)) w.heap.size 0 [.bool false, .bool false, .bool false, .int .u8 0, .int .u64 0, .int .u64 0, .int .u64 0, .int .u64 0, .int .i64 0, .int .i64 0] := range_of_block (heap1_0 w _)
  generalize w.alloc (.cells #[.bool false, .bool false, .bool false, .int .u8 0, .int .u64 0, .int .u64 0, .int .u64 0, .int .u64 0, .int .i64 0, .int .i64 0] 68) = U at *
  go_wp2_with fail
  refine (hrs _ hU).mono ?_
  rintro e w1 ⟨rfl, hc1⟩
  have hb1 := hU.trans (hc1.mono hU.size)
  have hu1 : Below U.heap.size U w1 := hc1
  clear hc1
  go_upto_region 2 with fail
  have hT : Below w.heap.size w (w1.alloc (.cells #[.int .u8 1, .int .u64 n, .int .u64 0, .int .u64 n, .int .u64 n, .int .i64 0, .int .i64 0] 66)) := hb1.alloc hb1.size _
  have hTu : Below U.heap.size U (w1.alloc (.cells #[.int .u8 1, .int .u64 n, .int .u64 0, .int .u64 n, .int .u64 n, .int .i64 0, .int .i64 0] 66)) := hu1.alloc hu1.size _
  have x0 := boxc (k := 0) (u := .int .u8 1) (heap1_0 w1 (.cells #[.int .u8 1, .int .u64 n, .int .u64 0, .int .u64 n, .int .u64 n, .int .i64 0, .int .i64 0] 66)) rfl _ (Below.refl _ _)
  have x1 := boxc (k := 1) (u := .int .u64 n) (heap1_0 w1 (.cells #[.int .u8 1, .int .u64 n, .int .u64 0, .int .u64 n, .int .u64 n, .int .i64 0, .int .i64 0] 66)) rfl _ (Below.refl _ _)
  have x2 := boxc (k := 2) (u := .int .u64 0) (heap1_0 w1 (.cells #[.int .u8 1, .int .u64 n, .int .u64 0, .int .u64 n, .int .u64 n, .int .i64 0, .int .i64 0] 66)) rfl _ (Below.refl _ _)
  have x3 := boxc (k := 3) (u := .int .u64 n) (heap1_0 w1 (.cells #[.int .u8 1, .int .u64 n, .int .u64 0, .int .u64 n, .int .u64 n, .int .i64 0, .int .i64 0] 66)) rfl _ (Below.refl _ _)
  have x4 := boxc (k := 4) (u := .int .u64 n) (heap1_0 w1 (.cells #[.int .u8 1, .int .u64 n, .int .u64 0, .int .u64 n, .int .u64 n, .int .i64 0, .int .i64 0] 66)) rfl _ (Below.refl _ _)
  have x5 := boxc (k := 5) (u := .int .i64 0) (heap1_0 w1 (.cells #[.int .u8 1, .int .u64 n, .int .u64 0, .int .u64 n, .int .u64 n, .int .i64 0, .int .i64 0] 66)) rfl _ (Below.refl _ _)
  have x6 := boxc (k := 6) (u := .int .i64 0) (heap1_0 w1 (.cells #[.int .u8 1, .int .u64 n, .int .u64 0, .int .u64 n, .int .u64 n, .int .i64 0, .int .i64 0] 66)) rfl _ (Below.refl _ _)
  generalize w1.alloc (.cells #[.int .u8 1, .int .u64 n, .int .u64 0, .int .u64 n, .int .u64 n, .int .i64 0, .int .i64 0] 66) = T at *
  have Y0 := y0 _ hTu
  have Y1 := y1 _ hTu
  have Y2 := y2 _ hTu
  have Y3 := y3 _ hTu
  have Y4 := y4 _ hTu
  have Y5 := y5 _ hTu
  have Y6 := y6 _ hTu
  have Y7 := y7 _ hTu
  have Y8 := y8 _ hTu
  have Y9 := y9 _ hTu
  have tY := fun k => ty k _ hTu
  clear ty y0 y1 y2 y3 y4 y5 y6 y7 y8 y9
  have hTr := range_below hUr hTu (by rw [hUs]; omega)
  clear hUr
  go_upto_region 7 with fail
  clear Y0 Y1 Y2 Y3 Y4 Y5 Y6 Y7 Y8 Y9 tY x0 x1 x2 x3 x4 x5 x6
  have hX : Below w.heap.size w (((((((((T).setCell ⟨w.heap.size, 3, none⟩ (.int .u8 1)).setCell ⟨w.heap.size, 4, none⟩ (.int .u64 n)).setCell ⟨w.heap.size, 5, none⟩ (.int .u64 0)).setCell ⟨w.heap.size, 6, none⟩ (.int .u64 n)).setCell ⟨w.heap.size, 7, none⟩ (.int .u64 n)).setCell ⟨w.heap.size, 8, none⟩ (.int .i64 0)).setCell ⟨w.heap.size, 9, none⟩ (.int .i64 0)).setCell ⟨w.heap.size, 0, none⟩ (.bool true)) := below_setCells w.heap.size (Nat.le_refl _) [.bool true] 0 (below_setCells w.heap.size (Nat.le_refl _) [.int .u8 1, .int .u64 n, .int .u64 0, .int .u64 n, .int .u64 n, .int .i64 0, .int .i64 0] 3 hT)
  have hXr : World.rangeAt (((((((((T).setCell ⟨w.heap.size, 3, none⟩ (.int .u8 1)).setCell ⟨w.heap.size, 4, none⟩ (.int .u64 n)).setCell ⟨w.heap.size, 5, none⟩ (.int .u64 0)).setCell ⟨w.heap.size, 6, none⟩ (.int .u64 n)).setCell ⟨w.heap.size, 7, none⟩ (.int .u64 n)).setCell ⟨w.heap.size, 8, none⟩ (.int .i64 0)).setCell ⟨w.heap.size, 9, none⟩ (.int .i64 0)).setCell ⟨w.heap.size, 0, none⟩ (.bool true)) w.heap.size 0 [.bool true, .bool false, .bool false, .int .u8 1, .int .u64 n, .int .u64 0, .int .u64 n, .int .u64 n, .int .i64 0, .int .i64 0] := range_put (A := []) (B := [.bool false]) (C := [.bool false, .bool false, .int .u8 1, .int .u64 n, .int .u64 0, .int .u64 n, .int .u64 n, .int .i64 0, .int .i64 0]) (vs := [.bool true]) (range_put (A := [.bool false, .bool false, .bool false]) (B := [.int .u8 0, .int .u64 0, .int .u64 0, .int .u64 0, .int .u64 0, .int .i64 0, .int .i64 0]) (C := []) (vs := [.int .u8 1, .int .u64 n, .int .u64 0, .int .u64 n, .int .u64 n, .int .i64 0, .int .i64 0]) hTr rfl) rfl
  have hXs : w.heap.size < (((((((((T).setCell ⟨w.heap.size, 3, none⟩ (.int .u8 1)).setCell ⟨w.heap.size, 4, none⟩ (.int .u64 n)).setCell ⟨w.heap.size, 5, none⟩ (.int .u64 0)).setCell ⟨w.heap.size, 6, none⟩ (.int .u64 n)).setCell ⟨w.heap.size, 7, none⟩ (.int .u64 n)).setCell ⟨w.heap.size, 8, none⟩ (.int .i64 0)).setCell ⟨w.heap.size, 9, none⟩ (.int .i64 0)).setCell ⟨w.heap.size, 0, none⟩ (.bool true)).heap.size := Nat.lt_of_lt_of_le (by have := hTu.size; omega) (below_setCells (B := 0) (a := T) w.heap.size (Nat.zero_le _) [.bool true] 0 (below_setCells w.heap.size (Nat.zero_le _) [.int .u8 1, .int .u64 n, .int .u64 0, .int .u64 n, .int .u64 n, .int .i64 0, .int .i64 0] 3 (Below.refl 0 T))).size
  generalize ((((((((T).setCell ⟨w.heap.size, 3, none⟩ (.int .u8 1)).setCell ⟨w.heap.size, 4, none⟩ (.int .u64 n)).setCell ⟨w.heap.size, 5, none⟩ (.int .u64 0)).setCell ⟨w.heap.size, 6, none⟩ (.int .u64 n)).setCell ⟨w.heap.size, 7, none⟩ (.int .u64 n)).setCell ⟨w.heap.size, 8, none⟩ (.int .i64 0)).setCell ⟨w.heap.size, 9, none⟩ (.int .i64 0)).setCell ⟨w.heap.size, 0, none⟩ (.bool true) = X at *
  clear hTr hTu hT hu1 hb1 hU hUs
  have v0 : ∀ w', Below X.heap.size X w' → w'.cell? ⟨w.heap.size, 0, none⟩ = some (.bool true) := fun w' h => by have := range_below hXr h hXs 0 _ rfl; rwa [Nat.zero_add] at this
  have v1 : ∀ w', Below X.heap.size X w' → w'.cell? ⟨w.heap.size, 1, none⟩ = some (.bool false) := fun w' h => by have := range_below hXr h hXs 1 _ rfl; rwa [Nat.zero_add] at this
  have v2 : ∀ w', Below X.heap.size X w' → w'.cell? ⟨w.heap.size, 2, none⟩ = some (.bool false) := fun w' h => by have := range_below hXr h hXs 2 _ rfl; rwa [Nat.zero_add] at this
  have v3 : ∀ w', Below X.heap.size X w' → w'.cell? ⟨w.heap.size, 3, none⟩ = some (.int .u8 1) := fun w' h => by have := range_below hXr h hXs 3 _ rfl; rwa [Nat.zero_add] at this
  have v4 : ∀ w', Below X.heap.size X w' → w'.cell? ⟨w.heap.size, 4, none⟩ = some (.int .u64 n) := fun w' h => by have := range_below hXr h hXs 4 _ rfl; rwa [Nat.zero_add] at this
  have v5 : ∀ w', Below X.heap.size X w' → w'.cell? ⟨w.heap.size, 5, none⟩ = some (.int .u64 0) := fun w' h => by have := range_below hXr h hXs 5 _ rfl; rwa [Nat.zero_add] at this
  have v6 : ∀ w', Below X.heap.size X w' → w'.cell? ⟨w.heap.size, 6, none⟩ = some (.int .u64 n) := fun w' h => by have := range_below hXr h hXs 6 _ rfl; rwa [Nat.zero_add] at this
  have v7 : ∀ w', Below X.heap.size X w' → w'.cell? ⟨w.heap.size, 7, none⟩ = some (.int .u64 n) := fun w' h => by have := range_below hXr h hXs 7 _ rfl; rwa [Nat.zero_add] at this
  have v8 : ∀ w', Below X.heap.size X w' → w'.cell? ⟨w.heap.size, 8, none⟩ = some (.int .i64 0) := fun w' h => by have := range_below hXr h hXs 8 _ rfl; rwa [Nat.zero_add] at this
  have v9 : ∀ w', Below X.heap.size X w' → w'.cell? ⟨w.heap.size, 9, none⟩ = some (.int .i64 0) := fun w' h => by have := range_below hXr h hXs 9 _ rfl; rwa [Nat.zero_add] at this
  clear hXr
  go_wp2_with fail
  refine (hse _).mono ?_
  rintro e w3 ⟨rfl, hc3⟩
  have hb3 := hX.trans (hc3.mono hX.size)
  have hx3 : Below X.heap.size X w3 := hc3
  clear hc3
  go_upto_region 8 with fail
  have hR : Below w.heap.size w (w3.alloc (.cells #[.int .u8 1, .int .u8 op, .bool wd, .bool false, .bool false, .int .i64 0] 73)) := hb3.alloc hb3.size _
  have hRx : Below X.heap.size X (w3.alloc (.cells #[.int .u8 1, .int .u8 op, .bool wd, .bool false, .bool false, .int .i64 0] 73)) := hx3.alloc hx3.size _
  have r0 := boxc (k := 0) (u := .int .u8 1) (heap1_0 w3 (.cells #[.int .u8 1, .int .u8 op, .bool wd, .bool false, .bool false, .int .i64 0] 73)) rfl
  generalize w3.alloc (.cells #[.int .u8 1, .int .u8 op, .bool wd, .bool false, .bool false, .int .i64 0] 73) = R at *
  go_wp2_with fail
  refine (htg _ hR).mono ?_
  rintro e w4 ⟨rfl, hc4⟩
  have hb4 := hR.trans (hc4.mono hR.size)
  have hx4 := hRx.trans (hc4.mono hRx.size)
  have r0_ := r0 _ hc4
  clear hc4 r0
  go_wp2_with fail
  go_loopw [13] (fun k wr => k = .int .i64 0 ∧ wr = w4) (fun k _ => 0)
  case atStart => exact ⟨rfl, rfl⟩
  case round =>
    obtain ⟨rfl, rfl⟩ := hrel
    go_upto_region 14 with fail
    have V0 := v0 _ hx4
    have V1 := v1 _ hx4
    have V2 := v2 _ hx4
    have V3 := v3 _ hx4
    have V4 := v4 _ hx4
    have V5 := v5 _ hx4
    have V6 := v6 _ hx4
    have V7 := v7 _ hx4
    have V8 := v8 _ hx4
    have V9 := v9 _ hx4
    go_region
    have hfin : LookP (((((((((((wr).setCell ⟨N, j * 10, none⟩ (.bool true)).setCell ⟨N, j * 10 + 1, none⟩ (.bool false)).setCell ⟨N, j * 10 + 2, none⟩ (.bool false)).setCell ⟨N, j * 10 + 3, none⟩ (.int .u8 1)).setCell ⟨N, j * 10 + 4, none⟩ (.int .u64 n)).setCell ⟨N, j * 10 + 5, none⟩ (.int .u64 0)).setCell ⟨N, j * 10 + 6, none⟩ (.int .u64 n)).setCell ⟨N, j * 10 + 7, none⟩ (.int .u64 n)).setCell ⟨N, j * 10 + 8, none⟩ (.int .i64 0)).setCell ⟨N, j * 10 + 9, none⟩ (.int .i64 0)) p (some ⟨q_, o, none⟩) c Jb Jo cj kp L N steps (A_ ++ ([.bool true, .bool false, .bool false, .int .u8 1, .int .u64 n, .int .u64 0, .int .u64 n, .int .u64 n, .int .i64 0, .int .i64 0] ++ C_)) ∧ Below L w (((((((((((wr).setCell ⟨N, j * 10, none⟩ (.bool true)).setCell ⟨N, j * 10 + 1, none⟩ (.bool false)).setCell ⟨N, j * 10 + 2, none⟩ (.bool false)).setCell ⟨N, j * 10 + 3, none⟩ (.int .u8 1)).setCell ⟨N, j * 10 + 4, none⟩ (.int .u64 n)).setCell ⟨N, j * 10 + 5, none⟩ (.int .u64 0)).setCell ⟨N, j * 10 + 6, none⟩ (.int .u64 n)).setCell ⟨N, j * 10 + 7, none⟩ (.int .u64 n)).setCell ⟨N, j * 10 + 8, none⟩ (.int .i64 0)).setCell ⟨N, j * 10 + 9, none⟩ (.int .i64 0)) := by
      have h0 := (HLK.out).put (A := A_) (B := [.bool false, .bool false, .bool false, .int .u8 0, .int .u64 0, .int .u64 0, .int .u64 0, .int .u64 0, .int .i64 0, .int .i64 0]) (C := C_) (Y := wr) hb4 [.bool true, .bool false, .bool false, .int .u8 1, .int .u64 n, .int .u64 0, .int .u64 n, .int .u64 n, .int .i64 0, .int .i64 0] rfl
      rw [HAL.out] at h0
      exact h0
    have hfin2 : LookP (World.drew (((((((((((wr).setCell ⟨N, j * 10, none⟩ (.bool true)).setCell ⟨N, j * 10 + 1, none⟩ (.bool false)).setCell ⟨N, j * 10 + 2, none⟩ (.bool false)).setCell ⟨N, j * 10 + 3, none⟩ (.int .u8 1)).setCell ⟨N, j * 10 + 4, none⟩ (.int .u64 n)).setCell ⟨N, j * 10 + 5, none⟩ (.int .u64 0)).setCell ⟨N, j * 10 + 6, none⟩ (.int .u64 n)).setCell ⟨N, j * 10 + 7, none⟩ (.int .u64 n)).setCell ⟨N, j * 10 + 8, none⟩ (.int .i64 0)).setCell ⟨N, j * 10 + 9, none⟩ (.int .i64 0))) p (some ⟨q_, o, none⟩) c Jb Jo cj kp L N steps (A_ ++ ([.bool true, .bool false, .bool false, .int .u8 1, .int .u64 n, .int .u64 0, .int .u64 n, .int .u64 n, .int .i64 0, .int .i64 0] ++ C_)) ∧ Below L w (World.drew (((((((((((wr).setCell ⟨N, j * 10, none⟩ (.bool true)).setCell ⟨N, j * 10 + 1, none⟩ (.bool false)).setCell ⟨N, j * 10 + 2, none⟩ (.bool false)).setCell ⟨N, j * 10 + 3, none⟩ (.int .u8 1)).setCell ⟨N, j * 10 + 4, none⟩ (.int .u64 n)).setCell ⟨N, j * 10 + 5, none⟩ (.int .u64 0)).setCell ⟨N, j * 10 + 6, none⟩ (.int .u64 n)).setCell ⟨N, j * 10 + 7, none⟩ (.int .u64 n)).setCell ⟨N, j * 10 + 8, none⟩ (.int .i64 0)).setCell ⟨N, j * 10 + 9, none⟩ (.int .i64 0))) := ⟨hfin.1.below (Below.drew (Below.refl _ _)), hfin.2.drew⟩
    have hoth0 : ∀ k, k < w.heap.size → k ≠ N → World.heap (((((((((((wr).setCell ⟨N, j * 10, none⟩ (.bool true)).setCell ⟨N, j * 10 + 1, none⟩ (.bool false)).setCell ⟨N, j * 10 + 2, none⟩ (.bool false)).setCell ⟨N, j * 10 + 3, none⟩ (.int .u8 1)).setCell ⟨N, j * 10 + 4, none⟩ (.int .u64 n)).setCell ⟨N, j * 10 + 5, none⟩ (.int .u64 0)).setCell ⟨N, j * 10 + 6, none⟩ (.int .u64 n)).setCell ⟨N, j * 10 + 7, none⟩ (.int .u64 n)).setCell ⟨N, j * 10 + 8, none⟩ (.int .i64 0)).setCell ⟨N, j * 10 + 9, none⟩ (.int .i64 0)) = World.heap (wr.setCells N (j * 10) [.bool true, .bool false, .bool false, .int .u8 1, .int .u64 n, .int .u64 0, .int .u64 n, .int .u64 n, .int .i64 0, .int .i64 0]) := fun _ _ _ => rfl
    have hoth : ∀ k, k < w.heap.size → k ≠ N → (World.drew (((((((((((wr).setCell ⟨N, j * 10, none⟩ (.bool true)).setCell ⟨N, j * 10 + 1, none⟩ (.bool false)).setCell ⟨N, j * 10 + 2, none⟩ (.bool false)).setCell ⟨N, j * 10 + 3, none⟩ (.int .u8 1)).setCell ⟨N, j * 10 + 4, none⟩ (.int .u64 n)).setCell ⟨N, j * 10 + 5, none⟩ (.int .u64 0)).setCell ⟨N, j * 10 + 6, none⟩ (.int .u64 n)).setCell ⟨N, j * 10 + 7, none⟩ (.int .u64 n)).setCell ⟨N, j * 10 + 8, none⟩ (.int .i64 0)).setCell ⟨N, j * 10 + 9, none⟩ (.int .i64 0))).heap[k]? = w.heap[k]? := fun k hk hne => by rw [drew_heap, hoth0 k hk hne, heap_put_other wr N (j * 10) [.bool true, .bool false, .bool false, .int .u8 1, .int .u64 n, .int .u64 0, .int .u64 n, .int .u64 n, .int .i64 0, .int .i64 0] (Nat.lt_of_lt_of_le hk hb4.size) hne]; exact hb4.block k hk
    clear hfin
    generalize World.drew (((((((((((wr).setCell ⟨N, j * 10, none⟩ (.bool true)).setCell ⟨N, j * 10 + 1, none⟩ (.bool false)).setCell ⟨N, j * 10 + 2, none⟩ (.bool false)).setCell ⟨N, j * 10 + 3, none⟩ (.int .u8 1)).setCell ⟨N, j * 10 + 4, none⟩ (.int .u64 n)).setCell ⟨N, j * 10 + 5, none⟩ (.int .u64 0)).setCell ⟨N, j * 10 + 6, none⟩ (.int .u64 n)).setCell ⟨N, j * 10 + 7, none⟩ (.int .u64 n)).setCell ⟨N, j * 10 + 8, none⟩ (.int .i64 0)).setCell ⟨N, j * 10 + 9, none⟩ (.int .i64 0)) = V at *
    exact ⟨rfl, .tuple #[], by simp [results, Tryz.results38], rfl, hfin2.1, hfin2.2, hoth⟩

end

section
/-- The cells of a walk's instruction, of an Exit, with a state. -/
def KX (l : List Insn) (Ad : Option Addr) (c j : Nat) (rs : List RV) : List Value := [.slice Ad l.length c, .slice none 0 0, .int .i64 0, .int .i64 j, .int .u8 149, .int .u8 0, .int .u8 0, .int .i16 0, .int .i32 0, .int .u8 12, .int .u8 0, .bool false, .bool false, .bool false, .int .i64 0] ++ stV rs
theorem KX_len {l : List Insn} {Ad : Option Addr} {c j : Nat} {rs : List RV} (h : rs.length = 11) : (KX l Ad c j rs).length = 604 := by rw [KX, List.length_append, stV_len h]; rfl
theorem KX_reg {l : List Insn} {Ad : Option Addr} {c j : Nat} {rs : List RV} (h : rs.length = 11) {i : Nat} (hi : i < 7) : (KX l Ad c j rs)[15 + i]? = (rs.getD 0 .no).cells[i]? := by
  rw [KX, List.getElem?_append_right (by simp), ← stV_reg h (i := 0) (by omega) hi]
  congr 1
  simp

attribute [local go_sem ↓] ldFrom_589 ldFrom_604 mkS89_eq mkW94_eq mkW108_eq

set_option maxRecDepth 100000 in
set_option maxHeartbeats 4000000 in
theorem runset14X (l : List Insn) (Ad : Option Addr) (c j : Nat) (rs : List RV) (hrs : StOk rs) (n : Int) (hn : rs.getD 0 .no = .num n) (w : World) : Calls Tryz.prog 98 #[.agg (KX l Ad c j rs).toArray] w fun e w' => e = .returned (.bool false) ∧ Below w.heap.size w w' := by
  have hfl := field41_0
  have hKn := KX_len (l := l) (Ad := Ad) (c := c) (j := j) hrs.len
  have hreg := fun (i : Nat) (hi : i < 7) => KX_reg (l := l) (Ad := Ad) (c := c) (j := j) hrs.len hi
  rw [hn] at hreg
  generalize hK : KX l Ad c j rs = K at *
  have q0 : (w.alloc (.cells K.toArray 158)).heap[w.heap.size]? = some (.cells K.toArray 158) := heap1_0 _ _
  have k0 := boxc (k := 0) (u := .slice Ad l.length c) q0 (by rw [← hK]; rfl)
  have k1 := boxc (k := 1) (u := .slice none 0 0) q0 (by rw [← hK]; rfl)
  have k2 := boxc (k := 2) (u := .int .i64 0) q0 (by rw [← hK]; rfl)
  have k3 := boxc (k := 3) (u := .int .i64 j) q0 (by rw [← hK]; rfl)
  have k4 := boxc (k := 4) (u := .int .u8 149) q0 (by rw [← hK]; rfl)
  have k5 := boxc (k := 5) (u := .int .u8 0) q0 (by rw [← hK]; rfl)
  have k6 := boxc (k := 6) (u := .int .u8 0) q0 (by rw [← hK]; rfl)
  have k7 := boxc (k := 7) (u := .int .i16 0) q0 (by rw [← hK]; rfl)
  have k8 := boxc (k := 8) (u := .int .i32 0) q0 (by rw [← hK]; rfl)
  have k9 := boxc (k := 9) (u := .int .u8 12) q0 (by rw [← hK]; rfl)
  have k10 := boxc (k := 10) (u := .int .u8 0) q0 (by rw [← hK]; rfl)
  have k11 := boxc (k := 11) (u := .bool false) q0 (by rw [← hK]; rfl)
  have k12 := boxc (k := 12) (u := .bool false) q0 (by rw [← hK]; rfl)
  have k13 := boxc (k := 13) (u := .bool false) q0 (by rw [← hK]; rfl)
  have k14 := boxc (k := 14) (u := .int .i64 0) q0 (by rw [← hK]; rfl)
  have k15 := boxc (k := 15) (u := .int .u8 1) q0 (by simp only [List.getElem?_toArray]; exact hreg 0 (by omega))
  have k16 := boxc (k := 16) (u := .int .u64 n) q0 (by simp only [List.getElem?_toArray]; exact hreg 1 (by omega))
  have k17 := boxc (k := 17) (u := .int .u64 0) q0 (by simp only [List.getElem?_toArray]; exact hreg 2 (by omega))
  have k18 := boxc (k := 18) (u := .int .u64 n) q0 (by simp only [List.getElem?_toArray]; exact hreg 3 (by omega))
  have k19 := boxc (k := 19) (u := .int .u64 n) q0 (by simp only [List.getElem?_toArray]; exact hreg 4 (by omega))
  have k20 := boxc (k := 20) (u := .int .i64 0) q0 (by simp only [List.getElem?_toArray]; exact hreg 5 (by omega))
  have k21 := boxc (k := 21) (u := .int .i64 0) q0 (by simp only [List.getElem?_toArray]; exact hreg 6 (by omega))
  have hRK : ∀ w', Below (w.alloc (.cells K.toArray 158)).heap.size (w.alloc (.cells K.toArray 158)) w' → w'.rangeAt w.heap.size 0 K := fun w' h k u hu => by rw [Nat.zero_add]; exact boxc q0 (by simpa using hu) w' h
  clear q0 hreg hn
  have hW0 : Below w.heap.size w (w.alloc (.cells K.toArray 158)) := below_boxes1 _ _
  have hrf := Below.refl (w.alloc (.cells K.toArray 158)).heap.size (w.alloc (.cells K.toArray 158))
  clear hK
  go_enter Tryz.func98, Tryz.ntmps98
  go_upto_region 1 with fail
  generalize w.alloc (.cells K.toArray 158) = W at *
  have hlK : ∀ w', Below W.heap.size W w' → (ldRow ⟨w.heap.size, 0, none⟩ 604).run Tryz.prog w' = .ok K.toArray w' := fun w' h => run_ldRow (hRK w' h) hKn
  clear hRK
  go_wp2_with fail
  go_ret
  exact ⟨rfl, hW0.trans (hrf.mono hW0.size)⟩

set_option maxRecDepth 100000 in
set_option maxHeartbeats 4000000 in
theorem rstep14X (l : List Insn) (Ad : Option Addr) (c j : Nat) (rs : List RV) (hrs : StOk rs) (n : Int) (hn : rs.getD 0 .no = .num n) (w : World) : Calls Tryz.prog 68 #[.agg (KX l Ad c j rs).toArray] w fun e w' => e = .returned (.tuple #[.slice none 0 0, .int .i64 0]) ∧ Below w.heap.size w w' := by
  have hun := fun w1 => runset14X l Ad c j rs hrs n hn w1
  have hKn := KX_len (l := l) (Ad := Ad) (c := c) (j := j) hrs.len
  have hreg := fun (i : Nat) (hi : i < 7) => KX_reg (l := l) (Ad := Ad) (c := c) (j := j) hrs.len hi
  rw [hn] at hreg
  generalize hK : KX l Ad c j rs = K at *
  have q0 : (w.alloc (.cells K.toArray 158)).heap[w.heap.size]? = some (.cells K.toArray 158) := heap1_0 _ _
  have k9 := boxc (k := 9) (u := .int .u8 12) q0 (by rw [← hK]; rfl)
  have k15 := boxc (k := 15) (u := .int .u8 1) q0 (by simp only [List.getElem?_toArray]; exact hreg 0 (by omega))
  have k16 := boxc (k := 16) (u := .int .u64 n) q0 (by simp only [List.getElem?_toArray]; exact hreg 1 (by omega))
  have k17 := boxc (k := 17) (u := .int .u64 0) q0 (by simp only [List.getElem?_toArray]; exact hreg 2 (by omega))
  have k18 := boxc (k := 18) (u := .int .u64 n) q0 (by simp only [List.getElem?_toArray]; exact hreg 3 (by omega))
  have k19 := boxc (k := 19) (u := .int .u64 n) q0 (by simp only [List.getElem?_toArray]; exact hreg 4 (by omega))
  have k20 := boxc (k := 20) (u := .int .i64 0) q0 (by simp only [List.getElem?_toArray]; exact hreg 5 (by omega))
  have k21 := boxc (k := 21) (u := .int .i64 0) q0 (by simp only [List.getElem?_toArray]; exact hreg 6 (by omega))
  have hRK : ∀ w', Below (w.alloc (.cells K.toArray 158)).heap.size (w.alloc (.cells K.toArray 158)) w' → w'.rangeAt w.heap.size 0 K := fun w' h k u hu => by rw [Nat.zero_add]; exact boxc q0 (by simpa using hu) w' h
  clear q0 hreg hn
  have hW0 : Below w.heap.size w (w.alloc (.cells K.toArray 158)) := below_boxes1 _ _
  have hrf := Below.refl (w.alloc (.cells K.toArray 158)).heap.size (w.alloc (.cells K.toArray 158))
  clear hK
  go_enter Tryz.func68, Tryz.ntmps68
  go_upto_region 1 with fail
  generalize w.alloc (.cells K.toArray 158) = W at *
  have hlK : ∀ w', Below W.heap.size W w' → (ldRow ⟨w.heap.size, 0, none⟩ 604).run Tryz.prog w' = .ok K.toArray w' := fun w' h => run_ldRow (hRK w' h) hKn
  clear hRK
  have HL := hlK _ hrf
  go_wp2_with fail
  refine (hun _).mono ?_
  rintro e w1 ⟨rfl, hc1⟩
  have hb1 : Below W.heap.size W w1 := hc1
  clear hc1
  have A9 := k9 _ hb1
  have A15 := k15 _ hb1
  have A16 := k16 _ hb1
  have A17 := k17 _ hb1
  have A18 := k18 _ hb1
  have A19 := k19 _ hb1
  have A20 := k20 _ hb1
  have A21 := k21 _ hb1
  go_wp2_with fail
  refine (rnum14 n _).mono ?_
  rintro e w2 ⟨rfl, hc2⟩
  have hb2 := hb1.trans (hc2.mono hb1.size)
  clear hc2
  go_wp2_with fail
  go_ret2
  exact ⟨rfl, hW0.trans (hb2.mono hW0.size)⟩

set_option maxRecDepth 100000 in
set_option maxHeartbeats 4000000 in
theorem rStep14X {p q : List Insn} (hp : Line p q) (Ad : Option Addr) (c : Nat) (j : Nat) (hj : j = q.length) (rs : List RV) (hrs : StOk rs) (n : Int) (hrn : rs.getD 0 .no = .num n) (w : World) (hat : SAt w w.heap.size 5 Ad p.length (insnsV p)) :
    Calls Tryz.prog 37 #[.slice Ad p.length c, .agg #[.slice none 0 0, .int .i64 0], .int .i64 j, .agg (stV rs).toArray] w fun e w' => e = .returned (.tuple #[.slice none 0 0, .int .i64 0]) ∧ Below w.heap.size w w' := by
  have hlen : p.length ≤ 100000 := by rw [hp.len]; have := hp.few; omega
  have hjp : j < p.length := by rw [hp.len]; omega
  have hxe : at' p j = ⟨149, 0, 0, 0, 0⟩ := by rw [hj]; exact hp.at_end
  obtain ⟨b, o, rfl, hbb, D0, D1, D2, D3, D4⟩ := hat.insn (l := p) (k := j) hjp
  rw [hxe] at D0 D1 D2 D3 D4
  simp only at D0 D1 D2 D3 D4
  have hck := fun (w1 : World) (hb : Below w.heap.size w w1) => rcheck_any p hp.ok (some ⟨b, o, none⟩) c hlen w1 ((hat.below hb).more hb.size)
  rw [hp.check] at hck
  have hsa := fun (w1 : World) (hb : Below w.heap.size w w1) => hp.flags (some ⟨b, o, none⟩) c j hjp w1 ((hat.below hb).more hb.size)
  have hri := fun (w1 : World) => rright13S hrs w1
  have hse := fun (w1 : World) => rsem_any (⟨149, 0, 0, 0, 0⟩ : Insn) (by constructor <;> decide) w1
  rw [exit_sem] at hse
  have hstp := fun w1 (h : Below w.heap.size w w1) => rstep14X p (some ⟨b, o, none⟩) c j rs hrs n hrn w1
  have hjm : (j : Int) < (p.length : Int) := by omega
  have hj0 : (0 : Int) ≤ (j : Int) := by omega
  clear hxe hrn hj
  have hpl := Lib.hid hp
  clear hp
  have hS0 := stV_len hrs.len
  have hSo := stV_one rs
  have hstk : ∀ k, k < 7 → (stV rs)[70 + k]? = StkL[k]? := fun k hk => by have := stV_reg hrs.len (i := 10) (j := k) (by omega) hk; rw [hrs.stk] at this; exact this
  generalize hSd : stV rs = S at *
  have q0 : ((w.alloc (.cells #[.slice none 0 0, .int .i64 0] 38)).alloc (.cells S.toArray 92)).heap[w.heap.size]? = some (.cells #[.slice none 0 0, .int .i64 0] 38) := heap2_0 _ _ _
  have q1 : ((w.alloc (.cells #[.slice none 0 0, .int .i64 0] 38)).alloc (.cells S.toArray 92)).heap[w.heap.size + 1]? = some (.cells S.toArray 92) := heap2_1 _ _ _
  have e0 := boxc (k := 0) (u := .slice none 0 0) q0 rfl
  have e1 := boxc (k := 1) (u := .int .i64 0) q0 rfl
  have s70 := boxc (k := 70) (u := .int .u8 3) q1 (by simpa using hstk 0 (by omega))
  have s71 := boxc (k := 71) (u := .int .u64 0) q1 (by simpa using hstk 1 (by omega))
  have s72 := boxc (k := 72) (u := .int .u64 0) q1 (by simpa using hstk 2 (by omega))
  have s73 := boxc (k := 73) (u := .int .u64 0) q1 (by simpa using hstk 3 (by omega))
  have s74 := boxc (k := 74) (u := .int .u64 0) q1 (by simpa using hstk 4 (by omega))
  have s75 := boxc (k := 75) (u := .int .i64 0) q1 (by simpa using hstk 5 (by omega))
  have s76 := boxc (k := 76) (u := .int .i64 512) q1 (by simpa using hstk 6 (by omega))
  have hRS : ∀ w', Below ((w.alloc (.cells #[.slice none 0 0, .int .i64 0] 38)).alloc (.cells S.toArray 92)).heap.size ((w.alloc (.cells #[.slice none 0 0, .int .i64 0] 38)).alloc (.cells S.toArray 92)) w' → w'.rangeAt (w.heap.size + 1) 0 S := fun w' h k u hu => by rw [Nat.zero_add]; exact boxc q1 (by simpa using hu) w' h
  clear q0 q1 hstk
  have hW0 : Below w.heap.size w ((w.alloc (.cells #[.slice none 0 0, .int .i64 0] 38)).alloc (.cells S.toArray 92)) := below_boxes2 _ _ _
  have hrf := Below.refl ((w.alloc (.cells #[.slice none 0 0, .int .i64 0] 38)).alloc (.cells S.toArray 92)).heap.size ((w.alloc (.cells #[.slice none 0 0, .int .i64 0] 38)).alloc (.cells S.toArray 92))
  have HSD := Lib.hid hSd
  clear hSd
  go_enter Tryz.func37, Tryz.ntmps37
  go_upto_region 1 with fail
  generalize (w.alloc (.cells #[.slice none 0 0, .int .i64 0] 38)).alloc (.cells S.toArray 92) = W at *
  have hlS : ∀ w', Below W.heap.size W w' → (ldRow ⟨w.heap.size + 1, 0, none⟩ 589).run Tryz.prog w' = .ok S.toArray w' := fun w' h => run_ldRow (hRS w' h) hS0
  replace D0 := fun w' (h : Below W.heap.size W w') => D0 w' (hW0.trans (h.mono hW0.size))
  replace D1 := fun w' (h : Below W.heap.size W w') => D1 w' (hW0.trans (h.mono hW0.size))
  replace D2 := fun w' (h : Below W.heap.size W w') => D2 w' (hW0.trans (h.mono hW0.size))
  replace D3 := fun w' (h : Below W.heap.size W w') => D3 w' (hW0.trans (h.mono hW0.size))
  replace D4 := fun w' (h : Below W.heap.size W w') => D4 w' (hW0.trans (h.mono hW0.size))
  replace hck := fun w1 (h : Below W.heap.size W w1) => hck w1 (hW0.trans (h.mono hW0.size))
  replace hsa := fun w1 (h : Below W.heap.size W w1) => hsa w1 (hW0.trans (h.mono hW0.size))
  go_wp2_with fail
  refine (hck _ hrf).mono ?_
  rintro e w1 ⟨rfl, hc1⟩
  have hb1 : Below W.heap.size W w1 := hc1
  clear hc1
  go_wp2_with fail
  refine (rgiven14 _).mono ?_
  rintro e w2 ⟨rfl, hc2⟩
  have hb2 := hb1.trans (hc2.mono hb1.size)
  clear hc2
  go_wp2_with fail
  refine (hsa _ hb2).mono ?_
  rintro e w3 ⟨⟨sb, so, sc, rfl, hfl⟩, hc3⟩
  have hb3 := hb2.trans (hc3.mono hb2.size)
  clear hc3
  have f0 := hfl w3 (Below.refl _ _)
  clear hfl
  have HL3 := hlS _ hb3
  go_wp2_with fail
  refine (hri _).mono ?_
  rintro e w4 ⟨rfl, hc4⟩
  have hb4 := hb3.trans (hc4.mono hb3.size)
  clear hc4
  go_upto_region 7 with fail
  have hb5 : Below W.heap.size W (w4.alloc (.cells #[.int .u8 3, .int .u64 0, .int .u64 0, .int .u64 0, .int .u64 0, .int .i64 0, .int .i64 512] 66)) := hb4.alloc hb4.size _
  generalize w4.alloc (.cells #[.int .u8 3, .int .u64 0, .int .u64 0, .int .u64 0, .int .u64 0, .int .i64 0, .int .i64 512] 66) = U at *
  clear hck hsa hri f0 HL3
  have E0 := D0 _ hb5
  have E1 := D1 _ hb5
  have E2 := D2 _ hb5
  have E3 := D3 _ hb5
  have E4 := D4 _ hb5
  go_wp2_with fail
  refine (hse _).mono ?_
  rintro e w6 ⟨rfl, hc6⟩
  have hb6 := hb5.trans (hc6.mono hb5.size)
  clear hc6
  go_upto_region 8 with fail
  have hb7 : Below W.heap.size W (w6.alloc (.cells #[.int .u8 12, .int .u8 0, .bool false, .bool false, .bool false, .int .i64 0] 73)) := hb6.alloc hb6.size _
  clear E0 E1 E2 E3 E4
  have F0 : ∀ w', Below (w6.alloc (.cells #[.int .u8 12, .int .u8 0, .bool false, .bool false, .bool false, .int .i64 0] 73)).heap.size (w6.alloc (.cells #[.int .u8 12, .int .u8 0, .bool false, .bool false, .bool false, .int .i64 0] 73)) w' → w'.cell? ⟨w6.heap.size, 0, none⟩ = some (.int .u8 12) := boxc (heap1_0 w6 _) rfl
  have F1 : ∀ w', Below (w6.alloc (.cells #[.int .u8 12, .int .u8 0, .bool false, .bool false, .bool false, .int .i64 0] 73)).heap.size (w6.alloc (.cells #[.int .u8 12, .int .u8 0, .bool false, .bool false, .bool false, .int .i64 0] 73)) w' → w'.cell? ⟨w6.heap.size, 1, none⟩ = some (.int .u8 0) := boxc (heap1_0 w6 _) rfl
  have F2 : ∀ w', Below (w6.alloc (.cells #[.int .u8 12, .int .u8 0, .bool false, .bool false, .bool false, .int .i64 0] 73)).heap.size (w6.alloc (.cells #[.int .u8 12, .int .u8 0, .bool false, .bool false, .bool false, .int .i64 0] 73)) w' → w'.cell? ⟨w6.heap.size, 2, none⟩ = some (.bool false) := boxc (heap1_0 w6 _) rfl
  have F3 : ∀ w', Below (w6.alloc (.cells #[.int .u8 12, .int .u8 0, .bool false, .bool false, .bool false, .int .i64 0] 73)).heap.size (w6.alloc (.cells #[.int .u8 12, .int .u8 0, .bool false, .bool false, .bool false, .int .i64 0] 73)) w' → w'.cell? ⟨w6.heap.size, 3, none⟩ = some (.bool false) := boxc (heap1_0 w6 _) rfl
  have F4 : ∀ w', Below (w6.alloc (.cells #[.int .u8 12, .int .u8 0, .bool false, .bool false, .bool false, .int .i64 0] 73)).heap.size (w6.alloc (.cells #[.int .u8 12, .int .u8 0, .bool false, .bool false, .bool false, .int .i64 0] 73)) w' → w'.cell? ⟨w6.heap.size, 4, none⟩ = some (.bool false) := boxc (heap1_0 w6 _) rfl
  have F5 : ∀ w', Below (w6.alloc (.cells #[.int .u8 12, .int .u8 0, .bool false, .bool false, .bool false, .int .i64 0] 73)).heap.size (w6.alloc (.cells #[.int .u8 12, .int .u8 0, .bool false, .bool false, .bool false, .int .i64 0] 73)) w' → w'.cell? ⟨w6.heap.size, 5, none⟩ = some (.int .i64 0) := boxc (heap1_0 w6 _) rfl
  generalize w6.alloc (.cells #[.int .u8 12, .int .u8 0, .bool false, .bool false, .bool false, .int .i64 0] 73) = R at *
  have hR7 : ∀ w', Below R.heap.size R w' → Below W.heap.size W w' := fun w' h => hb7.trans (h.mono hb7.size)
  replace D0 := fun w' (h : Below R.heap.size R w') => D0 w' (hR7 w' h)
  replace D1 := fun w' (h : Below R.heap.size R w') => D1 w' (hR7 w' h)
  replace D2 := fun w' (h : Below R.heap.size R w') => D2 w' (hR7 w' h)
  replace D3 := fun w' (h : Below R.heap.size R w') => D3 w' (hR7 w' h)
  replace D4 := fun w' (h : Below R.heap.size R w') => D4 w' (hR7 w' h)
  replace e0 := fun w' (h : Below R.heap.size R w') => e0 w' (hR7 w' h)
  replace e1 := fun w' (h : Below R.heap.size R w') => e1 w' (hR7 w' h)
  replace hlS := fun w' (h : Below R.heap.size R w') => hlS w' (hR7 w' h)
  have hmk := fun w1 => run_mkW108 (.slice (some ⟨b, o, none⟩) p.length c) (.slice none 0 0) (.int .i64 0) j (.int .u8 149) (.int .u8 0) (.int .u8 0) (.int .i16 0) (.int .i32 0) (.int .u8 12) (.int .u8 0) (.bool false) (.bool false) (.bool false) (.int .i64 0) S hS0 rfl w1
  obtain ⟨K, hKd⟩ : ∃ K, K = (.slice (some ⟨b, o, none⟩) p.length c :: .slice none 0 0 :: .int .i64 0 :: .int .i64 j :: .int .u8 149 :: .int .u8 0 :: .int .u8 0 :: .int .i16 0 :: .int .i32 0 :: .int .u8 12 :: .int .u8 0 :: .bool false :: .bool false :: .bool false :: .int .i64 0 :: S : List Value) := ⟨_, rfl⟩
  rw [← hKd] at hmk
  have hKn : K.length = 604 := by rw [hKd]; simp [hS0]
  have hKE : KX p (some ⟨b, o, none⟩) c j rs = K := by rw [hKd, ← HSD.out]; rfl
  rw [hKE] at hstp
  have hK1 : ∀ v ∈ K, v.oneCell' = true := by rw [hKd]; intro v hv; simp only [List.mem_cons] at hv; rcases hv with rfl | rfl | rfl | rfl | rfl | rfl | rfl | rfl | rfl | rfl | rfl | rfl | rfl | rfl | rfl | h <;> first | rfl | exact hSo v h
  clear hKE hKd hSo
  have hsto : (storeCells ⟨R.heap.size, 0, none⟩ K 0).run Tryz.prog (R.alloc (.cells Tryz.zeroCells158 158)).drew = .ok () (R.alloc (.cells K.toArray 158)).drew := store_new108 R.drew K hKn hK1
  have hrR := Below.refl R.heap.size R
  clear hrf
  go_region_held3 (fun w' => Below R.heap.size R w') (first | assumption | exact sbelow_drew (by assumption) | exact sbelow_alloc (by assumption) (Nat.le_refl _) | exact sbelow_drew (sbelow_alloc hrR (Nat.le_refl _))) (skip)
  have hVw : Below w.heap.size w ((R.alloc (.cells K.toArray 158)).drew) := (hW0.trans (hb7.mono hW0.size)).trans ((sbelow_drew (sbelow_alloc hrR (Nat.le_refl _))).mono (Nat.le_trans hW0.size hb7.size))
  have hlK : (ldRow ⟨R.heap.size, 0, none⟩ 604).run Tryz.prog ((R.alloc (.cells K.toArray 158)).drew) = .ok K.toArray ((R.alloc (.cells K.toArray 158)).drew) := run_ldRow (fun k u hu => by rw [Nat.zero_add]; exact boxc (heap1_0 R (.cells K.toArray 158)) (by simpa using hu) _ (Below.drew (Below.refl _ _))) hKn
  generalize (R.alloc (.cells K.toArray 158)).drew = V at *
  go_wp2_with fail
  refine (hstp _ hVw).mono ?_
  rintro e w9 ⟨rfl, hc9⟩
  go_wp2_with fail
  go_ret2
  exact ⟨rfl, hVw.trans (hc9.mono hVw.size)⟩

set_option maxRecDepth 100000 in
set_option maxHeartbeats 4000000 in
theorem rresult14X {p q : List Insn} (hp : Line p q) (Ad : Option Addr) (c : Nat) (j : Nat) (hj : j = q.length) (w : World) (hat : SAt w w.heap.size 5 Ad p.length (insnsV p)) :
    Calls Tryz.prog 69 #[.slice Ad p.length c, .int .i64 j, .slice none 0 0] w fun e w' => e = .returned (.tuple #[.agg #[.int .u8 0, .int .u64 0, .int .u64 0, .int .u64 0, .int .u64 0, .int .i64 0, .int .i64 0], .bool false]) ∧ Below w.heap.size w w' := by
  have hjp : j < p.length := by rw [hp.len]; omega
  have hxe : at' p j = ⟨149, 0, 0, 0, 0⟩ := by rw [hj]; exact hp.at_end
  obtain ⟨q_, o, rfl, hbb, D0, D1, D2, D3, D4⟩ := hat.insn (l := p) (k := j) hjp
  have hjm : (j : Int) < (p.length : Int) := by omega
  have hj0 : (0 : Int) ≤ (j : Int) := by omega
  have hlen : p.length ≤ 100000 := by rw [hp.len]; have := hp.few; omega
  clear hxe hj D0 D1 D2 D3 D4 hp
  have q0 : (w.alloc (.cells #[.int .u8 0, .int .u64 0, .int .u64 0, .int .u64 0, .int .u64 0, .int .i64 0, .int .i64 0] 66)).heap[w.heap.size]? = some (.cells #[.int .u8 0, .int .u64 0, .int .u64 0, .int .u64 0, .int .u64 0, .int .i64 0, .int .i64 0] 66) := heap1_0 _ _
  have a0 := boxc (k := 0) (u := .int .u8 0) q0 rfl
  have a1 := boxc (k := 1) (u := .int .u64 0) q0 rfl
  have a2 := boxc (k := 2) (u := .int .u64 0) q0 rfl
  have a3 := boxc (k := 3) (u := .int .u64 0) q0 rfl
  have a4 := boxc (k := 4) (u := .int .u64 0) q0 rfl
  have a5 := boxc (k := 5) (u := .int .i64 0) q0 rfl
  have a6 := boxc (k := 6) (u := .int .i64 0) q0 rfl
  have t0 := boxt q0
  clear q0
  have hW0 : Below w.heap.size w (w.alloc (.cells #[.int .u8 0, .int .u64 0, .int .u64 0, .int .u64 0, .int .u64 0, .int .i64 0, .int .i64 0] 66)) := below_boxes1 _ _
  have hr := Below.refl (w.alloc (.cells #[.int .u8 0, .int .u64 0, .int .u64 0, .int .u64 0, .int .u64 0, .int .i64 0, .int .i64 0] 66)).heap.size (w.alloc (.cells #[.int .u8 0, .int .u64 0, .int .u64 0, .int .u64 0, .int .u64 0, .int .i64 0, .int .i64 0] 66))
  go_enter Tryz.func69, Tryz.ntmps69
  go_upto_region 1 with fail
  generalize w.alloc (.cells #[.int .u8 0, .int .u64 0, .int .u64 0, .int .u64 0, .int .u64 0, .int .i64 0, .int .i64 0] 66) = W at *
  have z0 := a0 _ hr
  have z1 := a1 _ hr
  have z2 := a2 _ hr
  have z3 := a3 _ hr
  have z4 := a4 _ hr
  have z5 := a5 _ hr
  have z6 := a6 _ hr
  go_wp2_with fail
  refine bodyPost_ret (v := .tuple #[.agg #[.int .u8 0, .int .u64 0, .int .u64 0, .int .u64 0, .int .u64 0, .int .i64 0, .int .i64 0], .bool false]) (by simp [results, Tryz.results69, go_sem, *]) rfl ⟨rfl, ?_⟩
  (repeat (refine Below.setCell ?_ (by first | exact Nat.le_refl _ | exact Nat.le_succ _ | (simp; done) | (simp; omega)) _))
  exact hW0.trans (hr.mono hW0.size)

end

section
set_option maxRecDepth 100000 in
set_option maxHeartbeats 4000000 in
theorem rjoints15V {p q : List Insn} (hp : Line p q) (Ad : Option Addr) (c : Nat) (w : World) (hat : SAt w w.heap.size 5 Ad p.length (insnsV p)) :
    Calls Tryz.prog 14 #[.slice Ad p.length c] w fun e w' => (∃ b, e = .returned (.slice (some ⟨b, 0, none⟩) p.length p.length) ∧ w.heap.size ≤ b ∧ b < w'.heap.size ∧ ∀ k, k < p.length → w'.cell? ⟨b, 0 + k, none⟩ = some (.bool false)) ∧ Below w.heap.size w w' := by
  have hlen_ : p.length ≤ 100000 := by rw [hp.len]; have := hp.few; omega
  have hmk := run_make_row' (P := Tryz.prog) 81 4 (.bool false) 1 Tryz.underlying81 info4 rfl .i64 .i64 p.length (by omega) (by omega)
  have hsa := fun (w1 : World) (hb : Below w.heap.size w w1) => rstarts_any p Ad c hlen_ w1 ((hat.below hb).more hb.size)
  have htg : ∀ w1, Below w.heap.size w w1 → ∀ j : Nat, j < p.length → Calls Tryz.prog 35 #[.slice Ad p.length c, .int .i64 j] w1 fun e w' => e = .returned (.tuple #[.int .i64 0, .bool false]) ∧ Below w1.heap.size w1 w' := fun w1 hb j hj => by
    have h := rtarget_any p hp.ok Ad c hlen_ (j : Int) (by omega) (by omega) w1 ((hat.below hb).more hb.size)
    rw [hp.target hj] at h
    exact h
  have hW0 : Below w.heap.size w (w.alloc (.cells (madeCells #[.bool false] p.length) 4)) := below_boxes1 _ _
  have hWr : ∀ k, k < p.length → World.cell? (w.alloc (.cells (madeCells #[.bool false] p.length) 4)) ⟨w.heap.size, 0 + k, none⟩ = some (.bool false) := fun k hk => boxc (heap1_0 w (.cells (madeCells #[.bool false] p.length) 4)) (by rw [Nat.zero_add, ← Array.getElem?_toList, toList_madeCells_one, List.getElem?_replicate, if_pos hk]) _ (Below.refl _ _)
  have hWs : w.heap.size < (w.alloc (.cells (madeCells #[.bool false] p.length) 4)).heap.size := by simp
  clear hp
  go_enter Tryz.func14, Tryz.ntmps14
  go_upto_region 2 with fail
  generalize w.alloc (.cells (madeCells #[.bool false] p.length) 4) = W at *
  have HWR := Lib.hid hWr
  have HWS := Lib.hid hWs
  clear hmk hWr hWs
  go_wp2_with fail
  refine (hsa _ hW0).mono ?_
  rintro e w1 ⟨SA, sc, rfl, hfl, hc1⟩
  clear hfl
  have hb1 := hW0.trans (hc1.mono hW0.size)
  have HB := Lib.hid hc1
  clear hc1
  go_wp2_with fail
  go_loopw [5] (fun k wr => ∃ j : Nat, j ≤ p.length ∧ k = .int .i64 j ∧ Below w1.heap.size w1 wr) (fun k _ => p.length - (intOf k).toNat)
  case atStart => exact ⟨0, by omega, rfl, Below.refl _ _⟩
  case round =>
    obtain ⟨j, hj, rfl, hb⟩ := hrel
    have hbw := hb1.trans (hb.mono hb1.size)
    rcases Nat.lt_or_ge j p.length with hlt | hge
    · go_wp2_with fail
      refine (htg _ hbw j hlt).mono ?_
      rintro e w2 ⟨rfl, hc2⟩
      have hb2 := hb.trans (hc2.mono hb.size)
      clear hc2
      go_wp2_with fail
      go_roundw
      case rel => exact ⟨j + 1, by omega, by go_num, hb2⟩
      case measure => simp [intOf]; omega
    · go_wp2_with fail
      go_ret
      have hWw : Below W.heap.size W wr := HB.out.trans (hb.mono HB.out.size)
      exact ⟨⟨w.heap.size, rfl, Nat.le_refl _, Nat.lt_of_lt_of_le HWS.out hWw.size, fun k hk => (hWw.cell (p := ⟨w.heap.size, 0 + k, none⟩) HWS.out).trans (HWR.out k hk)⟩, hbw⟩

end

section
set_option maxRecDepth 100000 in
set_option maxHeartbeats 4000000 in
theorem rnote15X {p q : List Insn} (hp : Line p q) (Ad : Option Addr) (c Jb Jo cj : Nat) (kp : Value) (L N : Nat) (steps : Int) (j : Nat) (hj : j = q.length) (A_ C_ : List Value) (hA : A_.length = j * 10) (w : World) (hk : LookP w p Ad c Jb Jo cj kp L N steps (A_ ++ ([.bool false, .bool false, .bool false, .int .u8 0, .int .u64 0, .int .u64 0, .int .u64 0, .int .u64 0, .int .i64 0, .int .i64 0] ++ C_))) :
    Calls Tryz.prog 38 #[.pointer (some ⟨L, 0, none⟩), .int .i64 j, .slice none 0 0] w fun e w' => e = .returned (.tuple #[]) ∧ LookP w' p Ad c Jb Jo cj kp L N steps (A_ ++ ([.bool true, .bool false, .bool false, .int .u8 0, .int .u64 0, .int .u64 0, .int .u64 0, .int .u64 0, .int .i64 0, .int .i64 0] ++ C_)) ∧ Below L w w' ∧ ∀ k, k < w.heap.size → k ≠ N → w'.heap[k]? = w.heap[k]? := by
  have hlen_ : p.length ≤ 100000 := by rw [hp.len]; have := hp.few; omega
  have hjp : j < p.length := by rw [hp.len]; omega
  have hxe : at' p j = ⟨149, 0, 0, 0, 0⟩ := by rw [hj]; exact hp.at_end
  have hrs := fun (w1 : World) (hb1 : Below w.heap.size w w1) => rresult14X hp Ad c j hj w1 ((hk.hat.below (hb1.mono (Nat.le_of_lt hk.ls))).more (Nat.le_trans (Nat.le_of_lt hk.ls) hb1.size))
  have htg := fun (w1 : World) (hb1 : Below w.heap.size w w1) => rtarget_any p hp.ok Ad c hlen_ (j : Int) (by omega) (by omega) w1 ((hk.hat.below (hb1.mono (Nat.le_of_lt hk.ls))).more (Nat.le_trans (Nat.le_of_lt hk.ls) hb1.size))
  rw [hp.target hjp] at htg
  simp only at htg
  have hse := fun (w1 : World) => rsem_P3_2 w1
  have hjm : (j : Int) < (p.length : Int) := by omega
  have hj0 : (0 : Int) ≤ (j : Int) := by omega
  have HLK := Lib.hid hk
  have hlen := hk.look 8 _ rfl
  have hl0 := hk.look 0 _ rfl
  have hfN := hk.ntsF
  simp only [Nat.zero_add] at hlen hl0
  have n0 := hk.nts (j * 10) (.bool false) (by rw [List.getElem?_append_right (by omega), hA, show j * 10 - j * 10 = 0 by omega]; rfl)
  have n1 := hk.nts (j * 10 + 1) (.bool false) (by rw [List.getElem?_append_right (by omega), hA, show j * 10 + 1 - j * 10 = 1 by omega]; rfl)
  have n2 := hk.nts (j * 10 + 2) (.bool false) (by rw [List.getElem?_append_right (by omega), hA, show j * 10 + 2 - j * 10 = 2 by omega]; rfl)
  have n3 := hk.nts (j * 10 + 3) (.int .u8 0) (by rw [List.getElem?_append_right (by omega), hA, show j * 10 + 3 - j * 10 = 3 by omega]; rfl)
  have n4 := hk.nts (j * 10 + 4) (.int .u64 0) (by rw [List.getElem?_append_right (by omega), hA, show j * 10 + 4 - j * 10 = 4 by omega]; rfl)
  have n5 := hk.nts (j * 10 + 5) (.int .u64 0) (by rw [List.getElem?_append_right (by omega), hA, show j * 10 + 5 - j * 10 = 5 by omega]; rfl)
  have n6 := hk.nts (j * 10 + 6) (.int .u64 0) (by rw [List.getElem?_append_right (by omega), hA, show j * 10 + 6 - j * 10 = 6 by omega]; rfl)
  have n7 := hk.nts (j * 10 + 7) (.int .u64 0) (by rw [List.getElem?_append_right (by omega), hA, show j * 10 + 7 - j * 10 = 7 by omega]; rfl)
  have n8 := hk.nts (j * 10 + 8) (.int .i64 0) (by rw [List.getElem?_append_right (by omega), hA, show j * 10 + 8 - j * 10 = 8 by omega]; rfl)
  have n9 := hk.nts (j * 10 + 9) (.int .i64 0) (by rw [List.getElem?_append_right (by omega), hA, show j * 10 + 9 - j * 10 = 9 by omega]; rfl)
  simp only [Nat.zero_add] at n0 n1 n2 n3 n4 n5 n6 n7 n8 n9
  have hat1 := hk.hat.more (Nat.le_of_lt hk.ls)
  have hls := hk.ls
  have hnw := hk.nw
  replace hlen := fun w' (h : Below w.heap.size w w') => (h.cell (p := ⟨L, 8, none⟩) hls).trans hlen
  replace hl0 := fun w' (h : Below w.heap.size w w') => (h.cell (p := ⟨L, 0, none⟩) hls).trans hl0
  replace n0 := fun w' (h : Below w.heap.size w w') => (h.cell (p := ⟨N, j * 10, none⟩) hnw).trans n0
  replace n1 := fun w' (h : Below w.heap.size w w') => (h.cell (p := ⟨N, j * 10 + 1, none⟩) hnw).trans n1
  replace n2 := fun w' (h : Below w.heap.size w w') => (h.cell (p := ⟨N, j * 10 + 2, none⟩) hnw).trans n2
  replace n3 := fun w' (h : Below w.heap.size w w') => (h.cell (p := ⟨N, j * 10 + 3, none⟩) hnw).trans n3
  replace n4 := fun w' (h : Below w.heap.size w w') => (h.cell (p := ⟨N, j * 10 + 4, none⟩) hnw).trans n4
  replace n5 := fun w' (h : Below w.heap.size w w') => (h.cell (p := ⟨N, j * 10 + 5, none⟩) hnw).trans n5
  replace n6 := fun w' (h : Below w.heap.size w w') => (h.cell (p := ⟨N, j * 10 + 6, none⟩) hnw).trans n6
  replace n7 := fun w' (h : Below w.heap.size w w') => (h.cell (p := ⟨N, j * 10 + 7, none⟩) hnw).trans n7
  replace n8 := fun w' (h : Below w.heap.size w w') => (h.cell (p := ⟨N, j * 10 + 8, none⟩) hnw).trans n8
  replace n9 := fun w' (h : Below w.heap.size w w') => (h.cell (p := ⟨N, j * 10 + 9, none⟩) hnw).trans n9
  replace hfN := fun k w' (h : Below w.heap.size w w') => (h.frozen (p := ⟨N, k, none⟩) hnw).trans (hfN k)
  obtain ⟨q_, o, rfl, hbb, D0, D1, D2, D3, D4⟩ := hat1.insn (l := p) (k := j) hjp
  rw [hxe] at D0 D1 D2 D3 D4
  clear hxe hj hk hat1 hls hnw
  have HAL := Lib.hid hA
  clear hp hA
  have hrf := Below.refl w.heap.size w
  go_enter Tryz.func38, Tryz.ntmps38
  go_upto_region 1 with fail
  have hU : Below w.heap.size w (w.alloc (.cells #[.bool false, .bool false, .bool false, .int .u8 0, .int .u64 0, .int .u64 0, .int .u64 0, .int .u64 0, .int .i64 0, .int .i64 0] 68)) := below_boxes1 _ _
  have y0 := boxc (k := 0) (u := .bool false) (heap1_0 w (.cells #[.bool false, .bool false, .bool false, .int .u8 0, .int .u64 0, .int .u64 0, .int .u64 0, .int .u64 0, .int .i64 0, .int .i64 0] 68)) rfl
  have y1 := boxc (k := 1) (u := .bool false) (heap1_0 w (.cells #[.bool false, .bool false, .bool false, .int .u8 0, .int .u64 0, .int .u64 0, .int .u64 0, .int .u64 0, .int .i64 0, .int .i64 0] 68)) rfl
  have y2 := boxc (k := 2) (u := .bool false) (heap1_0 w (.cells #[.bool false, .bool false, .bool false, .int .u8 0, .int .u64 0, .int .u64 0, .int .u64 0, .int .u64 0, .int .i64 0, .int .i64 0] 68)) rfl
  have y3 := boxc (k := 3) (u := .int .u8 0) (heap1_0 w (.cells #[.bool false, .bool false, .bool false, .int .u8 0, .int .u64 0, .int .u64 0, .int .u64 0, .int .u64 0, .int .i64 0, .int .i64 0] 68)) rfl
  have y4 := boxc (k := 4) (u := .int .u64 0) (heap1_0 w (.cells #[.bool false, .bool false, .bool false, .int .u8 0, .int .u64 0, .int .u64 0, .int .u64 0, .int .u64 0, .int .i64 0, .int .i64 0] 68)) rfl
  have y5 := boxc (k := 5) (u := .int .u64 0) (heap1_0 w (.cells #[.bool false, .bool false, .bool false, .int .u8 0, .int .u64 0, .int .u64 0, .int .u64 0, .int .u64 0, .int .i64 0, .int .i64 0] 68)) rfl
  have y6 := boxc (k := 6) (u := .int .u64 0) (heap1_0 w (.cells #[.bool false, .bool false, .bool false, .int .u8 0, .int .u64 0, .int .u64 0, .int .u64 0, .int .u64 0, .int .i64 0, .int .i64 0] 68)) rfl
  have y7 := boxc (k := 7) (u := .int .u64 0) (heap1_0 w (.cells #[.bool false, .bool false, .bool false, .int .u8 0, .int .u64 0, .int .u64 0, .int .u64 0, .int .u64 0, .int .i64 0, .int .i64 0] 68)) rfl
  have y8 := boxc (k := 8) (u := .int .i64 0) (heap1_0 w (.cells #[.bool false, .bool false, .bool false, .int .u8 0, .int .u64 0, .int .u64 0, .int .u64 0, .int .u64 0, .int .i64 0, .int .i64 0] 68)) rfl
  have y9 := boxc (k := 9) (u := .int .i64 0) (heap1_0 w (.cells #[.bool false, .bool false, .bool false, .int .u8 0, .int .u64 0, .int .u64 0, .int .u64 0, .int .u64 0, .int .i64 0, .int .i64 0] 68)) rfl
  have ty := boxt (heap1_0 w (.cells #[.bool false, .bool false, .bool false, .int .u8 0, .int .u64 0, .int .u64 0, .int .u64 0, .int .u64 0, .int .i64 0, .int .i64 0] 68))
  have hUs : (w.alloc (.cells #[.bool false, .bool false, .bool false, .int .u8 0, .int .u64 0, .int .u64 0, .int .u64 0, .int .u64 0, .int .i64 0, .int .i64 0] 68)).heap.size = w.heap.size + 1 := by simp
  have hUr : World.rangeAt (w.alloc (.cells #[.bool false, .bool false, .bool false, .int .u8 0, .int .u64 0, .int .u64 0, .int .u64 0, .int .u64 0, .int .i64 0, .int .i64 0] 68)) w.heap.size 0 [.bool false, .bool false, .bool false, .int .u8 0, .int .u64 0, .int .u64 0, .int .u64 0, .int .u64 0, .int .i64 0, .int .i64 0] := range_of_block (heap1_0 w _)
  generalize w.alloc (.cells #[.bool false, .bool false, .bool false, .int .u8 0, .int .u64 0, .int .u64 0, .int .u64 0, .int .u64 0, .int .i64 0, .int .i64 0] 68) = U at *
  go_wp2_with fail
  refine (hrs _ hU).mono ?_
  rintro e w1 ⟨rfl, hc1⟩
  have hb1 := hU.trans (hc1.mono hU.size)
  have hu1 : Below U.heap.size U w1 := hc1
  clear hc1
  go_upto_region 2 with fail
  have hT : Below w.heap.size w (w1.alloc (.cells #[.int .u8 0, .int .u64 0, .int .u64 0, .int .u64 0, .int .u64 0, .int .i64 0, .int .i64 0] 66)) := hb1.alloc hb1.size _
  have hTu : Below U.heap.size U (w1.alloc (.cells #[.int .u8 0, .int .u64 0, .int .u64 0, .int .u64 0, .int .u64 0, .int .i64 0, .int .i64 0] 66)) := hu1.alloc hu1.size _
  have x0 := boxc (k := 0) (u := .int .u8 0) (heap1_0 w1 (.cells #[.int .u8 0, .int .u64 0, .int .u64 0, .int .u64 0, .int .u64 0, .int .i64 0, .int .i64 0] 66)) rfl _ (Below.refl _ _)
  have x1 := boxc (k := 1) (u := .int .u64 0) (heap1_0 w1 (.cells #[.int .u8 0, .int .u64 0, .int .u64 0, .int .u64 0, .int .u64 0, .int .i64 0, .int .i64 0] 66)) rfl _ (Below.refl _ _)
  have x2 := boxc (k := 2) (u := .int .u64 0) (heap1_0 w1 (.cells #[.int .u8 0, .int .u64 0, .int .u64 0, .int .u64 0, .int .u64 0, .int .i64 0, .int .i64 0] 66)) rfl _ (Below.refl _ _)
  have x3 := boxc (k := 3) (u := .int .u64 0) (heap1_0 w1 (.cells #[.int .u8 0, .int .u64 0, .int .u64 0, .int .u64 0, .int .u64 0, .int .i64 0, .int .i64 0] 66)) rfl _ (Below.refl _ _)
  have x4 := boxc (k := 4) (u := .int .u64 0) (heap1_0 w1 (.cells #[.int .u8 0, .int .u64 0, .int .u64 0, .int .u64 0, .int .u64 0, .int .i64 0, .int .i64 0] 66)) rfl _ (Below.refl _ _)
  have x5 := boxc (k := 5) (u := .int .i64 0) (heap1_0 w1 (.cells #[.int .u8 0, .int .u64 0, .int .u64 0, .int .u64 0, .int .u64 0, .int .i64 0, .int .i64 0] 66)) rfl _ (Below.refl _ _)
  have x6 := boxc (k := 6) (u := .int .i64 0) (heap1_0 w1 (.cells #[.int .u8 0, .int .u64 0, .int .u64 0, .int .u64 0, .int .u64 0, .int .i64 0, .int .i64 0] 66)) rfl _ (Below.refl _ _)
  generalize w1.alloc (.cells #[.int .u8 0, .int .u64 0, .int .u64 0, .int .u64 0, .int .u64 0, .int .i64 0, .int .i64 0] 66) = T at *
  have Y0 := y0 _ hTu
  have Y1 := y1 _ hTu
  have Y2 := y2 _ hTu
  have Y3 := y3 _ hTu
  have Y4 := y4 _ hTu
  have Y5 := y5 _ hTu
  have Y6 := y6 _ hTu
  have Y7 := y7 _ hTu
  have Y8 := y8 _ hTu
  have Y9 := y9 _ hTu
  have tY := fun k => ty k _ hTu
  clear ty y0 y1 y2 y3 y4 y5 y6 y7 y8 y9
  have hTr := range_below hUr hTu (by rw [hUs]; omega)
  clear hUr
  go_upto_region 7 with fail
  clear Y0 Y1 Y2 Y3 Y4 Y5 Y6 Y7 Y8 Y9 tY x0 x1 x2 x3 x4 x5 x6
  have hX : Below w.heap.size w ((T).setCell ⟨w.heap.size, 0, none⟩ (.bool true)) := below_setCells w.heap.size (Nat.le_refl _) [.bool true] 0 hT
  have hXr : World.rangeAt ((T).setCell ⟨w.heap.size, 0, none⟩ (.bool true)) w.heap.size 0 [.bool true, .bool false, .bool false, .int .u8 0, .int .u64 0, .int .u64 0, .int .u64 0, .int .u64 0, .int .i64 0, .int .i64 0] := range_put (A := []) (B := [.bool false]) (C := [.bool false, .bool false, .int .u8 0, .int .u64 0, .int .u64 0, .int .u64 0, .int .u64 0, .int .i64 0, .int .i64 0]) (vs := [.bool true]) (hTr) rfl
  have hXs : w.heap.size < ((T).setCell ⟨w.heap.size, 0, none⟩ (.bool true)).heap.size := Nat.lt_of_lt_of_le (by have := hTu.size; omega) (below_setCells (B := 0) (a := T) w.heap.size (Nat.zero_le _) [.bool true] 0 (Below.refl 0 T)).size
  generalize (T).setCell ⟨w.heap.size, 0, none⟩ (.bool true) = X at *
  clear hTr hTu hT hu1 hb1 hU hUs
  have v0 : ∀ w', Below X.heap.size X w' → w'.cell? ⟨w.heap.size, 0, none⟩ = some (.bool true) := fun w' h => by have := range_below hXr h hXs 0 _ rfl; rwa [Nat.zero_add] at this
  have v1 : ∀ w', Below X.heap.size X w' → w'.cell? ⟨w.heap.size, 1, none⟩ = some (.bool false) := fun w' h => by have := range_below hXr h hXs 1 _ rfl; rwa [Nat.zero_add] at this
  have v2 : ∀ w', Below X.heap.size X w' → w'.cell? ⟨w.heap.size, 2, none⟩ = some (.bool false) := fun w' h => by have := range_below hXr h hXs 2 _ rfl; rwa [Nat.zero_add] at this
  have v3 : ∀ w', Below X.heap.size X w' → w'.cell? ⟨w.heap.size, 3, none⟩ = some (.int .u8 0) := fun w' h => by have := range_below hXr h hXs 3 _ rfl; rwa [Nat.zero_add] at this
  have v4 : ∀ w', Below X.heap.size X w' → w'.cell? ⟨w.heap.size, 4, none⟩ = some (.int .u64 0) := fun w' h => by have := range_below hXr h hXs 4 _ rfl; rwa [Nat.zero_add] at this
  have v5 : ∀ w', Below X.heap.size X w' → w'.cell? ⟨w.heap.size, 5, none⟩ = some (.int .u64 0) := fun w' h => by have := range_below hXr h hXs 5 _ rfl; rwa [Nat.zero_add] at this
  have v6 : ∀ w', Below X.heap.size X w' → w'.cell? ⟨w.heap.size, 6, none⟩ = some (.int .u64 0) := fun w' h => by have := range_below hXr h hXs 6 _ rfl; rwa [Nat.zero_add] at this
  have v7 : ∀ w', Below X.heap.size X w' → w'.cell? ⟨w.heap.size, 7, none⟩ = some (.int .u64 0) := fun w' h => by have := range_below hXr h hXs 7 _ rfl; rwa [Nat.zero_add] at this
  have v8 : ∀ w', Below X.heap.size X w' → w'.cell? ⟨w.heap.size, 8, none⟩ = some (.int .i64 0) := fun w' h => by have := range_below hXr h hXs 8 _ rfl; rwa [Nat.zero_add] at this
  have v9 : ∀ w', Below X.heap.size X w' → w'.cell? ⟨w.heap.size, 9, none⟩ = some (.int .i64 0) := fun w' h => by have := range_below hXr h hXs 9 _ rfl; rwa [Nat.zero_add] at this
  clear hXr
  go_wp2_with fail
  refine (hse _).mono ?_
  rintro e w3 ⟨rfl, hc3⟩
  have hb3 := hX.trans (hc3.mono hX.size)
  have hx3 : Below X.heap.size X w3 := hc3
  clear hc3
  go_upto_region 8 with fail
  have hR : Below w.heap.size w (w3.alloc (.cells #[.int .u8 12, .int .u8 0, .bool false, .bool false, .bool false, .int .i64 0] 73)) := hb3.alloc hb3.size _
  have hRx : Below X.heap.size X (w3.alloc (.cells #[.int .u8 12, .int .u8 0, .bool false, .bool false, .bool false, .int .i64 0] 73)) := hx3.alloc hx3.size _
  have r0 := boxc (k := 0) (u := .int .u8 12) (heap1_0 w3 (.cells #[.int .u8 12, .int .u8 0, .bool false, .bool false, .bool false, .int .i64 0] 73)) rfl
  generalize w3.alloc (.cells #[.int .u8 12, .int .u8 0, .bool false, .bool false, .bool false, .int .i64 0] 73) = R at *
  go_wp2_with fail
  refine (htg _ hR).mono ?_
  rintro e w4 ⟨rfl, hc4⟩
  have hb4 := hR.trans (hc4.mono hR.size)
  have hx4 := hRx.trans (hc4.mono hRx.size)
  have r0_ := r0 _ hc4
  clear hc4 r0
  go_wp2_with fail
  go_loopw [13] (fun k wr => k = .int .i64 0 ∧ wr = w4) (fun k _ => 0)
  case atStart => exact ⟨rfl, rfl⟩
  case round =>
    obtain ⟨rfl, rfl⟩ := hrel
    go_upto_region 14 with fail
    have V0 := v0 _ hx4
    have V1 := v1 _ hx4
    have V2 := v2 _ hx4
    have V3 := v3 _ hx4
    have V4 := v4 _ hx4
    have V5 := v5 _ hx4
    have V6 := v6 _ hx4
    have V7 := v7 _ hx4
    have V8 := v8 _ hx4
    have V9 := v9 _ hx4
    go_region
    have hfin : LookP (((((((((((wr).setCell ⟨N, j * 10, none⟩ (.bool true)).setCell ⟨N, j * 10 + 1, none⟩ (.bool false)).setCell ⟨N, j * 10 + 2, none⟩ (.bool false)).setCell ⟨N, j * 10 + 3, none⟩ (.int .u8 0)).setCell ⟨N, j * 10 + 4, none⟩ (.int .u64 0)).setCell ⟨N, j * 10 + 5, none⟩ (.int .u64 0)).setCell ⟨N, j * 10 + 6, none⟩ (.int .u64 0)).setCell ⟨N, j * 10 + 7, none⟩ (.int .u64 0)).setCell ⟨N, j * 10 + 8, none⟩ (.int .i64 0)).setCell ⟨N, j * 10 + 9, none⟩ (.int .i64 0)) p (some ⟨q_, o, none⟩) c Jb Jo cj kp L N steps (A_ ++ ([.bool true, .bool false, .bool false, .int .u8 0, .int .u64 0, .int .u64 0, .int .u64 0, .int .u64 0, .int .i64 0, .int .i64 0] ++ C_)) ∧ Below L w (((((((((((wr).setCell ⟨N, j * 10, none⟩ (.bool true)).setCell ⟨N, j * 10 + 1, none⟩ (.bool false)).setCell ⟨N, j * 10 + 2, none⟩ (.bool false)).setCell ⟨N, j * 10 + 3, none⟩ (.int .u8 0)).setCell ⟨N, j * 10 + 4, none⟩ (.int .u64 0)).setCell ⟨N, j * 10 + 5, none⟩ (.int .u64 0)).setCell ⟨N, j * 10 + 6, none⟩ (.int .u64 0)).setCell ⟨N, j * 10 + 7, none⟩ (.int .u64 0)).setCell ⟨N, j * 10 + 8, none⟩ (.int .i64 0)).setCell ⟨N, j * 10 + 9, none⟩ (.int .i64 0)) := by
      have h0 := (HLK.out).put (A := A_) (B := [.bool false, .bool false, .bool false, .int .u8 0, .int .u64 0, .int .u64 0, .int .u64 0, .int .u64 0, .int .i64 0, .int .i64 0]) (C := C_) (Y := wr) hb4 [.bool true, .bool false, .bool false, .int .u8 0, .int .u64 0, .int .u64 0, .int .u64 0, .int .u64 0, .int .i64 0, .int .i64 0] rfl
      rw [HAL.out] at h0
      exact h0
    have hfin2 : LookP (World.drew (((((((((((wr).setCell ⟨N, j * 10, none⟩ (.bool true)).setCell ⟨N, j * 10 + 1, none⟩ (.bool false)).setCell ⟨N, j * 10 + 2, none⟩ (.bool false)).setCell ⟨N, j * 10 + 3, none⟩ (.int .u8 0)).setCell ⟨N, j * 10 + 4, none⟩ (.int .u64 0)).setCell ⟨N, j * 10 + 5, none⟩ (.int .u64 0)).setCell ⟨N, j * 10 + 6, none⟩ (.int .u64 0)).setCell ⟨N, j * 10 + 7, none⟩ (.int .u64 0)).setCell ⟨N, j * 10 + 8, none⟩ (.int .i64 0)).setCell ⟨N, j * 10 + 9, none⟩ (.int .i64 0))) p (some ⟨q_, o, none⟩) c Jb Jo cj kp L N steps (A_ ++ ([.bool true, .bool false, .bool false, .int .u8 0, .int .u64 0, .int .u64 0, .int .u64 0, .int .u64 0, .int .i64 0, .int .i64 0] ++ C_)) ∧ Below L w (World.drew (((((((((((wr).setCell ⟨N, j * 10, none⟩ (.bool true)).setCell ⟨N, j * 10 + 1, none⟩ (.bool false)).setCell ⟨N, j * 10 + 2, none⟩ (.bool false)).setCell ⟨N, j * 10 + 3, none⟩ (.int .u8 0)).setCell ⟨N, j * 10 + 4, none⟩ (.int .u64 0)).setCell ⟨N, j * 10 + 5, none⟩ (.int .u64 0)).setCell ⟨N, j * 10 + 6, none⟩ (.int .u64 0)).setCell ⟨N, j * 10 + 7, none⟩ (.int .u64 0)).setCell ⟨N, j * 10 + 8, none⟩ (.int .i64 0)).setCell ⟨N, j * 10 + 9, none⟩ (.int .i64 0))) := ⟨hfin.1.below (Below.drew (Below.refl _ _)), hfin.2.drew⟩
    have hoth0 : ∀ k, k < w.heap.size → k ≠ N → World.heap (((((((((((wr).setCell ⟨N, j * 10, none⟩ (.bool true)).setCell ⟨N, j * 10 + 1, none⟩ (.bool false)).setCell ⟨N, j * 10 + 2, none⟩ (.bool false)).setCell ⟨N, j * 10 + 3, none⟩ (.int .u8 0)).setCell ⟨N, j * 10 + 4, none⟩ (.int .u64 0)).setCell ⟨N, j * 10 + 5, none⟩ (.int .u64 0)).setCell ⟨N, j * 10 + 6, none⟩ (.int .u64 0)).setCell ⟨N, j * 10 + 7, none⟩ (.int .u64 0)).setCell ⟨N, j * 10 + 8, none⟩ (.int .i64 0)).setCell ⟨N, j * 10 + 9, none⟩ (.int .i64 0)) = World.heap (wr.setCells N (j * 10) [.bool true, .bool false, .bool false, .int .u8 0, .int .u64 0, .int .u64 0, .int .u64 0, .int .u64 0, .int .i64 0, .int .i64 0]) := fun _ _ _ => rfl
    have hoth : ∀ k, k < w.heap.size → k ≠ N → (World.drew (((((((((((wr).setCell ⟨N, j * 10, none⟩ (.bool true)).setCell ⟨N, j * 10 + 1, none⟩ (.bool false)).setCell ⟨N, j * 10 + 2, none⟩ (.bool false)).setCell ⟨N, j * 10 + 3, none⟩ (.int .u8 0)).setCell ⟨N, j * 10 + 4, none⟩ (.int .u64 0)).setCell ⟨N, j * 10 + 5, none⟩ (.int .u64 0)).setCell ⟨N, j * 10 + 6, none⟩ (.int .u64 0)).setCell ⟨N, j * 10 + 7, none⟩ (.int .u64 0)).setCell ⟨N, j * 10 + 8, none⟩ (.int .i64 0)).setCell ⟨N, j * 10 + 9, none⟩ (.int .i64 0))).heap[k]? = w.heap[k]? := fun k hk hne => by rw [drew_heap, hoth0 k hk hne, heap_put_other wr N (j * 10) [.bool true, .bool false, .bool false, .int .u8 0, .int .u64 0, .int .u64 0, .int .u64 0, .int .u64 0, .int .i64 0, .int .i64 0] (Nat.lt_of_lt_of_le hk hb4.size) hne]; exact hb4.block k hk
    clear hfin
    generalize World.drew (((((((((((wr).setCell ⟨N, j * 10, none⟩ (.bool true)).setCell ⟨N, j * 10 + 1, none⟩ (.bool false)).setCell ⟨N, j * 10 + 2, none⟩ (.bool false)).setCell ⟨N, j * 10 + 3, none⟩ (.int .u8 0)).setCell ⟨N, j * 10 + 4, none⟩ (.int .u64 0)).setCell ⟨N, j * 10 + 5, none⟩ (.int .u64 0)).setCell ⟨N, j * 10 + 6, none⟩ (.int .u64 0)).setCell ⟨N, j * 10 + 7, none⟩ (.int .u64 0)).setCell ⟨N, j * 10 + 8, none⟩ (.int .i64 0)).setCell ⟨N, j * 10 + 9, none⟩ (.int .i64 0)) = V at *
    exact ⟨rfl, .tuple #[], by simp [results, Tryz.results38], rfl, hfin2.1, hfin2.2, hoth⟩

end

section
attribute [local go_sem ↓] ldFrom_589 ldFrom_604 mkS89_eq mkW94_eq mkW108_eq
abbrev zNote : List Value := [.bool false, .bool false, .bool false, .int .u8 0, .int .u64 0, .int .u64 0, .int .u64 0, .int .u64 0, .int .i64 0, .int .i64 0]
abbrev xNote : List Value := [.bool true, .bool false, .bool false, .int .u8 0, .int .u64 0, .int .u64 0, .int .u64 0, .int .u64 0, .int .i64 0, .int .i64 0]
abbrev noteN (n : Int) : List Value := [.bool true, .bool false, .bool false, .int .u8 1, .int .u64 n, .int .u64 0, .int .u64 n, .int .u64 n, .int .i64 0, .int .i64 0]
/-- The notes of what was looked at. -/
def donesV (q : List Insn) : Nat → List Value
  | 0 => []
  | j + 1 => donesV q j ++ noteN (resR (stR q j) (at' q j))
/-- The notes of what was not. -/
def todosV : Nat → List Value
  | 0 => []
  | k + 1 => zNote ++ todosV k
theorem donesV_len (q : List Insn) : ∀ j, (donesV q j).length = j * 10
  | 0 => rfl
  | j + 1 => by rw [donesV, List.length_append, donesV_len q j]; simp; omega
theorem todosV_len : ∀ k, (todosV k).length = k * 10
  | 0 => rfl
  | k + 1 => by rw [todosV, List.length_append, todosV_len k]; simp; omega
def finV (q : List Insn) : List Value := donesV q q.length ++ (xNote ++ [])
/-- What a look at a place leaves behind. -/
def AtP (p q : List Insn) (Ad : Option Addr) (c Jb Jo cj : Nat) (kp : Value) (L N : Nat) (w w' : World) : Prop := LookP w' p Ad c Jb Jo cj kp L N ((q.length : Int) + 1) (finV q) ∧ Below L w w' ∧ KeepLN L N w w'
/-- A step of each place may be looked at, and behind them register 0 holds a number. -/
structure Goes (q : List Insn) : Prop where
  rdy : ∀ j, j < q.length → Rdy (stR q j) (at' q j)
  num : ∃ n, (stR q q.length).getD 0 .no = .num n
set_option maxRecDepth 100000 in
set_option maxHeartbeats 4000000 in
theorem rat15X {p q : List Insn} (hp : Line p q) (Ad : Option Addr) (c Jb Jo cj : Nat) (kp : Value) (L N : Nat) (j : Nat) (hj : j = q.length) (rs : List RV) (hrs : StOk rs) (n : Int) (hn : rs.getD 0 .no = .num n) (w : World) (hk : LookP w p Ad c Jb Jo cj kp L N (j : Int) (donesV q j ++ (zNote ++ []))) :
    Calls Tryz.prog 15 #[.pointer (some ⟨L, 0, none⟩), .int .i64 j, .agg (stV rs).toArray] w fun e w' => e = .returned (.bool true) ∧ AtP p q Ad c Jb Jo cj kp L N w w' := by
  have hjp : j < p.length := by rw [hp.len]; omega
  have h50 : (j : Int) ≤ 50 := by have := hp.few; omega
  have hj0 : (0 : Int) ≤ (j : Int) := by omega
  have hjm : (j : Int) < (p.length : Int) := by omega
  have hat1 : SAt w w.heap.size 5 Ad p.length (insnsV p) := hk.hat.more (Nat.le_of_lt hk.ls)
  have q0 := heap1_0 w (.cells (stV rs).toArray 92)
  have hRS : World.rangeAt (w.alloc (.cells (stV rs).toArray 92)) w.heap.size 0 (stV rs) := range_of_block q0
  clear q0
  have hW0 : Below w.heap.size w (w.alloc (.cells (stV rs).toArray 92)) := below_boxes1 _ _
  have hWs : (w.alloc (.cells (stV rs).toArray 92)).heap.size = w.heap.size + 1 := by simp
  have hkW := hk.below hW0
  have hls := hk.ls
  have hln := hk.ln
  have l1 := hkW.look 1 _ rfl
  have l2 := hkW.look 2 _ rfl
  have l3 := hkW.look 3 _ rfl
  have l0 := hkW.look 0 _ rfl
  have l7 := hkW.look 7 _ rfl
  have lf := hkW.lookF
  simp only [Nat.zero_add] at l0 l1 l2 l3 l7
  have j2 := hkW.joint j hjp
  skip
  have HCT := Lib.hid (hk.count hW0 ((j : Int) + 1))
  have hSl : (stV rs).length = 589 := stV_len hrs.len
  have hstp := fun w1 (h : SAt w1 w1.heap.size 5 Ad p.length (insnsV p)) => rStep14X hp Ad c j hj rs hrs n hn w1 h
  generalize hSd : stV rs = S at *
  clear hSd
  have HJ := Lib.hid hj
  clear hj
  go_enter Tryz.func15, Tryz.ntmps15
  go_upto_region 1 with fail
  generalize w.alloc (.cells S.toArray 92) = W at *
  have hrW := Below.refl W.heap.size W
  clear hk hkW
  go_upto_region 8 with fail
  have hVs : (W.setCell ⟨L, 7, none⟩ (.int .i64 ((j : Int) + 1))).heap.size = w.heap.size + 1 := by rw [← hWs]; exact Nat.le_antisymm (by simp) (by simp)
  have hRV : World.rangeAt (W.setCell ⟨L, 7, none⟩ (.int .i64 ((j : Int) + 1))) w.heap.size 0 S := World.rangeAt_setCells_apart hRS L 7 [.int .i64 ((j : Int) + 1)] (.inl (by omega))
  have hKV : KeepLN L N W (W.setCell ⟨L, 7, none⟩ (.int .i64 ((j : Int) + 1))) := ⟨by simp, fun k hk h1 _ => heap_put_other W L 7 [.int .i64 ((j : Int) + 1)] hk h1⟩
  generalize W.setCell ⟨L, 7, none⟩ (.int .i64 ((j : Int) + 1)) = V at *
  clear l0 l1 l2 l3 l7 lf hRS hrW
  obtain ⟨hkV, hbV⟩ := HCT.out
  clear HCT
  have m0 := hkV.look 0 _ rfl
  have m1 := hkV.look 1 _ rfl
  have m2 := hkV.look 2 _ rfl
  simp only [Nat.zero_add] at m0 m1 m2
  have hLV : L < V.heap.size := by omega
  replace m0 := fun w' (h : Below V.heap.size V w') => (h.cell (p := ⟨L, 0, none⟩) hLV).trans m0
  replace m1 := fun w' (h : Below V.heap.size V w') => (h.cell (p := ⟨L, 1, none⟩) hLV).trans m1
  replace m2 := fun w' (h : Below V.heap.size V w') => (h.cell (p := ⟨L, 2, none⟩) hLV).trans m2
  have hlS : ∀ w', Below V.heap.size V w' → (ldRow ⟨w.heap.size, 0, none⟩ 589).run Tryz.prog w' = .ok S.toArray w' := fun w' h => run_ldRow (range_below hRV h (by rw [hVs]; omega)) hSl
  replace hstp := fun w1 (h : Below V.heap.size V w1) => hstp w1 ((hkV.hat.below (h.mono (Nat.le_of_lt hLV))).more (Nat.le_trans (Nat.le_of_lt hLV) h.size))
  have HKV := Lib.hid hkV
  have HVS := Lib.hid hVs
  clear hkV hat1 hRV hVs hWs
  have hrV := Below.refl V.heap.size V
  go_region_held3 (fun w' => Below V.heap.size V w') (first | assumption | exact sbelow_drew (by assumption) | exact sbelow_alloc (by assumption) (Nat.le_refl _))
    (first | (go_at_call 37; refine (hstp _ (by assumption)).mono ?_; rintro e w2 ⟨rfl, hc2⟩; have hS2 : Below V.heap.size V w2 := below_step (by assumption) (Nat.le_refl _) hc2))
  have hk2 := HKV.out.below hS2
  have hN := HKV.out.nw
  have hKw2 : KeepLN L N w w2 := ((KeepLN.of hW0).trans hKV).trans (KeepLN.of hS2)
  have hBw2 : Below L w w2 := hbV.trans (hS2.mono (Nat.le_of_lt hLV))
  have hnt := rnote15X hp Ad c Jb Jo cj kp L N ((j : Int) + 1) j HJ.out (donesV q j) [] (donesV_len q j) w2 hk2
  clear hk2 HKV hlS m0 m1 m2 hstp hKV hbV HVS hrV hc2 hS2 hW0 hN hLV
  go_wp2_with fail
  refine hnt.mono ?_
  rintro e w3 ⟨rfl, hk3, hb3, ho3⟩
  clear hnt
  replace hk3 : LookP w3 p Ad c Jb Jo cj kp L N ((q.length : Int) + 1) (finV q) := by rw [← HJ.out]; rw [show finV q = donesV q j ++ (xNote ++ []) by rw [HJ.out]; rfl]; exact hk3
  have HF := Lib.hid (And.intro hk3 (And.intro (hBw2.trans hb3) (hKw2.trans (keep_note hb3 ho3))))
  clear hk3 hb3 ho3 hBw2 hKw2
  go_wp2_with fail
  go_loopw [9] (fun k wr => k = .int .i64 0 ∧ wr = w3) (fun k _ => 0)
  case atStart => exact ⟨rfl, rfl⟩
  case round =>
    obtain ⟨rfl, rfl⟩ := hrel
    have p3 := HF.out.1.look 3 _ rfl
    simp only [Nat.zero_add] at p3
    have j2 := HF.out.1.joint j hjp
    go_wp2_with fail
    go_ret
    exact ⟨rfl, HF.out⟩
set_option maxRecDepth 100000 in
set_option maxHeartbeats 4000000 in
theorem rat15V {p q : List Insn} (hp : Line p q) (Ad : Option Addr) (c Jb Jo cj : Nat) (kp : Value) (L N : Nat) (j : Nat) (hj : j < q.length) (rs : List RV) (hrs : StOk rs) (hrd : Rdy rs (at' p j)) (n : Int) (hn : resR rs (at' p j) = n)
    (hnext : ∀ w, LookP w p Ad c Jb Jo cj kp L N ((j : Int) + 1) (donesV q j ++ (noteN n ++ todosV (p.length - (j + 1)))) → Calls Tryz.prog 15 #[.pointer (some ⟨L, 0, none⟩), .int .i64 ((j : Int) + 1), .agg (stV (stepR rs (at' p j))).toArray] w fun e w' => e = .returned (.bool true) ∧ AtP p q Ad c Jb Jo cj kp L N w w')
    (w : World) (hk : LookP w p Ad c Jb Jo cj kp L N (j : Int) (donesV q j ++ (zNote ++ todosV (p.length - (j + 1))))) :
    Calls Tryz.prog 15 #[.pointer (some ⟨L, 0, none⟩), .int .i64 j, .agg (stV rs).toArray] w fun e w' => e = .returned (.bool true) ∧ AtP p q Ad c Jb Jo cj kp L N w w' := by
  have hjp : j < p.length := by rw [hp.len]; omega
  have h50 : (j : Int) ≤ 50 := by have := hp.few; omega
  have hj0 : (0 : Int) ≤ (j : Int) := by omega
  have hjm : (j : Int) < (p.length : Int) := by omega
  have HRL := Lib.hid hrs.len
  have HRL2 := Lib.hid (hrs.next (hp.lin_at hj)).len
  have hres : (stepR rs (at' p j)).getD (at' p j).dst.toNat .no = .num n := by
    unfold stepR
    rw [getD_set (by rw [hrs.len]; have := (hp.lin_at hj).dst9; omega), if_pos rfl, hn]
  have HRN := Lib.hid hres
  clear hres
  have hle : (p.length : Int) ≤ 51 := by have := hp.few; have := hp.len; omega
  have hat1 : SAt w w.heap.size 5 Ad p.length (insnsV p) := hk.hat.more (Nat.le_of_lt hk.ls)
  have q0 := heap1_0 w (.cells (stV rs).toArray 92)
  have hRS : World.rangeAt (w.alloc (.cells (stV rs).toArray 92)) w.heap.size 0 (stV rs) := range_of_block q0
  clear q0
  have hW0 : Below w.heap.size w (w.alloc (.cells (stV rs).toArray 92)) := below_boxes1 _ _
  have hWs : (w.alloc (.cells (stV rs).toArray 92)).heap.size = w.heap.size + 1 := by simp
  have hkW := hk.below hW0
  have hls := hk.ls
  have hln := hk.ln
  have l1 := hkW.look 1 _ rfl
  have l2 := hkW.look 2 _ rfl
  have l3 := hkW.look 3 _ rfl
  have l0 := hkW.look 0 _ rfl
  have l7 := hkW.look 7 _ rfl
  have lf := hkW.lookF
  simp only [Nat.zero_add] at l0 l1 l2 l3 l7
  have j1 := hkW.joint j hjp
  skip
  have HCT := Lib.hid (hk.count hW0 ((j : Int) + 1))
  have hSl : (stV rs).length = 589 := stV_len HRL.out
  have hstp := fun w1 (h : SAt w1 w1.heap.size 5 Ad p.length (insnsV p)) => rStep14V hp Ad c j hj rs hrs hrd w1 h
  generalize hSd : stV rs = S at *
  clear hSd
  go_enter Tryz.func15, Tryz.ntmps15
  go_upto_region 1 with fail
  generalize w.alloc (.cells S.toArray 92) = W at *
  have hrW := Below.refl W.heap.size W
  clear hk hkW
  go_upto_region 8 with fail
  have hVs : (W.setCell ⟨L, 7, none⟩ (.int .i64 ((j : Int) + 1))).heap.size = w.heap.size + 1 := by rw [← hWs]; exact Nat.le_antisymm (by simp) (by simp)
  have hRV : World.rangeAt (W.setCell ⟨L, 7, none⟩ (.int .i64 ((j : Int) + 1))) w.heap.size 0 S := World.rangeAt_setCells_apart hRS L 7 [.int .i64 ((j : Int) + 1)] (.inl (by omega))
  have hKV : KeepLN L N W (W.setCell ⟨L, 7, none⟩ (.int .i64 ((j : Int) + 1))) := ⟨by simp, fun k hk h1 _ => heap_put_other W L 7 [.int .i64 ((j : Int) + 1)] hk h1⟩
  generalize W.setCell ⟨L, 7, none⟩ (.int .i64 ((j : Int) + 1)) = V at *
  clear l0 l1 l2 l3 l7 lf hRS hrW
  obtain ⟨hkV, hbV⟩ := HCT.out
  clear HCT
  have m0 := hkV.look 0 _ rfl
  have m1 := hkV.look 1 _ rfl
  have m2 := hkV.look 2 _ rfl
  simp only [Nat.zero_add] at m0 m1 m2
  have hLV : L < V.heap.size := by omega
  replace m0 := fun w' (h : Below V.heap.size V w') => (h.cell (p := ⟨L, 0, none⟩) hLV).trans m0
  replace m1 := fun w' (h : Below V.heap.size V w') => (h.cell (p := ⟨L, 1, none⟩) hLV).trans m1
  replace m2 := fun w' (h : Below V.heap.size V w') => (h.cell (p := ⟨L, 2, none⟩) hLV).trans m2
  have hlS : ∀ w', Below V.heap.size V w' → (ldRow ⟨w.heap.size, 0, none⟩ 589).run Tryz.prog w' = .ok S.toArray w' := fun w' h => run_ldRow (range_below hRV h (by rw [hVs]; omega)) hSl
  replace hstp := fun w1 (h : Below V.heap.size V w1) => hstp w1 ((hkV.hat.below (h.mono (Nat.le_of_lt hLV))).more (Nat.le_trans (Nat.le_of_lt hLV) h.size))
  have HKV := Lib.hid hkV
  have HVS := Lib.hid hVs
  clear hkV hat1 hRV hVs hWs
  have hrV := Below.refl V.heap.size V
  go_region_held3 (fun w' => Below V.heap.size V w') (first | assumption | exact sbelow_drew (by assumption) | exact sbelow_alloc (by assumption) (Nat.le_refl _))
    (first | (go_at_call 37; refine (hstp _ (by assumption)).mono ?_; rintro e w2 ⟨b, rfl, hb0, hr2, hc2⟩; have hS2 : Below V.heap.size V w2 := below_step (by assumption) (Nat.le_refl _) hc2))
  have hk2 := HKV.out.below hS2
  have hN := HKV.out.nw
  have hKw2 : KeepLN L N w w2 := ((KeepLN.of hW0).trans hKV).trans (KeepLN.of hS2)
  have hBw2 : Below L w w2 := hbV.trans (hS2.mono (Nat.le_of_lt hLV))
  have hbw : b < w2.heap.size := World.block_lt_of_cell? w2 _ (hr2 0 _ rfl)
  have hb1 : V.heap.size ≤ b := hb0
  have hbN : b ≠ N := by omega
  have hbL : b ≠ L := by omega
  clear hb1
  have hnt := rnote15V hp Ad c Jb Jo cj kp L N ((j : Int) + 1) j hj (donesV q j) (todosV (p.length - (j + 1))) (donesV_len q j) w2 hk2 b hbw (stepR rs (at' p j)) HRL2.out n HRN.out hr2
  clear hk2 HKV hlS m0 m1 m2 hstp hKV hbV HVS hrV hc2 hS2 hW0 hN hLV hb0
  go_wp2_with fail
  refine hnt.mono ?_
  rintro e w3 ⟨rfl, hk3, hb3, ho3⟩
  clear hnt
  have hK3 : KeepLN L N w2 w3 := keep_note hb3 ho3
  have hB3 := hBw2.trans hb3
  have hKw3 := hKw2.trans hK3
  have hr3 : w3.rangeAt b 0 (.int .i64 ((j + 1 : Nat) : Int) :: stV (stepR rs (at' p j))) := fun k u hu => by rw [hK3.cell hbw hbL hbN]; exact hr2 k u hu
  have hbw3 : b < w3.heap.size := Nat.lt_of_lt_of_le hbw hK3.1
  clear hr2 hbw hK3 hb3 ho3 hBw2 hKw2
  have g0 : ∀ w', KeepLN L N w3 w' → w'.cell? ⟨b, 0, none⟩ = some (.int .i64 ((j : Int) + 1)) := fun w' h => by have := hr3 0 _ rfl; rw [h.cell hbw3 hbL hbN]; exact this
  have hlW : ∀ w', KeepLN L N w3 w' → (ldRow ⟨b, 1, none⟩ 589).run Tryz.prog w' = .ok (stV (stepR rs (at' p j))).toArray w' := fun w' h => run_ldRow (fun k u hu => by rw [h.cell hbw3 hbL hbN]; have := hr3 (k + 1) u (by simpa using hu); rwa [show 0 + (k + 1) = 1 + k by omega] at this) (stV_len HRL2.out)
  have hat3 := hnext w3.drew (hk3.below (Below.drew (Below.refl _ _)))
  generalize stV (stepR rs (at' p j)) = S1 at *
  clear hr3
  go_wp2_with fail
  go_loopw [9] (fun k wr => (k = .int .i64 0 ∧ wr = w3) ∨ (k = .int .i64 1 ∧ AtP p q Ad c Jb Jo cj kp L N w wr)) (fun k _ => 1 - (intOf k).toNat)
  case atStart => exact .inl ⟨rfl, rfl⟩
  case round =>
    rcases hrel with ⟨rfl, rfl⟩ | ⟨rfl, hA⟩
    · go_upto_region 17 with fail
      have hrK : KeepLN L N wr wr := KeepLN.refl
      go_region_held3 (fun w' => KeepLN L N wr w') (first | assumption | exact KeepLN.drew (by assumption))
        (first | (go_at_call 15; refine hat3.mono ?_; rintro e w5 ⟨rfl, hA5⟩; have hS5 : KeepLN L N wr w5 := hA5.2.2))
      have HA5 := Lib.hid (show AtP p q Ad c Jb Jo cj kp L N w w5 from ⟨hA5.1, hB3.trans ((Below.drew (Below.refl _ _)).trans hA5.2.1), hKw3.trans hA5.2.2⟩)
      clear hA5 hS5 hB3 hKw3 hk3
      go_wp2_with fail
      go_roundw
      case rel => exact .inr ⟨by go_num, HA5.out⟩
      case measure => simp [intOf]
    · have p3 := hA.1.look 3 _ rfl
      simp only [Nat.zero_add] at p3
      have j1 := hA.1.joint j hjp
      have HA := Lib.hid hA
      clear hA
      go_wp2_with fail
      go_ret
      exact ⟨rfl, HA.out⟩
theorem rat15_any {p q : List Insn} (hp : Line p q) (hg : Goes q) (Ad : Option Addr) (c Jb Jo cj : Nat) (kp : Value) (L N : Nat) : ∀ (d j : Nat), j + d = q.length → ∀ w, LookP w p Ad c Jb Jo cj kp L N (j : Int) (donesV q j ++ todosV (p.length - j)) →
    Calls Tryz.prog 15 #[.pointer (some ⟨L, 0, none⟩), .int .i64 j, .agg (stV (stR q j)).toArray] w fun e w' => e = .returned (.bool true) ∧ AtP p q Ad c Jb Jo cj kp L N w w'
  | 0, j, hd, w, hk => by
    obtain ⟨n, hn⟩ := hg.num
    have hj : j = q.length := by omega
    rw [show p.length - j = 0 + 1 by rw [hp.len]; omega] at hk
    exact rat15X hp Ad c Jb Jo cj kp L N j hj (stR q j) (stR_ok hp.lin j (by omega)) n (by rw [hj]; exact hn) w hk
  | d + 1, j, hd, w, hk => by
    have hj : j < q.length := by omega
    have e := hp.at_lt hj
    rw [show p.length - j = (p.length - (j + 1)) + 1 by rw [hp.len]; omega] at hk
    refine rat15V hp Ad c Jb Jo cj kp L N j hj (stR q j) (stR_ok hp.lin j (by omega)) (by rw [e]; exact hg.rdy j hj) (resR (stR q j) (at' q j)) (by rw [e]) (fun w1 hk1 => ?_) w hk
    have h := rat15_any hp hg Ad c Jb Jo cj kp L N d (j + 1) (by omega) w1 (by rw [donesV, List.append_assoc]; exact hk1)
    rw [e]
    exact h

end

section
theorem todosV_made (n : Nat) : (madeCells (Value.agg (zNote).toArray).cells (n * 10)) = (todosV n).toArray := by
  have hz : (Value.agg (zNote).toArray).cells = zNote.toArray := rfl
  rw [hz]
  apply Array.ext'
  simp only [madeCells, Array.toList_map, Array.toList_range]
  apply List.ext_getElem?
  intro k
  rcases Nat.lt_or_ge k (n * 10) with hk | hk
  · rw [List.getElem?_map, List.getElem?_range hk]
    induction n generalizing k with
    | zero => omega
    | succ n ih =>
      rw [todosV]
      by_cases h10 : k < 10
      · rw [List.getElem?_append_left (by simpa using h10)]
        have hk10 : k = 0 ∨ k = 1 ∨ k = 2 ∨ k = 3 ∨ k = 4 ∨ k = 5 ∨ k = 6 ∨ k = 7 ∨ k = 8 ∨ k = 9 := by omega
        rcases hk10 with rfl | rfl | rfl | rfl | rfl | rfl | rfl | rfl | rfl | rfl <;> rfl
      · rw [List.getElem?_append_right (by simpa using h10)]
        have := ih (k - 10) (by omega)
        rw [show k - zNote.length = k - 10 by rfl, ← this]
        simp only [Option.map_some, Option.some.injEq]
        rw [show (zNote.toArray).size = 10 by rfl, show k % 10 = (k - 10) % 10 by omega]
  · rw [List.getElem?_eq_none (by simpa using hk), List.getElem?_eq_none (by rw [todosV_len]; exact hk)]
theorem makeNotes (n : Nat) (hn : n ≤ 100000) (w : World) : (Instr.makeSlice 32 (.int .i64 (n : Int)) (.int .i64 (n : Int))).run Tryz.prog w = .ok (.slice (some ⟨w.heap.size, 0, none⟩) n n) (w.alloc (.cells (todosV n).toArray 68)) := by
  obtain ⟨i, hi, hz, hs, hb⟩ := info_parts info43'
  have hr := run_make (P := Tryz.prog) w 32 68 i _ Tryz.underlying32 hi hz .i64 .i64 n n (by omega) (Int.le_refl _) (by rw [hb]; omega) (by omega)
  rw [hs, Int.toNat_natCast] at hr
  have e := todosV_made n
  rw [show (Value.agg (zNote).toArray).cells = (Value.agg #[.bool false, .bool false, .bool false, .int .u8 0, .int .u64 0, .int .u64 0, .int .u64 0, .int .u64 0, .int .i64 0, .int .i64 0]).cells by rfl] at e
  rw [e] at hr
  exact hr
theorem look_madeP {p : List Insn} {V : World} {Ad : Option Addr} {c jb L : Nat} {kp : Value} (hVs : V.heap.size = L + 1) (hVr : V.rangeAt L 0 [.slice Ad p.length c, .slice none 0 0, .int .i64 0, .slice (some ⟨jb, 0, none⟩) p.length p.length, kp, .int .i64 0, .int .i64 0, .int .i64 0, .slice none 0 0]) (hVf : ∀ k, V.frozen? ⟨L, k, none⟩ = false)
    (hJ : ∀ k, k < p.length → V.cell? ⟨jb, 0 + k, none⟩ = some (.bool false)) (hjL : jb < L) (hat : SAt V L 5 Ad p.length (insnsV p)) : LookP ((V.setCell ⟨L, 8, none⟩ (.slice (some ⟨L + 1, 0, none⟩) p.length p.length)).alloc (.cells (todosV p.length).toArray 68)) p Ad c jb 0 p.length kp L (L + 1) 0 (todosV p.length) := by
  have e1 : (V.setCell ⟨L, 8, none⟩ (.slice (some ⟨L + 1, 0, none⟩) p.length p.length)).heap.size = L + 1 := (size_put V L 8 [.slice (some ⟨L + 1, 0, none⟩) p.length p.length]).trans hVs
  have b1 : Below L V (V.setCell ⟨L, 8, none⟩ (.slice (some ⟨L + 1, 0, none⟩) p.length p.length)) := below_setCells L (Nat.le_refl _) [.slice (some ⟨L + 1, 0, none⟩) p.length p.length] 8 (Below.refl L V)
  have b2 : Below L V ((V.setCell ⟨L, 8, none⟩ (.slice (some ⟨L + 1, 0, none⟩) p.length p.length)).alloc (.cells (todosV p.length).toArray 68)) := b1.alloc (by omega) _
  have r1 : World.rangeAt (V.setCell ⟨L, 8, none⟩ (.slice (some ⟨L + 1, 0, none⟩) p.length p.length)) L 0 (lookPL p Ad c jb 0 p.length kp (L + 1) 0) := range_put (A := [.slice Ad p.length c, .slice none 0 0, .int .i64 0, .slice (some ⟨jb, 0, none⟩) p.length p.length, kp, .int .i64 0, .int .i64 0, .int .i64 0]) (B := [.slice none 0 0]) (C := []) (vs := [.slice (some ⟨L + 1, 0, none⟩) p.length p.length]) hVr rfl
  have f1 : ∀ k, World.frozen? (V.setCell ⟨L, 8, none⟩ (.slice (some ⟨L + 1, 0, none⟩) p.length p.length)) ⟨L, k, none⟩ = false := fun k => (World.frozen?_setCells L [.slice (some ⟨L + 1, 0, none⟩) p.length p.length] 8 _ _).trans (hVf k)
  have h1 := heap1_0 (V.setCell ⟨L, 8, none⟩ (.slice (some ⟨L + 1, 0, none⟩) p.length p.length)) (.cells (todosV p.length).toArray 68)
  rw [e1] at h1
  have f2 : ∀ k, World.frozen? ((V.setCell ⟨L, 8, none⟩ (.slice (some ⟨L + 1, 0, none⟩) p.length p.length)).alloc (.cells (todosV p.length).toArray 68)) ⟨L, k, none⟩ = false := fun k => (((Below.refl (V.setCell ⟨L, 8, none⟩ (.slice (some ⟨L + 1, 0, none⟩) p.length p.length)).heap.size (V.setCell ⟨L, 8, none⟩ (.slice (some ⟨L + 1, 0, none⟩) p.length p.length))).alloc (Nat.le_refl _) _).frozen (p := ⟨L, k, none⟩) (by show L < _; omega)).trans (f1 k)
  have f3 : ∀ k, World.frozen? ((V.setCell ⟨L, 8, none⟩ (.slice (some ⟨L + 1, 0, none⟩) p.length p.length)).alloc (.cells (todosV p.length).toArray 68)) ⟨L + 1, k, none⟩ = false := fun k => boxt h1 k _ (Below.refl _ _)
  exact {
    ln := by omega
    nw := by have := (Array.getElem?_eq_some_iff.1 h1).1; exact this
    look := World.rangeAt_alloc r1 _
    lookF := f2
    nts := range_of_block h1
    ntsF := f3
    hat := hat.below b2
    jlt := hjL
    joint := fun k hk => (b2.cell (p := ⟨jb, 0 + k, none⟩) hjL).trans (hJ k hk) }
set_option maxRecDepth 100000 in
set_option maxHeartbeats 4000000 in
theorem rprogram15V {p q : List Insn} (hp : Line p q) (hg : Goes q) (Ad : Option Addr) (c : Nat) (w : World) (hat : SAt w w.heap.size 5 Ad p.length (insnsV p)) :
    Calls Tryz.prog 5 #[.slice Ad p.length c, .agg #[.slice none 0 0, .int .i64 0]] w fun e w' => ∃ N, e = .returned (.agg #[.int .i64 0, .int .i64 0, .int .i64 ((q.length : Int) + 1), .slice (some ⟨N, 0, none⟩) p.length p.length]) ∧ w.heap.size ≤ N ∧ N < w'.heap.size ∧ w'.rangeAt N 0 (finV q) ∧ Below w.heap.size w w' := by
  have hlen_ : p.length ≤ 100000 := by rw [hp.len]; have := hp.few; omega
  have hck := fun (w1 : World) (hb : Below w.heap.size w w1) => rcheck_any p hp.ok Ad c hlen_ w1 ((hat.below hb).more hb.size)
  rw [hp.check] at hck
  have hjo := fun (w1 : World) (hb : Below w.heap.size w w1) => rjoints15V hp Ad c w1 ((hat.below hb).more hb.size)
  obtain ⟨KZ, hKZ⟩ : ∃ KZ, KZ = madeCells #[Value.slice none 0 0] p.length := ⟨_, rfl⟩
  have hm73 : ∀ w, (Instr.makeSlice 83 (.int .i64 (p.length : Int)) (.int .i64 (p.length : Int))).run Tryz.prog w = .ok (.slice (some ⟨w.heap.size, 0, none⟩) p.length p.length) (w.alloc (.cells KZ 123)) := fun w => by
    rw [hKZ]
    exact run_make_row' (P := Tryz.prog) 83 123 (.slice none 0 0) 24 Tryz.underlying83 info95' rfl .i64 .i64 p.length (by omega) (by omega) w
  clear hKZ
  have q0 : ((w.alloc (.cells #[.slice none 0 0, .int .i64 0] 38)).alloc (.cells #[.int .i64 0, .int .i64 0, .int .i64 0, .slice none 0 0] 34)).heap[w.heap.size]? = some (.cells #[.slice none 0 0, .int .i64 0] 38) := heap2_0 _ _ _
  have q1 : ((w.alloc (.cells #[.slice none 0 0, .int .i64 0] 38)).alloc (.cells #[.int .i64 0, .int .i64 0, .int .i64 0, .slice none 0 0] 34)).heap[w.heap.size + 1]? = some (.cells #[.int .i64 0, .int .i64 0, .int .i64 0, .slice none 0 0] 34) := heap2_1 _ _ _
  have e0 := boxc (k := 0) (u := .slice none 0 0) q0 rfl
  have e1 := boxc (k := 1) (u := .int .i64 0) q0 rfl
  have v0 := boxc (k := 0) (u := .int .i64 0) q1 rfl
  have v1 := boxc (k := 1) (u := .int .i64 0) q1 rfl
  have v2 := boxc (k := 2) (u := .int .i64 0) q1 rfl
  have v3 := boxc (k := 3) (u := .slice none 0 0) q1 rfl
  have tv := boxt q1
  clear q0 q1
  have hW0 : Below w.heap.size w ((w.alloc (.cells #[.slice none 0 0, .int .i64 0] 38)).alloc (.cells #[.int .i64 0, .int .i64 0, .int .i64 0, .slice none 0 0] 34)) := below_boxes2 _ _ _
  have hWs : ((w.alloc (.cells #[.slice none 0 0, .int .i64 0] 38)).alloc (.cells #[.int .i64 0, .int .i64 0, .int .i64 0, .slice none 0 0] 34)).heap.size = w.heap.size + 2 := by simp
  have hrf := Below.refl ((w.alloc (.cells #[.slice none 0 0, .int .i64 0] 38)).alloc (.cells #[.int .i64 0, .int .i64 0, .int .i64 0, .slice none 0 0] 34)).heap.size ((w.alloc (.cells #[.slice none 0 0, .int .i64 0] 38)).alloc (.cells #[.int .i64 0, .int .i64 0, .int .i64 0, .slice none 0 0] 34))
  go_enter Tryz.func5, Tryz.ntmps5
  go_upto_region 1 with fail
  generalize (w.alloc (.cells #[.slice none 0 0, .int .i64 0] 38)).alloc (.cells #[.int .i64 0, .int .i64 0, .int .i64 0, .slice none 0 0] 34) = W at *
  have HWS := Lib.hid hWs
  clear hWs
  replace hck := fun w1 (h : Below W.heap.size W w1) => hck w1 (hW0.trans (h.mono hW0.size))
  replace hjo := fun w1 (h : Below W.heap.size W w1) => hjo w1 (hW0.trans (h.mono hW0.size))
  go_wp2_with fail
  refine (hck _ hrf).mono ?_
  rintro e w1 ⟨rfl, hc1⟩
  have hb1 : Below W.heap.size W w1 := hc1
  clear hc1
  have E0 := e0 _ hb1
  have E1 := e1 _ hb1
  go_wp2_with fail
  refine (rgiven14 _).mono ?_
  rintro e w2 ⟨rfl, hc2⟩
  have hb2 := hb1.trans (hc2.mono hb1.size)
  clear hc2
  clear E0 E1
  go_upto_region 4 with fail
  have hrw := hb2
  go_region_held3 (fun w' => Below W.heap.size W w') (first | assumption | exact sbelow_drew (by assumption) | exact sbelow_alloc (by assumption) (Nat.le_refl _) | exact sbelow_drew (sbelow_alloc (by assumption) (Nat.le_refl _)) | exact sbelow_alloc (sbelow_alloc (by assumption) (Nat.le_refl _)) (Nat.le_refl _))
    (first | (go_at_call 14; refine (hjo _ (by assumption)).mono ?_; rintro e w5 ⟨⟨jb, rfl, hj0, hj1, hjc⟩, hc5⟩; have hS5 : Below W.heap.size W w5 := below_step (by assumption) (Nat.le_refl _) hc5))
  · have hP : Below W.heap.size W (w5.alloc (.cells KZ 123)) := hS5.alloc hS5.size _
    have hJ : ∀ k, k < p.length → World.cell? ((w5.alloc (.cells KZ 123)).alloc (.cells #[.slice Ad p.length c, .slice none 0 0, .int .i64 0, .slice (some ⟨jb, 0, none⟩) p.length p.length, .slice (some ⟨w5.heap.size, 0, none⟩) p.length p.length, .int .i64 0, .int .i64 0, .int .i64 0, .slice none 0 0] 85)) ⟨jb, 0 + k, none⟩ = some (.bool false) := fun k hk => (((Below.refl w5.heap.size w5).alloc (Nat.le_refl _) _).alloc (by simp) _ |>.cell (p := ⟨jb, 0 + k, none⟩) hj1).trans (hjc k hk)
    have hVW : Below W.heap.size W ((w5.alloc (.cells KZ 123)).alloc (.cells #[.slice Ad p.length c, .slice none 0 0, .int .i64 0, .slice (some ⟨jb, 0, none⟩) p.length p.length, .slice (some ⟨w5.heap.size, 0, none⟩) p.length p.length, .int .i64 0, .int .i64 0, .int .i64 0, .slice none 0 0] 85)) := hP.alloc hP.size _
    have hVr : World.rangeAt ((w5.alloc (.cells KZ 123)).alloc (.cells #[.slice Ad p.length c, .slice none 0 0, .int .i64 0, .slice (some ⟨jb, 0, none⟩) p.length p.length, .slice (some ⟨w5.heap.size, 0, none⟩) p.length p.length, .int .i64 0, .int .i64 0, .int .i64 0, .slice none 0 0] 85)) (w5.heap.size + 1) 0 [.slice Ad p.length c, .slice none 0 0, .int .i64 0, .slice (some ⟨jb, 0, none⟩) p.length p.length, .slice (some ⟨w5.heap.size, 0, none⟩) p.length p.length, .int .i64 0, .int .i64 0, .int .i64 0, .slice none 0 0] := by have := range_of_block (xs := [.slice Ad p.length c, .slice none 0 0, .int .i64 0, .slice (some ⟨jb, 0, none⟩) p.length p.length, .slice (some ⟨w5.heap.size, 0, none⟩) p.length p.length, .int .i64 0, .int .i64 0, .int .i64 0, .slice none 0 0]) (heap1_0 (w5.alloc (.cells KZ 123)) (.cells #[.slice Ad p.length c, .slice none 0 0, .int .i64 0, .slice (some ⟨jb, 0, none⟩) p.length p.length, .slice (some ⟨w5.heap.size, 0, none⟩) p.length p.length, .int .i64 0, .int .i64 0, .int .i64 0, .slice none 0 0] 85)); simpa using this
    have hVf : ∀ k, World.frozen? ((w5.alloc (.cells KZ 123)).alloc (.cells #[.slice Ad p.length c, .slice none 0 0, .int .i64 0, .slice (some ⟨jb, 0, none⟩) p.length p.length, .slice (some ⟨w5.heap.size, 0, none⟩) p.length p.length, .int .i64 0, .int .i64 0, .int .i64 0, .slice none 0 0] 85)) ⟨w5.heap.size + 1, k, none⟩ = false := by have := fun k => boxt (heap1_0 (w5.alloc (.cells KZ 123)) (.cells #[.slice Ad p.length c, .slice none 0 0, .int .i64 0, .slice (some ⟨jb, 0, none⟩) p.length p.length, .slice (some ⟨w5.heap.size, 0, none⟩) p.length p.length, .int .i64 0, .int .i64 0, .int .i64 0, .slice none 0 0] 85)) k _ (Below.refl _ _); simpa using this
    have hVs : (World.heap ((w5.alloc (.cells KZ 123)).alloc (.cells #[.slice Ad p.length c, .slice none 0 0, .int .i64 0, .slice (some ⟨jb, 0, none⟩) p.length p.length, .slice (some ⟨w5.heap.size, 0, none⟩) p.length p.length, .int .i64 0, .int .i64 0, .int .i64 0, .slice none 0 0] 85))).size = w5.heap.size + 1 + 1 := by simp
    have hjL : jb < w5.heap.size + 1 := by omega
    have hWL : W.heap.size ≤ w5.heap.size + 1 := by have := hS5.size; omega
    generalize hkp : (.slice (some ⟨w5.heap.size, 0, none⟩) p.length p.length : Value) = kp at *
    generalize (w5.alloc (.cells KZ 123)).alloc (.cells #[.slice Ad p.length c, .slice none 0 0, .int .i64 0, .slice (some ⟨jb, 0, none⟩) p.length p.length, kp, .int .i64 0, .int .i64 0, .int .i64 0, .slice none 0 0] 85) = V at *
    generalize w5.heap.size + 1 = L at *
    clear hP hj0 hj1 hjc hkp
    have hm23 := makeNotes p.length hlen_ V
    rw [hVs] at hm23
    have hVN : Below V.heap.size V (V.alloc (.cells (todosV p.length).toArray 68)) := (Below.refl _ _).alloc (Nat.le_refl _) _
    have hNr : World.rangeAt (V.alloc (.cells (todosV p.length).toArray 68)) L 0 [.slice Ad p.length c, .slice none 0 0, .int .i64 0, .slice (some ⟨jb, 0, none⟩) p.length p.length, kp, .int .i64 0, .int .i64 0, .int .i64 0, .slice none 0 0] := World.rangeAt_alloc hVr _
    have hNf : ∀ k, World.frozen? (V.alloc (.cells (todosV p.length).toArray 68)) ⟨L, k, none⟩ = false := fun k => (hVN.frozen (p := ⟨L, k, none⟩) (by show L < _; omega)).trans (hVf k)
    have m8 := hNr 8 _ rfl
    have mf := hNf 8
    simp only [Nat.zero_add] at m8
    go_upto_region 6 with fail
    have hwL : w.heap.size ≤ L := by have := HWS.out; omega
    have hXL : Below w.heap.size w ((V.setCell ⟨L, 8, none⟩ (.slice (some ⟨L + 1, 0, none⟩) p.length p.length)).alloc (.cells (todosV p.length).toArray 68)) := ((hW0.trans (hVW.mono hW0.size)).setCell hwL _).alloc (by have := HWS.out; simp; omega) _
    have hXW : Below W.heap.size W ((V.setCell ⟨L, 8, none⟩ (.slice (some ⟨L + 1, 0, none⟩) p.length p.length)).alloc (.cells (todosV p.length).toArray 68)) := (hVW.setCell hWL _).alloc (by simp; omega) _
    have hatV : SAt V L 5 Ad p.length (insnsV p) := (hat.below (hW0.trans (hVW.mono hW0.size))).more hwL
    have hLX : LookP ((V.setCell ⟨L, 8, none⟩ (.slice (some ⟨L + 1, 0, none⟩) p.length p.length)).alloc (.cells (todosV p.length).toArray 68)) p Ad c jb 0 p.length kp L (L + 1) 0 (todosV p.length) := look_madeP hVs hVr hVf hJ hjL hatV
    generalize (V.setCell ⟨L, 8, none⟩ (.slice (some ⟨L + 1, 0, none⟩) p.length p.length)).alloc (.cells (todosV p.length).toArray 68) = X at *
    clear hm23 hVN hNr hNf m8 mf hVs hVr hVf hJ hVW
    go_wp2_with fail
    refine (rfirst13 _).mono ?_
    rintro e w6 ⟨rfl, hc6⟩
    have hk6 := hLX.below hc6
    have hX6 := hXL.trans (hc6.mono hXL.size)
    have hW6 := hXW.trans (hc6.mono hXW.size)
    have hLX6 : L < w6.heap.size := hk6.ls
    clear hc6 hLX hXL hXW
    go_wp2_with fail
    refine (rat15_any hp hg Ad c jb 0 p.length kp L (L + 1) q.length 0 (Nat.zero_add _) w6 hk6).mono ?_
    rintro e w7 ⟨rfl, hA⟩
    have hb7 : Below W.heap.size W w7 := hW6.trans (hA.2.1.mono hWL)
    have hw7 : Below w.heap.size w w7 := hX6.trans (hA.2.1.mono (by have := HWS.out; omega))
    have p5 := hA.1.look 5 _ rfl
    have p6 := hA.1.look 6 _ rfl
    have p7 := hA.1.look 7 _ rfl
    have p8 := hA.1.look 8 _ rfl
    simp only [Nat.zero_add] at p5 p6 p7 p8
    have V0 := v0 _ hb7
    have V1 := v1 _ hb7
    have V2 := v2 _ hb7
    have V3 := v3 _ hb7
    have tv7 := fun k => tv k _ hb7
    have HA := Lib.hid hA
    clear hA hk6 hX6 hW6 v0 v1 v2 v3 tv hjo hck e0 e1
    go_wp2_with fail
    have hCr : World.rangeAt (((((w7).setCell ⟨w.heap.size + 1, 0, none⟩ (.int .i64 0)).setCell ⟨w.heap.size + 1, 1, none⟩ (.int .i64 0)).setCell ⟨w.heap.size + 1, 2, none⟩ (.int .i64 ((q.length : Int) + 1))).setCell ⟨w.heap.size + 1, 3, none⟩ (.slice (some ⟨L + 1, 0, none⟩) p.length p.length)) (w.heap.size + 1) 0 [.int .i64 0, .int .i64 0, .int .i64 ((q.length : Int) + 1), .slice (some ⟨L + 1, 0, none⟩) p.length p.length] := World.rangeAt_setCells_same w7 (w.heap.size + 1) 0 [.int .i64 0, .int .i64 0, .int .i64 ((q.length : Int) + 1), .slice (some ⟨L + 1, 0, none⟩) p.length p.length] (fun k hk => ⟨by rcases (by simp at hk; omega : k = 0 ∨ k = 1 ∨ k = 2 ∨ k = 3) with rfl | rfl | rfl | rfl <;> simp [V0, V1, V2, V3], tv7 _⟩)
    have hCb : Below w.heap.size w (((((w7).setCell ⟨w.heap.size + 1, 0, none⟩ (.int .i64 0)).setCell ⟨w.heap.size + 1, 1, none⟩ (.int .i64 0)).setCell ⟨w.heap.size + 1, 2, none⟩ (.int .i64 ((q.length : Int) + 1))).setCell ⟨w.heap.size + 1, 3, none⟩ (.slice (some ⟨L + 1, 0, none⟩) p.length p.length)) := below_setCells (w.heap.size + 1) (by omega) [.int .i64 0, .int .i64 0, .int .i64 ((q.length : Int) + 1), .slice (some ⟨L + 1, 0, none⟩) p.length p.length] 0 hw7
    have hCn : World.rangeAt (((((w7).setCell ⟨w.heap.size + 1, 0, none⟩ (.int .i64 0)).setCell ⟨w.heap.size + 1, 1, none⟩ (.int .i64 0)).setCell ⟨w.heap.size + 1, 2, none⟩ (.int .i64 ((q.length : Int) + 1))).setCell ⟨w.heap.size + 1, 3, none⟩ (.slice (some ⟨L + 1, 0, none⟩) p.length p.length)) (L + 1) 0 (finV q) := World.rangeAt_setCells_apart HA.out.1.nts (w.heap.size + 1) 0 [.int .i64 0, .int .i64 0, .int .i64 ((q.length : Int) + 1), .slice (some ⟨L + 1, 0, none⟩) p.length p.length] (.inl (by have := HWS.out; omega))
    have hCs : L + 1 < (World.heap (((((w7).setCell ⟨w.heap.size + 1, 0, none⟩ (.int .i64 0)).setCell ⟨w.heap.size + 1, 1, none⟩ (.int .i64 0)).setCell ⟨w.heap.size + 1, 2, none⟩ (.int .i64 ((q.length : Int) + 1))).setCell ⟨w.heap.size + 1, 3, none⟩ (.slice (some ⟨L + 1, 0, none⟩) p.length p.length))).size := by have h := size_put w7 (w.heap.size + 1) 0 [.int .i64 0, .int .i64 0, .int .i64 ((q.length : Int) + 1), .slice (some ⟨L + 1, 0, none⟩) p.length p.length]; exact Nat.lt_of_lt_of_eq HA.out.1.nw h.symm
    generalize ((((w7).setCell ⟨w.heap.size + 1, 0, none⟩ (.int .i64 0)).setCell ⟨w.heap.size + 1, 1, none⟩ (.int .i64 0)).setCell ⟨w.heap.size + 1, 2, none⟩ (.int .i64 ((q.length : Int) + 1))).setCell ⟨w.heap.size + 1, 3, none⟩ (.slice (some ⟨L + 1, 0, none⟩) p.length p.length) = Z at *
    exact bodyPost_ret (v := .agg #[.int .i64 0, .int .i64 0, .int .i64 ((q.length : Int) + 1), .slice (some ⟨L + 1, 0, none⟩) p.length p.length]) (results_cell Tryz.results5 rfl (run_loadVar_mid (P := Tryz.prog) Z (w.heap.size + 1) 0 34 [.int .i64 0, .int .i64 0, .int .i64 ((q.length : Int) + 1), .slice (some ⟨L + 1, 0, none⟩) p.length p.length] _ hCr Tryz.underlying34 rfl info55)) rfl ⟨L + 1, rfl, by omega, hCs, hCn, hCb⟩
  · have hP := hS5
    have hJ : ∀ k, k < p.length → World.cell? (w5.alloc (.cells #[.slice Ad p.length c, .slice none 0 0, .int .i64 0, .slice (some ⟨jb, 0, none⟩) p.length p.length, .slice (some ⟨w2.heap.size, 0, none⟩) p.length p.length, .int .i64 0, .int .i64 0, .int .i64 0, .slice none 0 0] 85)) ⟨jb, 0 + k, none⟩ = some (.bool false) := fun k hk => (((Below.refl w5.heap.size w5)).alloc (by simp) _ |>.cell (p := ⟨jb, 0 + k, none⟩) hj1).trans (hjc k hk)
    have hVW : Below W.heap.size W (w5.alloc (.cells #[.slice Ad p.length c, .slice none 0 0, .int .i64 0, .slice (some ⟨jb, 0, none⟩) p.length p.length, .slice (some ⟨w2.heap.size, 0, none⟩) p.length p.length, .int .i64 0, .int .i64 0, .int .i64 0, .slice none 0 0] 85)) := hP.alloc hP.size _
    have hVr : World.rangeAt (w5.alloc (.cells #[.slice Ad p.length c, .slice none 0 0, .int .i64 0, .slice (some ⟨jb, 0, none⟩) p.length p.length, .slice (some ⟨w2.heap.size, 0, none⟩) p.length p.length, .int .i64 0, .int .i64 0, .int .i64 0, .slice none 0 0] 85)) (w5.heap.size) 0 [.slice Ad p.length c, .slice none 0 0, .int .i64 0, .slice (some ⟨jb, 0, none⟩) p.length p.length, .slice (some ⟨w2.heap.size, 0, none⟩) p.length p.length, .int .i64 0, .int .i64 0, .int .i64 0, .slice none 0 0] := by have := range_of_block (xs := [.slice Ad p.length c, .slice none 0 0, .int .i64 0, .slice (some ⟨jb, 0, none⟩) p.length p.length, .slice (some ⟨w2.heap.size, 0, none⟩) p.length p.length, .int .i64 0, .int .i64 0, .int .i64 0, .slice none 0 0]) (heap1_0 w5 (.cells #[.slice Ad p.length c, .slice none 0 0, .int .i64 0, .slice (some ⟨jb, 0, none⟩) p.length p.length, .slice (some ⟨w2.heap.size, 0, none⟩) p.length p.length, .int .i64 0, .int .i64 0, .int .i64 0, .slice none 0 0] 85)); simpa using this
    have hVf : ∀ k, World.frozen? (w5.alloc (.cells #[.slice Ad p.length c, .slice none 0 0, .int .i64 0, .slice (some ⟨jb, 0, none⟩) p.length p.length, .slice (some ⟨w2.heap.size, 0, none⟩) p.length p.length, .int .i64 0, .int .i64 0, .int .i64 0, .slice none 0 0] 85)) ⟨w5.heap.size, k, none⟩ = false := by have := fun k => boxt (heap1_0 w5 (.cells #[.slice Ad p.length c, .slice none 0 0, .int .i64 0, .slice (some ⟨jb, 0, none⟩) p.length p.length, .slice (some ⟨w2.heap.size, 0, none⟩) p.length p.length, .int .i64 0, .int .i64 0, .int .i64 0, .slice none 0 0] 85)) k _ (Below.refl _ _); simpa using this
    have hVs : (World.heap (w5.alloc (.cells #[.slice Ad p.length c, .slice none 0 0, .int .i64 0, .slice (some ⟨jb, 0, none⟩) p.length p.length, .slice (some ⟨w2.heap.size, 0, none⟩) p.length p.length, .int .i64 0, .int .i64 0, .int .i64 0, .slice none 0 0] 85))).size = w5.heap.size + 1 := by simp
    have hjL : jb < w5.heap.size := by omega
    have hWL : W.heap.size ≤ w5.heap.size := by have := hS5.size; omega
    generalize hkp : (.slice (some ⟨w2.heap.size, 0, none⟩) p.length p.length : Value) = kp at *
    generalize w5.alloc (.cells #[.slice Ad p.length c, .slice none 0 0, .int .i64 0, .slice (some ⟨jb, 0, none⟩) p.length p.length, kp, .int .i64 0, .int .i64 0, .int .i64 0, .slice none 0 0] 85) = V at *
    generalize w5.heap.size = L at *
    clear hP hj0 hj1 hjc hkp
    have hm23 := makeNotes p.length hlen_ V
    rw [hVs] at hm23
    have hVN : Below V.heap.size V (V.alloc (.cells (todosV p.length).toArray 68)) := (Below.refl _ _).alloc (Nat.le_refl _) _
    have hNr : World.rangeAt (V.alloc (.cells (todosV p.length).toArray 68)) L 0 [.slice Ad p.length c, .slice none 0 0, .int .i64 0, .slice (some ⟨jb, 0, none⟩) p.length p.length, kp, .int .i64 0, .int .i64 0, .int .i64 0, .slice none 0 0] := World.rangeAt_alloc hVr _
    have hNf : ∀ k, World.frozen? (V.alloc (.cells (todosV p.length).toArray 68)) ⟨L, k, none⟩ = false := fun k => (hVN.frozen (p := ⟨L, k, none⟩) (by show L < _; omega)).trans (hVf k)
    have m8 := hNr 8 _ rfl
    have mf := hNf 8
    simp only [Nat.zero_add] at m8
    go_upto_region 6 with fail
    have hwL : w.heap.size ≤ L := by have := HWS.out; omega
    have hXL : Below w.heap.size w ((V.setCell ⟨L, 8, none⟩ (.slice (some ⟨L + 1, 0, none⟩) p.length p.length)).alloc (.cells (todosV p.length).toArray 68)) := ((hW0.trans (hVW.mono hW0.size)).setCell hwL _).alloc (by have := HWS.out; simp; omega) _
    have hXW : Below W.heap.size W ((V.setCell ⟨L, 8, none⟩ (.slice (some ⟨L + 1, 0, none⟩) p.length p.length)).alloc (.cells (todosV p.length).toArray 68)) := (hVW.setCell hWL _).alloc (by simp; omega) _
    have hatV : SAt V L 5 Ad p.length (insnsV p) := (hat.below (hW0.trans (hVW.mono hW0.size))).more hwL
    have hLX : LookP ((V.setCell ⟨L, 8, none⟩ (.slice (some ⟨L + 1, 0, none⟩) p.length p.length)).alloc (.cells (todosV p.length).toArray 68)) p Ad c jb 0 p.length kp L (L + 1) 0 (todosV p.length) := look_madeP hVs hVr hVf hJ hjL hatV
    generalize (V.setCell ⟨L, 8, none⟩ (.slice (some ⟨L + 1, 0, none⟩) p.length p.length)).alloc (.cells (todosV p.length).toArray 68) = X at *
    clear hm23 hVN hNr hNf m8 mf hVs hVr hVf hJ hVW
    go_wp2_with fail
    refine (rfirst13 _).mono ?_
    rintro e w6 ⟨rfl, hc6⟩
    have hk6 := hLX.below hc6
    have hX6 := hXL.trans (hc6.mono hXL.size)
    have hW6 := hXW.trans (hc6.mono hXW.size)
    have hLX6 : L < w6.heap.size := hk6.ls
    clear hc6 hLX hXL hXW
    go_wp2_with fail
    refine (rat15_any hp hg Ad c jb 0 p.length kp L (L + 1) q.length 0 (Nat.zero_add _) w6 hk6).mono ?_
    rintro e w7 ⟨rfl, hA⟩
    have hb7 : Below W.heap.size W w7 := hW6.trans (hA.2.1.mono hWL)
    have hw7 : Below w.heap.size w w7 := hX6.trans (hA.2.1.mono (by have := HWS.out; omega))
    have p5 := hA.1.look 5 _ rfl
    have p6 := hA.1.look 6 _ rfl
    have p7 := hA.1.look 7 _ rfl
    have p8 := hA.1.look 8 _ rfl
    simp only [Nat.zero_add] at p5 p6 p7 p8
    have V0 := v0 _ hb7
    have V1 := v1 _ hb7
    have V2 := v2 _ hb7
    have V3 := v3 _ hb7
    have tv7 := fun k => tv k _ hb7
    have HA := Lib.hid hA
    clear hA hk6 hX6 hW6 v0 v1 v2 v3 tv hjo hck e0 e1
    go_wp2_with fail
    have hCr : World.rangeAt (((((w7).setCell ⟨w.heap.size + 1, 0, none⟩ (.int .i64 0)).setCell ⟨w.heap.size + 1, 1, none⟩ (.int .i64 0)).setCell ⟨w.heap.size + 1, 2, none⟩ (.int .i64 ((q.length : Int) + 1))).setCell ⟨w.heap.size + 1, 3, none⟩ (.slice (some ⟨L + 1, 0, none⟩) p.length p.length)) (w.heap.size + 1) 0 [.int .i64 0, .int .i64 0, .int .i64 ((q.length : Int) + 1), .slice (some ⟨L + 1, 0, none⟩) p.length p.length] := World.rangeAt_setCells_same w7 (w.heap.size + 1) 0 [.int .i64 0, .int .i64 0, .int .i64 ((q.length : Int) + 1), .slice (some ⟨L + 1, 0, none⟩) p.length p.length] (fun k hk => ⟨by rcases (by simp at hk; omega : k = 0 ∨ k = 1 ∨ k = 2 ∨ k = 3) with rfl | rfl | rfl | rfl <;> simp [V0, V1, V2, V3], tv7 _⟩)
    have hCb : Below w.heap.size w (((((w7).setCell ⟨w.heap.size + 1, 0, none⟩ (.int .i64 0)).setCell ⟨w.heap.size + 1, 1, none⟩ (.int .i64 0)).setCell ⟨w.heap.size + 1, 2, none⟩ (.int .i64 ((q.length : Int) + 1))).setCell ⟨w.heap.size + 1, 3, none⟩ (.slice (some ⟨L + 1, 0, none⟩) p.length p.length)) := below_setCells (w.heap.size + 1) (by omega) [.int .i64 0, .int .i64 0, .int .i64 ((q.length : Int) + 1), .slice (some ⟨L + 1, 0, none⟩) p.length p.length] 0 hw7
    have hCn : World.rangeAt (((((w7).setCell ⟨w.heap.size + 1, 0, none⟩ (.int .i64 0)).setCell ⟨w.heap.size + 1, 1, none⟩ (.int .i64 0)).setCell ⟨w.heap.size + 1, 2, none⟩ (.int .i64 ((q.length : Int) + 1))).setCell ⟨w.heap.size + 1, 3, none⟩ (.slice (some ⟨L + 1, 0, none⟩) p.length p.length)) (L + 1) 0 (finV q) := World.rangeAt_setCells_apart HA.out.1.nts (w.heap.size + 1) 0 [.int .i64 0, .int .i64 0, .int .i64 ((q.length : Int) + 1), .slice (some ⟨L + 1, 0, none⟩) p.length p.length] (.inl (by have := HWS.out; omega))
    have hCs : L + 1 < (World.heap (((((w7).setCell ⟨w.heap.size + 1, 0, none⟩ (.int .i64 0)).setCell ⟨w.heap.size + 1, 1, none⟩ (.int .i64 0)).setCell ⟨w.heap.size + 1, 2, none⟩ (.int .i64 ((q.length : Int) + 1))).setCell ⟨w.heap.size + 1, 3, none⟩ (.slice (some ⟨L + 1, 0, none⟩) p.length p.length))).size := by have h := size_put w7 (w.heap.size + 1) 0 [.int .i64 0, .int .i64 0, .int .i64 ((q.length : Int) + 1), .slice (some ⟨L + 1, 0, none⟩) p.length p.length]; exact Nat.lt_of_lt_of_eq HA.out.1.nw h.symm
    generalize ((((w7).setCell ⟨w.heap.size + 1, 0, none⟩ (.int .i64 0)).setCell ⟨w.heap.size + 1, 1, none⟩ (.int .i64 0)).setCell ⟨w.heap.size + 1, 2, none⟩ (.int .i64 ((q.length : Int) + 1))).setCell ⟨w.heap.size + 1, 3, none⟩ (.slice (some ⟨L + 1, 0, none⟩) p.length p.length) = Z at *
    exact bodyPost_ret (v := .agg #[.int .i64 0, .int .i64 0, .int .i64 ((q.length : Int) + 1), .slice (some ⟨L + 1, 0, none⟩) p.length p.length]) (results_cell Tryz.results5 rfl (run_loadVar_mid (P := Tryz.prog) Z (w.heap.size + 1) 0 34 [.int .i64 0, .int .i64 0, .int .i64 ((q.length : Int) + 1), .slice (some ⟨L + 1, 0, none⟩) p.length p.length] _ hCr Tryz.underlying34 rfl info55)) rfl ⟨L + 1, rfl, by omega, hCs, hCn, hCb⟩


end
end Go.Proofs.YtncogaikiceidaaGreat
