/- What becomes of instructions, by the program and by the reference. No statement is proved here. -/
import Derived.Test.YtncogaikiceidaaGreatKnown
import Derived.Test.YtncogaikiceidaaGreatHopC

section
/- What becomes of a program by what was seen of its instructions, in plain terms; and of a branch, by the program. No statement is proved here. -/
namespace Go.Proofs.YtncogaikiceidaaGreat
open Go.RowKit
set_option linter.unusedSimpArgs false
set_option linter.unusedVariables false
set_option linter.unnecessarySimpa false
/-- What was seen of an instruction: whether it was done, whether it went on, whether it went to its target; and what is known of its register. -/
structure Note where
  been : Bool
  goes : Bool
  hops : Bool
  kind : Int
  v : Int
  m : Int
  lo : Int
  hi : Int
  i : Int
  off : Int
def Note.cells (n : Note) : List Value := [.bool n.been, .bool n.goes, .bool n.hops, .int .u8 n.kind, .int .u64 n.v, .int .u64 n.m, .int .u64 n.lo, .int .u64 n.hi, .int .i64 n.i, .int .i64 n.off]
def Note.val (n : Note) : Value := .agg #[.bool n.been, .bool n.goes, .bool n.hops, .int .u8 n.kind, .int .u64 n.v, .int .u64 n.m, .int .u64 n.lo, .int .u64 n.hi, .int .i64 n.i, .int .i64 n.off]
def Note.zero : Note := ⟨false, false, false, 0, 0, 0, 0, 0, 0, 0⟩
def notesV (l : List Note) : List Value := (l.map Note.cells).flatten
def noteAt (l : List Note) (i : Nat) : Note := l.getD i Note.zero
/-- What becomes of a branch. -/
def branchX (l : List Insn) (i : Nat) (goes hops : Bool) : Edit :=
  if goes = true ∧ hops = true then Edit.none else if goes = false ∧ hops = false then ⟨2, ⟨5, 0, 0, 0, 0⟩, i⟩ else if goes = true then Edit.drop else ⟨2, ⟨5, 0, 0, 0, 0⟩, (targetM l i).1⟩
/-- What becomes of an instruction. -/
def foldX (l : List Insn) (i : Nat) (n : Note) : Edit :=
  if n.been = false then Edit.drop
  else if kindM l i = 10 then branchX l i n.goes n.hops
  else if kindM l i = 1 ∨ kindM l i = 2 ∨ kindM l i = 3 ∨ kindM l i = 5 then
    (if (movR (at' l i) n.kind n.v n.m n.lo n.hi).2 = true ∧ ¬ (movR (at' l i) n.kind n.v n.m n.lo n.hi).1 = at' l i then ⟨2, (movR (at' l i) n.kind n.v n.m n.lo n.hi).1, 0⟩ else Edit.none)
  else Edit.none
def foldE (l : List Insn) (ns : List Note) : List Edit := (List.range l.length).map fun i => if SB l i = true then foldX l i (noteAt ns i) else Edit.none
def foldL (l : List Insn) (ns : List Note) : List Edit := if (checkM l).2 ≠ 0 ∨ ¬ ns.length = l.length then [] else foldE l ns
set_option maxRecDepth 100000 in
set_option maxHeartbeats 4000000 in
theorem branchX_any (l : List Insn) (hl : ∀ x ∈ l, x.Ok) (A : Option Addr) (c : Nat) (hn : l.length ≤ 100000) (j : Nat) (hj : j < l.length) (n0 gs hp : Bool) (kd v m lo hi i o : Int) (w : World) (hat : SAt w w.heap.size 5 A l.length (insnsV l)) :
    Calls Tryz.prog 20 #[.slice A l.length c, .int .i64 j, .agg #[.bool n0, .bool gs, .bool hp, .int .u8 kd, .int .u64 v, .int .u64 m, .int .u64 lo, .int .u64 hi, .int .i64 i, .int .i64 o]] w fun e w' => e = .returned (branchX l j gs hp).val ∧ Below w.heap.size w w' := by
  cases gs
  · cases hp
    · show Calls _ _ _ _ (fun e w' => e = .returned (.agg #[.int .u8 2, .int .u8 5, .int .u8 0, .int .u8 0, .int .i16 0, .int .i32 0, .int .i64 j]) ∧ _)
      have q0 : ((w.alloc (.cells #[.bool n0, .bool false, .bool false, .int .u8 kd, .int .u64 v, .int .u64 m, .int .u64 lo, .int .u64 hi, .int .i64 i, .int .i64 o] 68)).alloc (.cells #[.int .u8 0, .int .u8 0, .int .u8 0, .int .u8 0, .int .i16 0, .int .i32 0, .int .i64 0] 71)).heap[w.heap.size]? = some (.cells #[.bool n0, .bool false, .bool false, .int .u8 kd, .int .u64 v, .int .u64 m, .int .u64 lo, .int .u64 hi, .int .i64 i, .int .i64 o] 68) := heap2_0 _ _ _
      have y0 := boxc (k := 0) (u := .bool n0) q0 rfl
      have y1 := boxc (k := 1) (u := .bool false) q0 rfl
      have y2 := boxc (k := 2) (u := .bool false) q0 rfl
      have y3 := boxc (k := 3) (u := .int .u8 kd) q0 rfl
      have y4 := boxc (k := 4) (u := .int .u64 v) q0 rfl
      have y5 := boxc (k := 5) (u := .int .u64 m) q0 rfl
      have y6 := boxc (k := 6) (u := .int .u64 lo) q0 rfl
      have y7 := boxc (k := 7) (u := .int .u64 hi) q0 rfl
      have y8 := boxc (k := 8) (u := .int .i64 i) q0 rfl
      have y9 := boxc (k := 9) (u := .int .i64 o) q0 rfl
      clear q0
      have q1 : ((w.alloc (.cells #[.bool n0, .bool false, .bool false, .int .u8 kd, .int .u64 v, .int .u64 m, .int .u64 lo, .int .u64 hi, .int .i64 i, .int .i64 o] 68)).alloc (.cells #[.int .u8 0, .int .u8 0, .int .u8 0, .int .u8 0, .int .i16 0, .int .i32 0, .int .i64 0] 71)).heap[(w.heap.size + 1)]? = some (.cells #[.int .u8 0, .int .u8 0, .int .u8 0, .int .u8 0, .int .i16 0, .int .i32 0, .int .i64 0] 71) := heap2_1 _ _ _
      have e0 := boxc (k := 0) (u := .int .u8 0) q1 rfl
      have e1 := boxc (k := 1) (u := .int .u8 0) q1 rfl
      have e2 := boxc (k := 2) (u := .int .u8 0) q1 rfl
      have e3 := boxc (k := 3) (u := .int .u8 0) q1 rfl
      have e4 := boxc (k := 4) (u := .int .i16 0) q1 rfl
      have e5 := boxc (k := 5) (u := .int .i32 0) q1 rfl
      have e6 := boxc (k := 6) (u := .int .i64 0) q1 rfl
      have t1 := boxt q1
      clear q1
      have hW0 : Below w.heap.size w ((w.alloc (.cells #[.bool n0, .bool false, .bool false, .int .u8 kd, .int .u64 v, .int .u64 m, .int .u64 lo, .int .u64 hi, .int .i64 i, .int .i64 o] 68)).alloc (.cells #[.int .u8 0, .int .u8 0, .int .u8 0, .int .u8 0, .int .i16 0, .int .i32 0, .int .i64 0] 71)) := below_boxes2 _ _ _
      have hr := Below.refl ((w.alloc (.cells #[.bool n0, .bool false, .bool false, .int .u8 kd, .int .u64 v, .int .u64 m, .int .u64 lo, .int .u64 hi, .int .i64 i, .int .i64 o] 68)).alloc (.cells #[.int .u8 0, .int .u8 0, .int .u8 0, .int .u8 0, .int .i16 0, .int .i32 0, .int .i64 0] 71)).heap.size ((w.alloc (.cells #[.bool n0, .bool false, .bool false, .int .u8 kd, .int .u64 v, .int .u64 m, .int .u64 lo, .int .u64 hi, .int .i64 i, .int .i64 o] 68)).alloc (.cells #[.int .u8 0, .int .u8 0, .int .u8 0, .int .u8 0, .int .i16 0, .int .i32 0, .int .i64 0] 71))
      go_enter Tryz.func20, Tryz.ntmps20
      go_upto_region 1 with fail
      generalize (w.alloc (.cells #[.bool n0, .bool false, .bool false, .int .u8 kd, .int .u64 v, .int .u64 m, .int .u64 lo, .int .u64 hi, .int .i64 i, .int .i64 o] 68)).alloc (.cells #[.int .u8 0, .int .u8 0, .int .u8 0, .int .u8 0, .int .i16 0, .int .i32 0, .int .i64 0] 71) = W at *
      have z0 := e0 _ hr
      have z1 := e1 _ hr
      have z2 := e2 _ hr
      have z3 := e3 _ hr
      have z4 := e4 _ hr
      have z5 := e5 _ hr
      have z6 := e6 _ hr
      go_wp2_with fail
      refine bodyPost_ret (v := .agg #[.int .u8 2, .int .u8 5, .int .u8 0, .int .u8 0, .int .i16 0, .int .i32 0, .int .i64 j]) (by simp [results, Tryz.results20, go_sem, *]) rfl ⟨rfl, ?_⟩
      (repeat (refine Below.setCell ?_ (by first | exact Nat.le_refl _ | exact Nat.le_succ _ | (simp; done) | (simp; omega)) _))
      exact hW0.trans (hr.mono hW0.size)
    · show Calls _ _ _ _ (fun e w' => e = .returned (.agg #[.int .u8 2, .int .u8 5, .int .u8 0, .int .u8 0, .int .i16 0, .int .i32 0, .int .i64 (targetM l j).1]) ∧ _)
      have htg := fun W1 (hb : Below w.heap.size w W1) => target_any l hl A c hn (j : Int) (by omega) (by omega) W1 ((hat.below hb).more hb.size)
      generalize targetM l j = tg at *
      obtain ⟨tt, tb⟩ := tg
      simp only at htg
      have q0 : ((w.alloc (.cells #[.bool n0, .bool false, .bool true, .int .u8 kd, .int .u64 v, .int .u64 m, .int .u64 lo, .int .u64 hi, .int .i64 i, .int .i64 o] 68)).alloc (.cells #[.int .u8 0, .int .u8 0, .int .u8 0, .int .u8 0, .int .i16 0, .int .i32 0, .int .i64 0] 71)).heap[w.heap.size]? = some (.cells #[.bool n0, .bool false, .bool true, .int .u8 kd, .int .u64 v, .int .u64 m, .int .u64 lo, .int .u64 hi, .int .i64 i, .int .i64 o] 68) := heap2_0 _ _ _
      have y0 := boxc (k := 0) (u := .bool n0) q0 rfl
      have y1 := boxc (k := 1) (u := .bool false) q0 rfl
      have y2 := boxc (k := 2) (u := .bool true) q0 rfl
      have y3 := boxc (k := 3) (u := .int .u8 kd) q0 rfl
      have y4 := boxc (k := 4) (u := .int .u64 v) q0 rfl
      have y5 := boxc (k := 5) (u := .int .u64 m) q0 rfl
      have y6 := boxc (k := 6) (u := .int .u64 lo) q0 rfl
      have y7 := boxc (k := 7) (u := .int .u64 hi) q0 rfl
      have y8 := boxc (k := 8) (u := .int .i64 i) q0 rfl
      have y9 := boxc (k := 9) (u := .int .i64 o) q0 rfl
      clear q0
      have q1 : ((w.alloc (.cells #[.bool n0, .bool false, .bool true, .int .u8 kd, .int .u64 v, .int .u64 m, .int .u64 lo, .int .u64 hi, .int .i64 i, .int .i64 o] 68)).alloc (.cells #[.int .u8 0, .int .u8 0, .int .u8 0, .int .u8 0, .int .i16 0, .int .i32 0, .int .i64 0] 71)).heap[(w.heap.size + 1)]? = some (.cells #[.int .u8 0, .int .u8 0, .int .u8 0, .int .u8 0, .int .i16 0, .int .i32 0, .int .i64 0] 71) := heap2_1 _ _ _
      have e0 := boxc (k := 0) (u := .int .u8 0) q1 rfl
      have e1 := boxc (k := 1) (u := .int .u8 0) q1 rfl
      have e2 := boxc (k := 2) (u := .int .u8 0) q1 rfl
      have e3 := boxc (k := 3) (u := .int .u8 0) q1 rfl
      have e4 := boxc (k := 4) (u := .int .i16 0) q1 rfl
      have e5 := boxc (k := 5) (u := .int .i32 0) q1 rfl
      have e6 := boxc (k := 6) (u := .int .i64 0) q1 rfl
      have t1 := boxt q1
      clear q1
      have hW0 : Below w.heap.size w ((w.alloc (.cells #[.bool n0, .bool false, .bool true, .int .u8 kd, .int .u64 v, .int .u64 m, .int .u64 lo, .int .u64 hi, .int .i64 i, .int .i64 o] 68)).alloc (.cells #[.int .u8 0, .int .u8 0, .int .u8 0, .int .u8 0, .int .i16 0, .int .i32 0, .int .i64 0] 71)) := below_boxes2 _ _ _
      have hr := Below.refl ((w.alloc (.cells #[.bool n0, .bool false, .bool true, .int .u8 kd, .int .u64 v, .int .u64 m, .int .u64 lo, .int .u64 hi, .int .i64 i, .int .i64 o] 68)).alloc (.cells #[.int .u8 0, .int .u8 0, .int .u8 0, .int .u8 0, .int .i16 0, .int .i32 0, .int .i64 0] 71)).heap.size ((w.alloc (.cells #[.bool n0, .bool false, .bool true, .int .u8 kd, .int .u64 v, .int .u64 m, .int .u64 lo, .int .u64 hi, .int .i64 i, .int .i64 o] 68)).alloc (.cells #[.int .u8 0, .int .u8 0, .int .u8 0, .int .u8 0, .int .i16 0, .int .i32 0, .int .i64 0] 71))
      go_enter Tryz.func20, Tryz.ntmps20
      go_upto_region 1 with fail
      generalize (w.alloc (.cells #[.bool n0, .bool false, .bool true, .int .u8 kd, .int .u64 v, .int .u64 m, .int .u64 lo, .int .u64 hi, .int .i64 i, .int .i64 o] 68)).alloc (.cells #[.int .u8 0, .int .u8 0, .int .u8 0, .int .u8 0, .int .i16 0, .int .i32 0, .int .i64 0] 71) = W at *
      go_wp2_with fail
      refine (htg _ hW0).mono ?_
      rintro e w1 ⟨rfl, hc1⟩
      have hb1 : Below W.heap.size W w1 := hc1
      have z0 := e0 _ hb1
      have z1 := e1 _ hb1
      have z2 := e2 _ hb1
      have z3 := e3 _ hb1
      have z4 := e4 _ hb1
      have z5 := e5 _ hb1
      have z6 := e6 _ hb1
      go_wp2_with fail
      refine bodyPost_ret (v := .agg #[.int .u8 2, .int .u8 5, .int .u8 0, .int .u8 0, .int .i16 0, .int .i32 0, .int .i64 tt]) (by simp [results, Tryz.results20, go_sem, *]) rfl ⟨rfl, ?_⟩
      (repeat (refine Below.setCell ?_ (by first | exact Nat.le_refl _ | exact Nat.le_succ _ | (simp; done) | (simp; omega)) _))
      exact hW0.trans (hb1.mono hW0.size)
  · cases hp
    · show Calls _ _ _ _ (fun e w' => e = .returned (.agg #[.int .u8 1, .int .u8 0, .int .u8 0, .int .u8 0, .int .i16 0, .int .i32 0, .int .i64 0]) ∧ _)
      have q0 : ((w.alloc (.cells #[.bool n0, .bool true, .bool false, .int .u8 kd, .int .u64 v, .int .u64 m, .int .u64 lo, .int .u64 hi, .int .i64 i, .int .i64 o] 68)).alloc (.cells #[.int .u8 0, .int .u8 0, .int .u8 0, .int .u8 0, .int .i16 0, .int .i32 0, .int .i64 0] 71)).heap[w.heap.size]? = some (.cells #[.bool n0, .bool true, .bool false, .int .u8 kd, .int .u64 v, .int .u64 m, .int .u64 lo, .int .u64 hi, .int .i64 i, .int .i64 o] 68) := heap2_0 _ _ _
      have y0 := boxc (k := 0) (u := .bool n0) q0 rfl
      have y1 := boxc (k := 1) (u := .bool true) q0 rfl
      have y2 := boxc (k := 2) (u := .bool false) q0 rfl
      have y3 := boxc (k := 3) (u := .int .u8 kd) q0 rfl
      have y4 := boxc (k := 4) (u := .int .u64 v) q0 rfl
      have y5 := boxc (k := 5) (u := .int .u64 m) q0 rfl
      have y6 := boxc (k := 6) (u := .int .u64 lo) q0 rfl
      have y7 := boxc (k := 7) (u := .int .u64 hi) q0 rfl
      have y8 := boxc (k := 8) (u := .int .i64 i) q0 rfl
      have y9 := boxc (k := 9) (u := .int .i64 o) q0 rfl
      clear q0
      have q1 : ((w.alloc (.cells #[.bool n0, .bool true, .bool false, .int .u8 kd, .int .u64 v, .int .u64 m, .int .u64 lo, .int .u64 hi, .int .i64 i, .int .i64 o] 68)).alloc (.cells #[.int .u8 0, .int .u8 0, .int .u8 0, .int .u8 0, .int .i16 0, .int .i32 0, .int .i64 0] 71)).heap[(w.heap.size + 1)]? = some (.cells #[.int .u8 0, .int .u8 0, .int .u8 0, .int .u8 0, .int .i16 0, .int .i32 0, .int .i64 0] 71) := heap2_1 _ _ _
      have e0 := boxc (k := 0) (u := .int .u8 0) q1 rfl
      have e1 := boxc (k := 1) (u := .int .u8 0) q1 rfl
      have e2 := boxc (k := 2) (u := .int .u8 0) q1 rfl
      have e3 := boxc (k := 3) (u := .int .u8 0) q1 rfl
      have e4 := boxc (k := 4) (u := .int .i16 0) q1 rfl
      have e5 := boxc (k := 5) (u := .int .i32 0) q1 rfl
      have e6 := boxc (k := 6) (u := .int .i64 0) q1 rfl
      have t1 := boxt q1
      clear q1
      have hW0 : Below w.heap.size w ((w.alloc (.cells #[.bool n0, .bool true, .bool false, .int .u8 kd, .int .u64 v, .int .u64 m, .int .u64 lo, .int .u64 hi, .int .i64 i, .int .i64 o] 68)).alloc (.cells #[.int .u8 0, .int .u8 0, .int .u8 0, .int .u8 0, .int .i16 0, .int .i32 0, .int .i64 0] 71)) := below_boxes2 _ _ _
      have hr := Below.refl ((w.alloc (.cells #[.bool n0, .bool true, .bool false, .int .u8 kd, .int .u64 v, .int .u64 m, .int .u64 lo, .int .u64 hi, .int .i64 i, .int .i64 o] 68)).alloc (.cells #[.int .u8 0, .int .u8 0, .int .u8 0, .int .u8 0, .int .i16 0, .int .i32 0, .int .i64 0] 71)).heap.size ((w.alloc (.cells #[.bool n0, .bool true, .bool false, .int .u8 kd, .int .u64 v, .int .u64 m, .int .u64 lo, .int .u64 hi, .int .i64 i, .int .i64 o] 68)).alloc (.cells #[.int .u8 0, .int .u8 0, .int .u8 0, .int .u8 0, .int .i16 0, .int .i32 0, .int .i64 0] 71))
      go_enter Tryz.func20, Tryz.ntmps20
      go_upto_region 1 with fail
      generalize (w.alloc (.cells #[.bool n0, .bool true, .bool false, .int .u8 kd, .int .u64 v, .int .u64 m, .int .u64 lo, .int .u64 hi, .int .i64 i, .int .i64 o] 68)).alloc (.cells #[.int .u8 0, .int .u8 0, .int .u8 0, .int .u8 0, .int .i16 0, .int .i32 0, .int .i64 0] 71) = W at *
      have z0 := e0 _ hr
      have z1 := e1 _ hr
      have z2 := e2 _ hr
      have z3 := e3 _ hr
      have z4 := e4 _ hr
      have z5 := e5 _ hr
      have z6 := e6 _ hr
      go_wp2_with fail
      refine bodyPost_ret (v := .agg #[.int .u8 1, .int .u8 0, .int .u8 0, .int .u8 0, .int .i16 0, .int .i32 0, .int .i64 0]) (by simp [results, Tryz.results20, go_sem, *]) rfl ⟨rfl, ?_⟩
      (repeat (refine Below.setCell ?_ (by first | exact Nat.le_refl _ | exact Nat.le_succ _ | (simp; done) | (simp; omega)) _))
      exact hW0.trans (hr.mono hW0.size)
    · show Calls _ _ _ _ (fun e w' => e = .returned (.agg #[.int .u8 0, .int .u8 0, .int .u8 0, .int .u8 0, .int .i16 0, .int .i32 0, .int .i64 0]) ∧ _)
      have q0 : ((w.alloc (.cells #[.bool n0, .bool true, .bool true, .int .u8 kd, .int .u64 v, .int .u64 m, .int .u64 lo, .int .u64 hi, .int .i64 i, .int .i64 o] 68)).alloc (.cells #[.int .u8 0, .int .u8 0, .int .u8 0, .int .u8 0, .int .i16 0, .int .i32 0, .int .i64 0] 71)).heap[w.heap.size]? = some (.cells #[.bool n0, .bool true, .bool true, .int .u8 kd, .int .u64 v, .int .u64 m, .int .u64 lo, .int .u64 hi, .int .i64 i, .int .i64 o] 68) := heap2_0 _ _ _
      have y0 := boxc (k := 0) (u := .bool n0) q0 rfl
      have y1 := boxc (k := 1) (u := .bool true) q0 rfl
      have y2 := boxc (k := 2) (u := .bool true) q0 rfl
      have y3 := boxc (k := 3) (u := .int .u8 kd) q0 rfl
      have y4 := boxc (k := 4) (u := .int .u64 v) q0 rfl
      have y5 := boxc (k := 5) (u := .int .u64 m) q0 rfl
      have y6 := boxc (k := 6) (u := .int .u64 lo) q0 rfl
      have y7 := boxc (k := 7) (u := .int .u64 hi) q0 rfl
      have y8 := boxc (k := 8) (u := .int .i64 i) q0 rfl
      have y9 := boxc (k := 9) (u := .int .i64 o) q0 rfl
      clear q0
      have q1 : ((w.alloc (.cells #[.bool n0, .bool true, .bool true, .int .u8 kd, .int .u64 v, .int .u64 m, .int .u64 lo, .int .u64 hi, .int .i64 i, .int .i64 o] 68)).alloc (.cells #[.int .u8 0, .int .u8 0, .int .u8 0, .int .u8 0, .int .i16 0, .int .i32 0, .int .i64 0] 71)).heap[(w.heap.size + 1)]? = some (.cells #[.int .u8 0, .int .u8 0, .int .u8 0, .int .u8 0, .int .i16 0, .int .i32 0, .int .i64 0] 71) := heap2_1 _ _ _
      have e0 := boxc (k := 0) (u := .int .u8 0) q1 rfl
      have e1 := boxc (k := 1) (u := .int .u8 0) q1 rfl
      have e2 := boxc (k := 2) (u := .int .u8 0) q1 rfl
      have e3 := boxc (k := 3) (u := .int .u8 0) q1 rfl
      have e4 := boxc (k := 4) (u := .int .i16 0) q1 rfl
      have e5 := boxc (k := 5) (u := .int .i32 0) q1 rfl
      have e6 := boxc (k := 6) (u := .int .i64 0) q1 rfl
      have t1 := boxt q1
      clear q1
      have hW0 : Below w.heap.size w ((w.alloc (.cells #[.bool n0, .bool true, .bool true, .int .u8 kd, .int .u64 v, .int .u64 m, .int .u64 lo, .int .u64 hi, .int .i64 i, .int .i64 o] 68)).alloc (.cells #[.int .u8 0, .int .u8 0, .int .u8 0, .int .u8 0, .int .i16 0, .int .i32 0, .int .i64 0] 71)) := below_boxes2 _ _ _
      have hr := Below.refl ((w.alloc (.cells #[.bool n0, .bool true, .bool true, .int .u8 kd, .int .u64 v, .int .u64 m, .int .u64 lo, .int .u64 hi, .int .i64 i, .int .i64 o] 68)).alloc (.cells #[.int .u8 0, .int .u8 0, .int .u8 0, .int .u8 0, .int .i16 0, .int .i32 0, .int .i64 0] 71)).heap.size ((w.alloc (.cells #[.bool n0, .bool true, .bool true, .int .u8 kd, .int .u64 v, .int .u64 m, .int .u64 lo, .int .u64 hi, .int .i64 i, .int .i64 o] 68)).alloc (.cells #[.int .u8 0, .int .u8 0, .int .u8 0, .int .u8 0, .int .i16 0, .int .i32 0, .int .i64 0] 71))
      go_enter Tryz.func20, Tryz.ntmps20
      go_upto_region 1 with fail
      generalize (w.alloc (.cells #[.bool n0, .bool true, .bool true, .int .u8 kd, .int .u64 v, .int .u64 m, .int .u64 lo, .int .u64 hi, .int .i64 i, .int .i64 o] 68)).alloc (.cells #[.int .u8 0, .int .u8 0, .int .u8 0, .int .u8 0, .int .i16 0, .int .i32 0, .int .i64 0] 71) = W at *
      have z0 := e0 _ hr
      have z1 := e1 _ hr
      have z2 := e2 _ hr
      have z3 := e3 _ hr
      have z4 := e4 _ hr
      have z5 := e5 _ hr
      have z6 := e6 _ hr
      go_wp2_with fail
      refine bodyPost_ret (v := .agg #[.int .u8 0, .int .u8 0, .int .u8 0, .int .u8 0, .int .i16 0, .int .i32 0, .int .i64 0]) (by simp [results, Tryz.results20, go_sem, *]) rfl ⟨rfl, ?_⟩
      (repeat (refine Below.setCell ?_ (by first | exact Nat.le_refl _ | exact Nat.le_succ _ | (simp; done) | (simp; omega)) _))
      exact hW0.trans (hr.mono hW0.size)
end Go.Proofs.YtncogaikiceidaaGreat
end

section
/- What is told of instructions by notes, as data. No statement is proved here. -/
namespace Go.Proofs.YtncogaikiceidaaGreat
open Go.RowKit
set_option linter.unusedSimpArgs false
set_option linter.unusedVariables false
set_option linter.unnecessarySimpa false
/-- What was seen of an instruction, with numbers of 64 bits. -/
def Note.Ok (n : Note) : Prop := U64 n.v
theorem noteAt_get {l : List Note} {i : Nat} (h : i < l.length) : noteAt l i = l[i] := by simp [noteAt, List.getD_eq_getElem?_getD, h]
theorem noteAt_ok {l : List Note} (hl : ∀ x ∈ l, x.Ok) (i : Nat) : (noteAt l i).Ok := by
  by_cases h : i < l.length
  · rw [noteAt_get h]; exact hl _ (List.getElem_mem h)
  · rw [noteAt, List.getD_eq_getElem?_getD, List.getElem?_eq_none (by omega)]; exact ⟨by decide, by decide⟩
theorem notesV_length (l : List Note) : (notesV l).length = l.length * 10 := by
  induction l with
  | nil => rfl
  | cons x l ih =>
    show (x.cells ++ notesV l).length = _
    rw [List.length_append, ih]
    simp [Note.cells]
    omega
theorem notesV_append (l m : List Note) : notesV (l ++ m) = notesV l ++ notesV m := by simp [notesV]
theorem notesV_get : ∀ {l : List Note} {k j : Nat}, k < l.length → j < 10 → (notesV l)[k * 10 + j]? = (noteAt l k).cells[j]?
  | x :: l, 0, j, _, hj => by
    show (x.cells ++ notesV l)[0 * 10 + j]? = _
    rw [List.getElem?_append_left (by simp [Note.cells]; omega)]
    simp [noteAt]
  | x :: l, k + 1, j, hk, hj => by
    show (x.cells ++ notesV l)[(k + 1) * 10 + j]? = _
    have h5 : x.cells.length = 10 := rfl
    rw [List.getElem?_append_right (by omega), h5, show (k + 1) * 10 + j - 10 = k * 10 + j by omega, notesV_get (by simpa using hk) hj]
    simp [noteAt]
/-- What was seen, from a slice of it. -/
theorem SAt.note {W : World} {B : Nat} {A : Option Addr} {l : List Note} (h : SAt W B 10 A l.length (notesV l)) {k : Nat} (hk : k < l.length) :
    ∃ b o, A = some ⟨b, o, none⟩ ∧ b < B ∧ (∀ w', Below B W w' → w'.cell? ⟨b, o + k * 10, none⟩ = some (.bool (noteAt l k).been)) ∧ (∀ w', Below B W w' → w'.cell? ⟨b, o + k * 10 + 1, none⟩ = some (.bool (noteAt l k).goes)) ∧
     (∀ w', Below B W w' → w'.cell? ⟨b, o + k * 10 + 2, none⟩ = some (.bool (noteAt l k).hops)) ∧ (∀ w', Below B W w' → w'.cell? ⟨b, o + k * 10 + 3, none⟩ = some (.int .u8 (noteAt l k).kind)) ∧
     (∀ w', Below B W w' → w'.cell? ⟨b, o + k * 10 + 4, none⟩ = some (.int .u64 (noteAt l k).v)) ∧ (∀ w', Below B W w' → w'.cell? ⟨b, o + k * 10 + 5, none⟩ = some (.int .u64 (noteAt l k).m)) ∧
     (∀ w', Below B W w' → w'.cell? ⟨b, o + k * 10 + 6, none⟩ = some (.int .u64 (noteAt l k).lo)) ∧ (∀ w', Below B W w' → w'.cell? ⟨b, o + k * 10 + 7, none⟩ = some (.int .u64 (noteAt l k).hi)) ∧
     (∀ w', Below B W w' → w'.cell? ⟨b, o + k * 10 + 8, none⟩ = some (.int .i64 (noteAt l k).i)) ∧ (∀ w', Below B W w' → w'.cell? ⟨b, o + k * 10 + 9, none⟩ = some (.int .i64 (noteAt l k).off)) := by
  obtain ⟨b, o, rfl, hb, hc⟩ := h.2 (by omega)
  have hj : ∀ j u, j < 10 → (noteAt l k).cells[j]? = some u → ∀ w', Below B W w' → w'.cell? ⟨b, o + k * 10 + j, none⟩ = some u := by
    intro j u hj hu w' hw
    rw [Nat.add_assoc, hw.cell hb]
    exact hc _ _ (by rw [notesV_get hk hj, hu])
  exact ⟨b, o, rfl, hb, hj 0 _ (by omega) rfl, hj 1 _ (by omega) rfl, hj 2 _ (by omega) rfl, hj 3 _ (by omega) rfl, hj 4 _ (by omega) rfl, hj 5 _ (by omega) rfl, hj 6 _ (by omega) rfl, hj 7 _ (by omega) rfl, hj 8 _ (by omega) rfl, hj 9 _ (by omega) rfl⟩
/-- The first j of what becomes of n instructions. -/
def partG (f : Nat → Edit) (n j : Nat) : List Edit := (List.range n).map fun k => if k < j then f k else Edit.none
theorem partG_length (f : Nat → Edit) (n j : Nat) : (partG f n j).length = n := by simp [partG]
theorem partG_get {f : Nat → Edit} {n j k : Nat} (h : k < n) : (partG f n j)[k]? = some (if k < j then f k else Edit.none) := by
  simp [partG, List.getElem?_map, List.getElem?_range h]
theorem partG_zero (f : Nat → Edit) (n : Nat) : partG f n 0 = List.replicate n Edit.none := by
  apply List.ext_getElem?
  intro k
  rcases Nat.lt_or_ge k n with hk | hk
  · rw [partG_get hk]; simp [hk]
  · rw [List.getElem?_eq_none (by rw [partG_length]; exact hk), List.getElem?_eq_none (by simpa using hk)]
theorem partG_all {f : Nat → Edit} {n j : Nat} (h : n ≤ j) : partG f n j = (List.range n).map f := by
  apply List.ext_getElem?
  intro k
  rcases Nat.lt_or_ge k n with hk | hk
  · rw [partG_get hk, if_pos (by omega)]; simp [List.getElem?_range hk]
  · rw [List.getElem?_eq_none (by rw [partG_length]; exact hk), List.getElem?_eq_none (by simpa using hk)]
theorem partG_set {f : Nat → Edit} {n j : Nat} (hj : j < n) : (partG f n j).set j (f j) = partG f n (j + 1) := by
  apply List.ext_getElem?
  intro k
  rcases Nat.lt_or_ge k n with hk | hk
  · rw [partG_get hk, List.getElem?_set]
    split
    · rename_i e
      subst e
      rw [if_pos (by rw [partG_length]; exact hj), if_pos (by omega)]
    · rw [partG_get hk]
      congr 1
      by_cases h1 : k < j
      · rw [if_pos h1, if_pos (by omega)]
      · rw [if_neg h1, if_neg (by omega)]
  · rw [List.getElem?_eq_none (by rw [List.length_set, partG_length]; exact hk), List.getElem?_eq_none (by rw [partG_length]; exact hk)]
theorem partG_same {f : Nat → Edit} {n j : Nat} (h : f j = Edit.none) : partG f n (j + 1) = partG f n j := by
  apply List.ext_getElem?
  intro k
  rcases Nat.lt_or_ge k n with hk | hk
  · rw [partG_get hk, partG_get hk]
    congr 1
    by_cases h1 : k < j
    · rw [if_pos h1, if_pos (by omega)]
    · rw [if_neg h1]
      split
      · have e : k = j := by omega
        subst e; exact h
      · rfl
  · rw [List.getElem?_eq_none (by rw [partG_length]; exact hk), List.getElem?_eq_none (by rw [partG_length]; exact hk)]
theorem partG_at {f : Nat → Edit} {n j : Nat} (hj : j < n) : edAt (partG f n j) j = Edit.none := by
  rw [edAt_get (by rw [partG_length]; exact hj)]
  have := partG_get (f := f) (j := j) hj
  rw [List.getElem?_eq_getElem (by rw [partG_length]; exact hj)] at this
  simpa using this
/-- What becomes of the instruction at a place, if one begins there. -/
def foldF (l : List Insn) (ns : List Note) (i : Nat) : Edit := if SB l i = true then foldX l i (noteAt ns i) else Edit.none
theorem foldL_yes {l : List Insn} {ns : List Note} (h : (checkM l).2 = 0) (hn : ns.length = l.length) : foldL l ns = partG (foldF l ns) l.length l.length := by
  unfold foldL; rw [if_neg (by simp [h, hn]), partG_all (Nat.le_refl _)]; rfl
theorem foldL_no {l : List Insn} {ns : List Note} (h : (checkM l).2 ≠ 0 ∨ ¬ ns.length = l.length) : foldL l ns = [] := by
  unfold foldL; rw [if_pos h]
theorem foldL_len (l : List Insn) (ns : List Note) : (foldL l ns).length ≤ l.length := by
  unfold foldL; split
  · simp
  · simp [foldE]
/-- Both Movs are one. -/
theorem foldX_mov {l : List Insn} {i : Nat} {n : Note} (hb : n.been = true) (hk : kindM l i = 1 ∨ kindM l i = 2 ∨ kindM l i = 3 ∨ kindM l i = 5) :
    foldX l i n = if (rmovR (at' l i) n.kind n.v n.m n.lo n.hi).2 = true ∧ ¬ (rmovR (at' l i) n.kind n.v n.m n.lo n.hi).1 = at' l i then ⟨2, (rmovR (at' l i) n.kind n.v n.m n.lo n.hi).1, 0⟩ else Edit.none := by
  unfold foldX
  rw [if_neg (by simp [hb]), if_neg (by omega), if_pos hk]
  unfold movR rmovR
  split <;> simp
theorem foldX_movs {l : List Insn} {i : Nat} {n : Note} (hb : n.been = true) (hk : kindM l i = 1 ∨ kindM l i = 2 ∨ kindM l i = 3 ∨ kindM l i = 5) :
    foldX l i n = if (movR (at' l i) n.kind n.v n.m n.lo n.hi).2 = true ∧ ¬ (movR (at' l i) n.kind n.v n.m n.lo n.hi).1 = at' l i then ⟨2, (movR (at' l i) n.kind n.v n.m n.lo n.hi).1, 0⟩ else Edit.none := by
  unfold foldX
  rw [if_neg (by simp [hb]), if_neg (by omega), if_pos hk]
theorem foldX_gone {l : List Insn} {i : Nat} {n : Note} (hb : n.been = false) : foldX l i n = Edit.drop := by unfold foldX; rw [if_pos hb]
theorem foldX_branch {l : List Insn} {i : Nat} {n : Note} (hb : n.been = true) (hk : kindM l i = 10) : foldX l i n = branchX l i n.goes n.hops := by
  unfold foldX; rw [if_neg (by simp [hb]), if_pos hk]
theorem foldX_other {l : List Insn} {i : Nat} {n : Note} (hb : n.been = true) (hk : ¬ kindM l i = 10 ∧ ¬ kindM l i = 1 ∧ ¬ kindM l i = 2 ∧ ¬ kindM l i = 3 ∧ ¬ kindM l i = 5) : foldX l i n = Edit.none := by
  unfold foldX; rw [if_neg (by simp [hb]), if_neg hk.1, if_neg (by rcases hk with ⟨-, a, b, c, d⟩; simp [a, b, c, d])]
theorem set_same {α : Type} {xs : List α} {k : Nat} {v : α} (h : xs[k]? = some v) : xs.set k v = xs := by
  apply List.ext_getElem?
  intro i
  rw [List.getElem?_set]
  split
  · rename_i e
    subst e
    have hk : k < xs.length := by
      rcases Nat.lt_or_ge k xs.length with h1 | h1
      · exact h1
      · rw [List.getElem?_eq_none h1] at h; cases h
    rw [if_pos hk, h]
  · rfl
theorem set_still {α : Type} {xs : List α} {i k : Nat} {u v : α} (h : xs[k]? = some v) (hne : i ≠ k) : (xs.set i u).set k v = xs.set i u := set_same (by rw [List.getElem?_set_ne hne]; exact h)
theorem editsV_drop {es : List Edit} {j : Nat} (hj : j < es.length) (h : edAt es j = Edit.none) : (editsV es).set (j * 7) (.int .u8 1) = editsV (es.set j Edit.drop) := by
  have hk : ∀ k u, k < 7 → Edit.none.cells[k]? = some u → (editsV es)[j * 7 + k]? = some u := fun k u hk hu => by rw [editsV_get hj hk, h, hu]
  have k1 := hk 1 (.int .u8 0) (by omega) rfl
  have k2 := hk 2 (.int .u8 0) (by omega) rfl
  have k3 := hk 3 (.int .u8 0) (by omega) rfl
  have k4 := hk 4 (.int .i16 0) (by omega) rfl
  have k5 := hk 5 (.int .i32 0) (by omega) rfl
  have k6 := hk 6 (.int .i64 0) (by omega) rfl
  rw [← editsV_set hj Edit.drop]
  simp only [Edit.drop, Insn.zero]
  rw [set_still k1 (by omega), set_still k2 (by omega), set_still k3 (by omega), set_still k4 (by omega), set_still k5 (by omega), set_still k6 (by omega)]
theorem own_drop {w : World} {base g n cap : Nat} {es : List Edit} (h : w.ownsRow base 71 7 (.slice (some ⟨g, 0, none⟩) n cap) n (editsV es)) {j : Nat} (hj : j < es.length) (hd : edAt es j = Edit.none) :
    (w.setCell ⟨g, j * 7, none⟩ (.int .u8 1)).ownsRow base 71 7 (.slice (some ⟨g, 0, none⟩) n cap) n (editsV (es.set j Edit.drop)) := by
  rw [← editsV_drop hj hd]
  exact (h.stored (j * 7) _).1
theorem own_drewN {w : World} {base e size n : Nat} {s : Value} {xs : List Value} (h : w.ownsRow base e size s n xs) (k : Nat) : (w.drewN k).ownsRow base e size s n xs := h
theorem size_drewN {w : World} {n : Nat} (h : n < w.heap.size) (k : Nat) : n < (w.drewN k).heap.size := h
end Go.Proofs.YtncogaikiceidaaGreat
end

section
/- What becomes of instructions, by the program. No statement is proved here. -/
namespace Go.Proofs.YtncogaikiceidaaGreat
open Go.RowKit
set_option linter.unusedSimpArgs false
set_option linter.unusedVariables false
set_option linter.unnecessarySimpa false
set_option maxRecDepth 100000 in
set_option maxHeartbeats 16000000 in
theorem fedits_any (l : List Insn) (hl : ∀ x ∈ l, x.Ok) (A : Option Addr) (c : Nat) (hn : l.length ≤ 100000) (ns : List Note) (hns : ∀ x ∈ ns, x.Ok) (N : Option Addr) (d : Nat) (hm : ns.length ≤ 100000) (w : World) (h : SAt w w.heap.size 5 A l.length (insnsV l)) (h' : SAt w w.heap.size 10 N ns.length (notesV ns)) :
    Calls Tryz.prog 6 #[.slice A l.length c, .slice N ns.length d] w (EditsOk w (foldL l ns)) := by
  have hck := check_any l hl A c hn w h
  have hmk := make_edits l.length hn
  have hz := check_zero (l := l)
  go_enter Tryz.func6, Tryz.ntmps6
  go_wp2_with fail
  refine hck.mono ?_
  rintro e w1 ⟨rfl, hb1⟩
  clear hck
  by_cases he : (checkM l).2 = 0
  · by_cases hnl : ns.length = l.length
    · have HM := Lib.hid (foldL_yes he hnl)
      have hq : ((ns.length : Int) != (l.length : Int)) = false := by simp [hnl]
      have hown0 := own_new w1 w1.heap.size (madeCells Edit.none.val.cells (l.length * 7)) 71 7 l.length l.length w.heap.size rfl hb1.size (Nat.le_refl _) (by simp only [maxLen]; omega) (by simp [madeCells])
      rw [edits_made, List.take_of_length_le (by rw [editsV_length]; simp), ← partG_zero (foldF l ns)] at hown0
      have hbA := hb1.alloc hb1.size (.cells (madeCells Edit.none.val.cells (l.length * 7)) 71)
      have hsz : (w1.alloc (.cells (madeCells Edit.none.val.cells (l.length * 7)) 71)).heap.size = w1.heap.size + 1 := by simp
      generalize madeCells Edit.none.val.cells (l.length * 7) = mc at *
      have HS := Lib.hid hsz
      have hst := starts_new l A c hn _ ((h.below hbA).more hbA.size)
      rw [hz he]
      simp only
      have HC := Lib.hid he
      have HL := Lib.hid hnl
      clear hz he hsz hnl
      go_wp2_with fail
      clear hmk
      generalize hW : w1.alloc (.cells mc 71) = W at *
      generalize hg1 : w1.heap.size = g at *
      have hg : w.heap.size ≤ g := by rw [← hg1]; exact hb1.size
      refine hst.mono ?_
      rintro e w2 ⟨rfl, hownS, hszS, hb2⟩
      clear hst
      have hsg : W.heap.size = g + 1 := HS.out
      generalize hs1 : W.heap.size = s at *
      subst hsg
      have hgs : g ≠ g + 1 := by omega
      have hbw2 := hbA.trans (hb2.mono (by omega))
      have hownS' := own_mono (base' := w.heap.size) (by omega) hownS
      have hown2 := own_below hown0 hb2 (by omega)
      clear hown0 hownS hW hs1 hg1 HS hb2 hbA hb1
      go_wp2_with fail
      go_loopw [34] (fun k wr => ∃ (j : Nat), j ≤ l.length ∧ k = .int .i64 j ∧ wr.ownsRow w.heap.size 71 7 (.slice (some ⟨g, 0, none⟩) l.length l.length) l.length (editsV (partG (foldF l ns) l.length j)) ∧ wr.ownsRow w.heap.size 4 1 (.slice (some ⟨g + 1, 0, none⟩) l.length l.length) l.length (boolsV (startsL l)) ∧ g + 1 < wr.heap.size ∧ Below w.heap.size w wr) (fun k _ => l.length - (intOf k).toNat)
      case atStart => exact ⟨0, by omega, rfl, hown2, hownS', hszS, hbw2⟩
      case round =>
        obtain ⟨j, hj, rfl, hownE0, hownF0, hszr0, hbw0⟩ := hrel
        by_cases hlt : j < l.length
        · have hcell := hownF0.cellAt j (by omega)
          rw [show (boolsV (startsL l))[j]? = some (.bool (SB l j)) by simp [boolsV, startsL, List.getElem?_range hlt]] at hcell
          cases hs : SB l j
          · rw [hs] at hcell
            have HN := Lib.hid (show foldF l ns j = Edit.none by simp [foldF, hs])
            have hownE := hownE0
            have hownF := hownF0
            have hszr := hszr0
            have hbw := hbw0
            go_wp2_with fail
            go_roundw
            case rel => exact ⟨j + 1, by omega, by go_num, by rw [partG_same HN.out]; exact hownE0, hownF0, hszr0, hbw0⟩
            case measure => simp [intOf]; omega
          · rw [hs] at hcell
            have hff : foldF l ns j = foldX l j (noteAt ns j) := by simp [foldF, hs]
            have hjn : j < ns.length := by have := HL.out; omega
            have hjN : (j : Int) < (ns.length : Int) := by omega
            have hj0 : (0 : Int) ≤ (j : Int) := by omega
            have hjm : (j : Int) < (l.length : Int) := by omega
            obtain ⟨nb, no, rfl, hnb, y0, y1, y2, y3, y4, y5, y6, y7, y8, y9⟩ := h'.note hjn
            have hv := noteAt_ok hns j
            generalize noteAt ns j = nt at *
            obtain ⟨n0, gs, hp, kd, v, m, lo, hi, i, o⟩ := nt
            simp only [Note.Ok] at hv y0 y1 y2 y3 y4 y5 y6 y7 y8 y9
            clear hjn
            cases n0
            · have hfd : foldF l ns j = Edit.drop := by rw [hff]; exact foldX_gone rfl
              have HP := Lib.hid (show (partG (foldF l ns) l.length j).set j Edit.drop = partG (foldF l ns) l.length (j + 1) by rw [← hfd]; exact partG_set hlt)
              clear hfd hff y1 y2 y3 y4 y5 y6 y7 y8 y9
              obtain ⟨e0, e1, e2, e3, e4, e5, e6, hz⟩ := own_cells hownE0 (j := j) (by rw [partG_length]; exact hlt) (by rw [partG_length])
              clear e1 e2 e3 e4 e5 e6
              go_wp2_with fail
              go_roundw
              case rel =>
                refine ⟨j + 1, by omega, by go_num, ?_, own_set_other hownF0 hgs _, by simpa using hszr0, hbw0.setCell (p := ⟨g, j * 7, none⟩) hg _⟩
                rw [← HP.out]
                exact own_drop hownE0 (by rw [partG_length]; exact hlt) (partG_at hlt)
              case measure => simp [intOf]; omega
            · have hx : (at' l j).Ok := hl _ (by rw [at_get hlt]; exact List.getElem_mem hlt)
              have hsem := fun W1 => sem_any (at' l j) hx W1
              obtain ⟨b, q, rfl, hbb, d0, d1, d2, d3, d4⟩ := h.insn hlt
              have hkd : kindM l j = (sem (at' l j)).1.kind := rfl
              by_cases hk10 : kindM l j = 10
              · have hfb : foldF l ns j = branchX l j gs hp := by rw [hff]; exact foldX_branch rfl hk10
                clear hff
                rw [hkd] at hk10
                have HP := Lib.hid (show (partG (foldF l ns) l.length j).set j (branchX l j gs hp) = partG (foldF l ns) l.length (j + 1) by rw [← hfb]; exact partG_set hlt)
                clear hfb hkd
                have hbr := fun W1 hat => branchX_any l hl (some ⟨b, q, none⟩) c hn j hlt true gs hp kd v m lo hi i o W1 hat
                generalize branchX l j gs hp = bx at *
                obtain ⟨d0_, ⟨d1_, d2_, d3_, d4_, d5_⟩, d6_⟩ := bx
                simp only [Edit.val] at hbr
                generalize at' l j = x at *
                generalize sem x = r at *
                obtain ⟨⟨r0, r1, r2, r3, r4, r5⟩, rb⟩ := r
                obtain ⟨x0, x1, x2, x3, x4⟩ := x
                simp only at d0 d1 d2 d3 d4 hk10
                subst hk10
                go_wp2_with fail
                refine (hsem _).mono ?_
                rintro e w3 ⟨rfl, hb3⟩
                clear hsem hcell
                have hbw3 := hbw0.trans (hb3.mono hbw0.size)
                have hownE3 := own_below hownE0 hb3 (by omega)
                have hownF3 := own_below hownF0 hb3 hszr0
                have hszr3 := Nat.lt_of_lt_of_le hszr0 hb3.size
                clear hownE0 hownF0 hszr0
                go_upto_region 12 with fail
                have hb4 := (Below.refl w3.heap.size w3).alloc (Nat.le_refl _) (.cells #[.int .u8 10, .int .u8 r1, .bool r2, .bool r3, .bool r4, .int .i64 r5] 73)
                have v0 := boxc (k := 0) (u := .int .u8 10) (heap1_0 w3 (.cells #[.int .u8 10, .int .u8 r1, .bool r2, .bool r3, .bool r4, .int .i64 r5] 73)) rfl _ (Below.refl _ _)
                generalize w3.alloc (.cells #[.int .u8 10, .int .u8 r1, .bool r2, .bool r3, .bool r4, .int .i64 r5] 73) = w4 at *
                have hbw4 := hbw3.trans (hb4.mono hbw3.size)
                have hownE4 := own_below hownE3 hb4 (by omega)
                have hownF4 := own_below hownF3 hb4 hszr3
                have hszr4 := Nat.lt_of_lt_of_le hszr3 hb4.size
                clear hownE3 hownF3 hszr3
                go_wp2_with fail
                refine (hbr _ ((h.below hbw4).more hbw4.size)).mono ?_
                rintro e w5 ⟨rfl, hb5⟩
                clear hbr
                have hbw5 := hbw4.trans (hb5.mono hbw4.size)
                have hownE5 := own_below hownE4 hb5 (by omega)
                have hownF5 := own_below hownF4 hb5 hszr4
                have hszr5 := Nat.lt_of_lt_of_le hszr4 hb5.size
                clear hownE4 hownF4 hszr4
                obtain ⟨e0, e1, e2, e3, e4, e5, e6, hz⟩ := own_cells hownE5 (j := j) (by rw [partG_length]; exact hlt) (by rw [partG_length])
                go_wp2_with fail
                go_roundw
                case rel =>
                  refine ⟨j + 1, by omega, by go_num, ?_, own_edit_other hownF5 hgs j ⟨d0_, ⟨d1_, d2_, d3_, d4_, d5_⟩, d6_⟩, Nat.lt_of_lt_of_eq hszr5 (size_edit _ _ _ ⟨d0_, ⟨d1_, d2_, d3_, d4_, d5_⟩, d6_⟩).symm, below_edit hbw5 hg j ⟨d0_, ⟨d1_, d2_, d3_, d4_, d5_⟩, d6_⟩⟩
                  rw [← HP.out]
                  exact own_edit hownE5 (by rw [partG_length]; exact hlt) ⟨d0_, ⟨d1_, d2_, d3_, d4_, d5_⟩, d6_⟩
                case measure => simp [intOf]; omega
              · by_cases hkm : kindM l j = 1 ∨ kindM l j = 2 ∨ kindM l j = 3 ∨ kindM l j = 5
                · have hfm := foldX_movs (l := l) (i := j) (n := ⟨true, gs, hp, kd, v, m, lo, hi, i, o⟩) rfl hkm
                  rw [← hff] at hfm
                  clear hff hk10
                  rw [hkd] at hkm
                  clear hkd
                  have hmv := fun W1 => moved_five (at' l j).op (at' l j).dst (at' l j).src (at' l j).off (at' l j).imm kd v m lo hi i o hv W1
                  have hneq := fun (y : Insn) W1 => neq_insn y (at' l j) W1
                  generalize at' l j = x at *
                  generalize sem x = r at *
                  obtain ⟨⟨r0, r1, r2, r3, r4, r5⟩, rb⟩ := r
                  obtain ⟨x0, x1, x2, x3, x4⟩ := x
                  simp only at d0 d1 d2 d3 d4 hkm hmv
                  generalize movR ⟨x0, x1, x2, x3, x4⟩ kd v m lo hi = mr at *
                  obtain ⟨⟨z0, z1, z2, z3, z4⟩, mb⟩ := mr
                  simp only [Insn.val] at hmv
                  replace hneq := fun W1 => hneq ⟨z0, z1, z2, z3, z4⟩ W1
                  simp only [Insn.val] at hneq
                  have HR := Lib.hid hfm
                  clear hfm
                  go_wp2_with fail
                  refine (hsem _).mono ?_
                  rintro e w3 ⟨rfl, hb3⟩
                  clear hsem hcell
                  have hbw3 := hbw0.trans (hb3.mono hbw0.size)
                  have hownE3 := own_below hownE0 hb3 (by omega)
                  have hownF3 := own_below hownF0 hb3 hszr0
                  have hszr3 := Nat.lt_of_lt_of_le hszr0 hb3.size
                  clear hownE0 hownF0 hszr0
                  go_upto_region 12 with fail
                  have hb4 := (Below.refl w3.heap.size w3).alloc (Nat.le_refl _) (.cells #[.int .u8 r0, .int .u8 r1, .bool r2, .bool r3, .bool r4, .int .i64 r5] 73)
                  have v0 := boxc (k := 0) (u := .int .u8 r0) (heap1_0 w3 (.cells #[.int .u8 r0, .int .u8 r1, .bool r2, .bool r3, .bool r4, .int .i64 r5] 73)) rfl _ (Below.refl _ _)
                  generalize w3.alloc (.cells #[.int .u8 r0, .int .u8 r1, .bool r2, .bool r3, .bool r4, .int .i64 r5] 73) = w4 at *
                  have hbw4 := hbw3.trans (hb4.mono hbw3.size)
                  have hownE4 := own_below hownE3 hb4 (by omega)
                  have hownF4 := own_below hownF3 hb4 hszr3
                  have hszr4 := Nat.lt_of_lt_of_le hszr3 hb4.size
                  clear hownE3 hownF3 hszr3
                  have Wb : Below w.heap.size w w4 := hbw4
                  have hrV := Below.refl w4.heap.size w4
                  have D0 : ∀ w', Below w4.heap.size w4 w' → w'.cell? ⟨b, q + j * 5, none⟩ = some (.int .u8 x0) := fun w' h => d0 w' (hbw4.trans (h.mono hbw4.size))
                  have D1 : ∀ w', Below w4.heap.size w4 w' → w'.cell? ⟨b, q + j * 5 + 1, none⟩ = some (.int .u8 x1) := fun w' h => d1 w' (hbw4.trans (h.mono hbw4.size))
                  have D2 : ∀ w', Below w4.heap.size w4 w' → w'.cell? ⟨b, q + j * 5 + 2, none⟩ = some (.int .u8 x2) := fun w' h => d2 w' (hbw4.trans (h.mono hbw4.size))
                  have D3 : ∀ w', Below w4.heap.size w4 w' → w'.cell? ⟨b, q + j * 5 + 3, none⟩ = some (.int .i16 x3) := fun w' h => d3 w' (hbw4.trans (h.mono hbw4.size))
                  have D4 : ∀ w', Below w4.heap.size w4 w' → w'.cell? ⟨b, q + j * 5 + 4, none⟩ = some (.int .i32 x4) := fun w' h => d4 w' (hbw4.trans (h.mono hbw4.size))
                  have Y0 : ∀ w', Below w4.heap.size w4 w' → w'.cell? ⟨nb, no + j * 10, none⟩ = some (.bool true) := fun w' h => y0 w' (hbw4.trans (h.mono hbw4.size))
                  have Y1 : ∀ w', Below w4.heap.size w4 w' → w'.cell? ⟨nb, no + j * 10 + 1, none⟩ = some (.bool gs) := fun w' h => y1 w' (hbw4.trans (h.mono hbw4.size))
                  have Y2 : ∀ w', Below w4.heap.size w4 w' → w'.cell? ⟨nb, no + j * 10 + 2, none⟩ = some (.bool hp) := fun w' h => y2 w' (hbw4.trans (h.mono hbw4.size))
                  have Y3 : ∀ w', Below w4.heap.size w4 w' → w'.cell? ⟨nb, no + j * 10 + 3, none⟩ = some (.int .u8 kd) := fun w' h => y3 w' (hbw4.trans (h.mono hbw4.size))
                  have Y4 : ∀ w', Below w4.heap.size w4 w' → w'.cell? ⟨nb, no + j * 10 + 4, none⟩ = some (.int .u64 v) := fun w' h => y4 w' (hbw4.trans (h.mono hbw4.size))
                  have Y5 : ∀ w', Below w4.heap.size w4 w' → w'.cell? ⟨nb, no + j * 10 + 5, none⟩ = some (.int .u64 m) := fun w' h => y5 w' (hbw4.trans (h.mono hbw4.size))
                  have Y6 : ∀ w', Below w4.heap.size w4 w' → w'.cell? ⟨nb, no + j * 10 + 6, none⟩ = some (.int .u64 lo) := fun w' h => y6 w' (hbw4.trans (h.mono hbw4.size))
                  have Y7 : ∀ w', Below w4.heap.size w4 w' → w'.cell? ⟨nb, no + j * 10 + 7, none⟩ = some (.int .u64 hi) := fun w' h => y7 w' (hbw4.trans (h.mono hbw4.size))
                  have Y8 : ∀ w', Below w4.heap.size w4 w' → w'.cell? ⟨nb, no + j * 10 + 8, none⟩ = some (.int .i64 i) := fun w' h => y8 w' (hbw4.trans (h.mono hbw4.size))
                  have Y9 : ∀ w', Below w4.heap.size w4 w' → w'.cell? ⟨nb, no + j * 10 + 9, none⟩ = some (.int .i64 o) := fun w' h => y9 w' (hbw4.trans (h.mono hbw4.size))
                  rcases hkm with rfl | rfl | rfl | rfl
                  all_goals
                    go_upto_region 19 with fail
                    go_cut [12, 13] from 35 to 105 (fun t11 t12 wx => ∃ g', t11 = .pointer (some ⟨g', 0, none⟩) ∧ t12 = .bool mb ∧ w4.heap.size ≤ g' ∧ Below w4.heap.size w4 wx ∧ wx.cell? ⟨g', 0, none⟩ = some (.int .u8 z0) ∧ wx.cell? ⟨g', 1, none⟩ = some (.int .u8 z1) ∧ wx.cell? ⟨g', 2, none⟩ = some (.int .u8 z2) ∧ wx.cell? ⟨g', 3, none⟩ = some (.int .i16 z3) ∧ wx.cell? ⟨g', 4, none⟩ = some (.int .i32 z4))
                    case first =>
                      clear d0 d1 d2 d3 d4 y0 y1 y2 y3 y4 y5 y6 y7 y8 y9 hneq hownE4 hownF4
                      go_region_held3 (fun w' => Below w4.heap.size w4 w')
                        (repeat (first | assumption | refine sbelow_drew ?_ | refine sbelow_alloc ?_ (Nat.le_refl _) | refine Below.setCell ?_ (by first | (simp; done) | exact hS5.size) _))
                        (first | (go_at_call 21; refine (hmv _).mono ?_; rintro e w5 ⟨rfl, hb5⟩; have hS5 : Below w4.heap.size w4 w5 := below_step (by assumption) (Nat.le_refl _) hb5; (first | ((have hq5 : Below (w4.alloc (.cells #[.int .u8 0, .int .u8 0, .int .u8 0, .int .i16 0, .int .i32 0] 27)).drew.heap.size (w4.alloc (.cells #[.int .u8 0, .int .u8 0, .int .u8 0, .int .i16 0, .int .i32 0] 27)).drew w5 := by with_reducible exact hb5); (have z50 : w5.cell? ⟨w4.heap.size, 0, none⟩ = some (.int .u8 0) := boxc (W := (w4.alloc (.cells #[.int .u8 0, .int .u8 0, .int .u8 0, .int .i16 0, .int .i32 0] 27)).drew) (heap1_0 w4 (.cells #[.int .u8 0, .int .u8 0, .int .u8 0, .int .i16 0, .int .i32 0] 27)) rfl _ hq5); (have z51 : w5.cell? ⟨w4.heap.size, 1, none⟩ = some (.int .u8 0) := boxc (W := (w4.alloc (.cells #[.int .u8 0, .int .u8 0, .int .u8 0, .int .i16 0, .int .i32 0] 27)).drew) (heap1_0 w4 (.cells #[.int .u8 0, .int .u8 0, .int .u8 0, .int .i16 0, .int .i32 0] 27)) rfl _ hq5); (have z52 : w5.cell? ⟨w4.heap.size, 2, none⟩ = some (.int .u8 0) := boxc (W := (w4.alloc (.cells #[.int .u8 0, .int .u8 0, .int .u8 0, .int .i16 0, .int .i32 0] 27)).drew) (heap1_0 w4 (.cells #[.int .u8 0, .int .u8 0, .int .u8 0, .int .i16 0, .int .i32 0] 27)) rfl _ hq5); (have z53 : w5.cell? ⟨w4.heap.size, 3, none⟩ = some (.int .i16 0) := boxc (W := (w4.alloc (.cells #[.int .u8 0, .int .u8 0, .int .u8 0, .int .i16 0, .int .i32 0] 27)).drew) (heap1_0 w4 (.cells #[.int .u8 0, .int .u8 0, .int .u8 0, .int .i16 0, .int .i32 0] 27)) rfl _ hq5); (have z54 : w5.cell? ⟨w4.heap.size, 4, none⟩ = some (.int .i32 0) := boxc (W := (w4.alloc (.cells #[.int .u8 0, .int .u8 0, .int .u8 0, .int .i16 0, .int .i32 0] 27)).drew) (heap1_0 w4 (.cells #[.int .u8 0, .int .u8 0, .int .u8 0, .int .i16 0, .int .i32 0] 27)) rfl _ hq5); (have x5 : ∀ k, w5.frozen? ⟨w4.heap.size, k, none⟩ = false := fun k => boxt (W := (w4.alloc (.cells #[.int .u8 0, .int .u8 0, .int .u8 0, .int .i16 0, .int .i32 0] 27)).drew) (heap1_0 w4 (.cells #[.int .u8 0, .int .u8 0, .int .u8 0, .int .i16 0, .int .i32 0] 27)) k _ hq5)) | skip)))
                      all_goals
                        go_wp2_with fail
                        go_meet
                        case rel =>
                          refine ⟨_, rfl, rfl, ?_, ?_, ?_, ?_, ?_, ?_, ?_⟩
                          · first | exact Nat.le_refl _ | exact hS5.size | simp
                          · (repeat (first | assumption | refine sbelow_drew ?_ | refine sbelow_alloc ?_ (Nat.le_refl _) | refine Below.setCell ?_ (by first | exact hS5.size | exact Nat.le_refl _) _))
                          · first | ((with_reducible refine boxc (heap1_0 w5 _) ?_ _ (Below.refl _ _)); rfl) | (simp [go_sem, *]; done)
                          · first | ((with_reducible refine boxc (heap1_0 w5 _) ?_ _ (Below.refl _ _)); rfl) | (simp [go_sem, *]; done)
                          · first | ((with_reducible refine boxc (heap1_0 w5 _) ?_ _ (Below.refl _ _)); rfl) | (simp [go_sem, *]; done)
                          · first | ((with_reducible refine boxc (heap1_0 w5 _) ?_ _ (Below.refl _ _)); rfl) | (simp [go_sem, *]; done)
                          · first | ((with_reducible refine boxc (heap1_0 w5 _) ?_ _ (Below.refl _ _)); rfl) | (simp [go_sem, *]; done)
                    case rest =>
                      obtain ⟨g', rfl, rfl, hg', hb5, c0, c1, c2, c3, c4⟩ := hcut
                      rename_i w5
                      clear d0 d1 d2 d3 d4 y0 y1 y2 y3 y4 y5 y6 y7 y8 y9 hmv
                      have hbw5 := hbw4.trans (hb5.mono hbw4.size)
                      have hownE5 := own_below hownE4 hb5 (by omega)
                      have hownF5 := own_below hownF4 hb5 hszr4
                      have hszr5 := Nat.lt_of_lt_of_le hszr4 hb5.size
                      clear hownE4 hownF4 hszr4
                      cases mb
                      · have HN := Lib.hid (show foldF l ns j = Edit.none by have := HR.out; simpa using this)
                        clear HR hneq
                        go_upto_region 20 with fail
                        go_quiet (fail)
                        go_wp2_with fail
                        go_roundw
                        case rel => exact ⟨j + 1, by omega, by go_num, by rw [partG_same HN.out]; exact own_drewN hownE5 _, own_drewN hownF5 _, hszr5, below_drewN hbw5 _⟩
                        case measure => simp [intOf]; omega
                      · by_cases hzx : (⟨z0, z1, z2, z3, z4⟩ : Insn) = ⟨x0, x1, x2, x3, x4⟩
                        · have HN := Lib.hid (show foldF l ns j = Edit.none by have h1 := HR.out; rw [if_neg (fun h => h.2 hzx)] at h1; exact h1)
                          rw [hzx] at hneq
                          simp only [decide_true, Bool.not_true] at hneq
                          clear HR
                          simp only [Insn.mk.injEq] at hzx
                          obtain ⟨rfl, rfl, rfl, rfl, rfl⟩ := hzx
                          go_upto_region 20 with fail
                          go_quiet (fail)
                          clear hneq
                          go_wp2_with fail
                          go_roundw
                          case rel => exact ⟨j + 1, by omega, by go_num, by rw [partG_same HN.out]; exact own_drewN hownE5 _, own_drewN hownF5 _, hszr5, below_drewN hbw5 _⟩
                          case measure => simp [intOf]; omega
                        · have HP := Lib.hid (show (partG (foldF l ns) l.length j).set j ⟨2, ⟨z0, z1, z2, z3, z4⟩, 0⟩ = partG (foldF l ns) l.length (j + 1) by have h1 := HR.out; rw [if_pos ⟨rfl, hzx⟩] at h1; rw [← h1]; exact partG_set hlt)
                          rw [decide_eq_false hzx] at hneq
                          simp only [Bool.not_false] at hneq
                          clear HR hzx
                          go_upto_region 20 with fail
                          go_quiet (fail)
                          clear hneq
                          obtain ⟨e0, e1, e2, e3, e4, e5, e6, hz⟩ := own_cells hownE5 (j := j) (by rw [partG_length]; exact hlt) (by rw [partG_length])
                          go_wp2_with fail
                          go_roundw
                          case rel =>
                            have f1 := own_edit hownE5 (j := j) (by rw [partG_length]; exact hlt) ⟨2, ⟨z0, z1, z2, z3, z4⟩, 0⟩
                            have f2 := own_edit_other hownF5 hgs j ⟨2, ⟨z0, z1, z2, z3, z4⟩, 0⟩
                            have f3 := Nat.lt_of_lt_of_eq hszr5 (size_edit wc g j ⟨2, ⟨z0, z1, z2, z3, z4⟩, 0⟩).symm
                            have f4 := below_edit hbw5 hg j ⟨2, ⟨z0, z1, z2, z3, z4⟩, 0⟩
                            rw [HP.out] at f1
                            simp only at f1 f2 f3 f4
                            have g1 := own_drewN f1 nq
                            have g2 := own_drewN f2 nq
                            have g3 := size_drewN f3 nq
                            have g4 := below_drewN f4 nq
                            refine ⟨j + 1, by omega, by go_num, ?_, ?_, ?_, ?_⟩
                            · with_reducible exact g1
                            · with_reducible exact g2
                            · with_reducible exact g3
                            · with_reducible exact g4
                          case measure => simp [intOf]; omega
                · have hfo : foldF l ns j = Edit.none := by rw [hff]; exact foldX_other rfl (by omega)
                  have HN := Lib.hid hfo
                  have hk3 : ¬ kindM l j = 10 ∧ ¬ kindM l j = 1 ∧ ¬ kindM l j = 2 ∧ ¬ kindM l j = 3 ∧ ¬ kindM l j = 5 := by omega
                  clear hff hfo hk10 hkm
                  rw [hkd] at hk3
                  clear hkd
                  generalize at' l j = x at *
                  generalize sem x = r at *
                  obtain ⟨⟨r0, r1, r2, r3, r4, r5⟩, rb⟩ := r
                  obtain ⟨x0, x1, x2, x3, x4⟩ := x
                  simp only at d0 d1 d2 d3 d4 hk3
                  go_wp2_with fail
                  refine (hsem _).mono ?_
                  rintro e w3 ⟨rfl, hb3⟩
                  clear hsem hcell
                  have hbw3 := hbw0.trans (hb3.mono hbw0.size)
                  have hownE3 := own_below hownE0 hb3 (by omega)
                  have hownF3 := own_below hownF0 hb3 hszr0
                  have hszr3 := Nat.lt_of_lt_of_le hszr0 hb3.size
                  clear hownE0 hownF0 hszr0
                  go_upto_region 12 with fail
                  have hb4 := (Below.refl w3.heap.size w3).alloc (Nat.le_refl _) (.cells #[.int .u8 r0, .int .u8 r1, .bool r2, .bool r3, .bool r4, .int .i64 r5] 73)
                  have v0 := boxc (k := 0) (u := .int .u8 r0) (heap1_0 w3 (.cells #[.int .u8 r0, .int .u8 r1, .bool r2, .bool r3, .bool r4, .int .i64 r5] 73)) rfl _ (Below.refl _ _)
                  generalize w3.alloc (.cells #[.int .u8 r0, .int .u8 r1, .bool r2, .bool r3, .bool r4, .int .i64 r5] 73) = w4 at *
                  have hbw4 := hbw3.trans (hb4.mono hbw3.size)
                  have hownE4 := own_below hownE3 hb4 (by omega)
                  have hownF4 := own_below hownF3 hb4 hszr3
                  have hszr4 := Nat.lt_of_lt_of_le hszr3 hb4.size
                  clear hownE3 hownF3 hszr3
                  have k10 : (r0 == 10) = false := by simp; exact hk3.1
                  have k1 : (r0 == 1) = false := by simp; exact hk3.2.1
                  have k2 : (r0 == 2) = false := by simp; exact hk3.2.2.1
                  have k3 : (r0 == 3) = false := by simp; exact hk3.2.2.2.1
                  have k5 : (r0 == 5) = false := by simp; exact hk3.2.2.2.2
                  clear hk3
                  go_wp2_with fail
                  go_roundw
                  case rel => exact ⟨j + 1, by omega, by go_num, by rw [partG_same HN.out]; exact hownE4, hownF4, hszr4, hbw4⟩
                  case measure => simp [intOf]; omega
        · obtain rfl : j = l.length := by omega
          have hcap := own_cap hownE0
          have hmax := own_max hownE0
          have hsat := SAt.own hownE0
          clear hownE0 hownF0
          go_wp2_with fail
          go_ret
          have HP := partG_length (foldF l ns) l.length l.length
          refine ⟨some ⟨g, 0, none⟩, l.length, ?_, ?_, ?_, hmax, hbw0⟩
          · rw [HM.out, HP]; rfl
          · rw [HM.out, HP]; exact hsat
          · rw [HM.out, HP]; exact Nat.le_refl _
    · have HM := Lib.hid (foldL_no (l := l) (ns := ns) (.inr hnl))
      have hq : ((ns.length : Int) != (l.length : Int)) = true := by simp; omega
      rw [hz he]
      simp only
      have HL := Lib.hid hnl
      clear hz he hmk hnl
      go_wp2_with fail
      go_ret
      exact ⟨none, 0, by rw [HM.out]; rfl, by rw [HM.out]; exact SAt.nil_, by rw [HM.out]; exact Nat.le_refl _, by simp [maxLen], hb1⟩
  · have HM := Lib.hid (foldL_no (l := l) (ns := ns) (.inl he))
    clear hz
    generalize checkM l = r at *
    obtain ⟨r0, r1⟩ := r
    simp only at he ⊢
    go_wp2_with fail
    go_ret
    exact ⟨none, 0, by rw [HM.out]; rfl, by rw [HM.out]; exact SAt.nil_, by rw [HM.out]; exact Nat.le_refl _, by simp [maxLen], hb1⟩

end Go.Proofs.YtncogaikiceidaaGreat
end

section
/- What becomes of an instruction, by the reference. No statement is proved here. -/
namespace Go.Proofs.YtncogaikiceidaaGreat
open Go.RowKit
set_option linter.unusedSimpArgs false
set_option linter.unusedVariables false
set_option linter.unnecessarySimpa false
end Go.Proofs.YtncogaikiceidaaGreat
end

section
/- What becomes of instructions, by the reference. No statement is proved here. -/
namespace Go.Proofs.YtncogaikiceidaaGreat
open Go.RowKit
set_option linter.unusedSimpArgs false
set_option linter.unusedVariables false
set_option linter.unnecessarySimpa false
end Go.Proofs.YtncogaikiceidaaGreat
end
