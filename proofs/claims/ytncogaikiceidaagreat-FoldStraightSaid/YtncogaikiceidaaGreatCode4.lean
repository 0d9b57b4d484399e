/- Blocks that are as they were: what is read of them. No statement is proved here. -/
import Derived.Test.YtncogaikiceidaaGreatCode3
import Derived.Deep.RegionWith
import Derived.Deep.Cut
namespace Go.Proofs.YtncogaikiceidaaGreat
open Go.RowKit
set_option linter.unusedSimpArgs false
set_option linter.unusedVariables false
theorem box_two (x : Insn) (w : World) (o : Obj) : (∀ w', Below (w.heap.size + 2) ((w.alloc x.obj).alloc o) w' → w'.cell? ⟨w.heap.size, 0, none⟩ = some (.int .u8 x.op)) ∧ (∀ w', Below (w.heap.size + 2) ((w.alloc x.obj).alloc o) w' → w'.cell? ⟨w.heap.size, 1, none⟩ = some (.int .u8 x.dst)) ∧ (∀ w', Below (w.heap.size + 2) ((w.alloc x.obj).alloc o) w' → w'.cell? ⟨w.heap.size, 2, none⟩ = some (.int .u8 x.src)) ∧
    (∀ w', Below (w.heap.size + 2) ((w.alloc x.obj).alloc o) w' → w'.cell? ⟨w.heap.size, 3, none⟩ = some (.int .i16 x.off)) ∧ (∀ w', Below (w.heap.size + 2) ((w.alloc x.obj).alloc o) w' → w'.cell? ⟨w.heap.size, 4, none⟩ = some (.int .i32 x.imm)) :=
  box24 x (by omega) (by rw [Below.heap_alloc _ _ _ (by simp)]; exact heap_alloc_new w _)
theorem size_two (w : World) (o o' : Obj) : ((w.alloc o).alloc o').heap.size = w.heap.size + 2 := by simp
theorem below_two (w : World) (o o' : Obj) : Below w.heap.size w ((w.alloc o).alloc o') := ((Below.refl _ _).alloc (Nat.le_refl _) _).alloc (by simp) _
abbrev What.obj (r : What) : Obj := .cells #[.int .u8 r.kind, .int .u8 r.op, .bool r.wide, .bool r.reg, .bool r.sgn, .int .i64 r.size] 73
theorem box44 {W : World} {g B : Nat} (r : What) (hg : g < B) (h : W.heap[g]? = some r.obj) :
    (∀ w', Below B W w' → w'.cell? ⟨g, 0, none⟩ = some (.int .u8 r.kind)) ∧ (∀ w', Below B W w' → w'.cell? ⟨g, 1, none⟩ = some (.int .u8 r.op)) ∧ (∀ w', Below B W w' → w'.cell? ⟨g, 2, none⟩ = some (.bool r.wide)) ∧
    (∀ w', Below B W w' → w'.cell? ⟨g, 3, none⟩ = some (.bool r.reg)) ∧ (∀ w', Below B W w' → w'.cell? ⟨g, 4, none⟩ = some (.bool r.sgn)) ∧ (∀ w', Below B W w' → w'.cell? ⟨g, 5, none⟩ = some (.int .i64 r.size)) := by
  refine ⟨?_, ?_, ?_, ?_, ?_, ?_⟩ <;> (intro w' hb; rw [hb.cell (p := ⟨g, _, none⟩) hg, cell_of_row W g _ _ 73 (0, 0) h]; rfl)
theorem thaw44 {W : World} {g B : Nat} (r : What) (hg : g < B) (h : W.heap[g]? = some r.obj) (k : Nat) : ∀ w', Below B W w' → w'.frozen? ⟨g, k, none⟩ = false := by
  intro w' hb
  rw [hb.frozen (p := ⟨g, _, none⟩) hg]
  exact frozen_of_row W g k _ 73 h
theorem heap_two_new (w : World) (o o' : Obj) : ((w.alloc o).alloc o').heap[w.heap.size + 1]? = some o' := by
  have := heap_alloc_new (w.alloc o) o'
  simpa using this
theorem at_one {W : World} {o o' : Obj} {s : Nat} (hs : W.heap.size = s) : ((W.alloc o).alloc o').drew.heap[s]? = some o := by
  subst hs
  show ((W.alloc o).alloc o').heap[W.heap.size]? = _
  rw [Below.heap_alloc _ _ _ (by simp)]
  exact heap_alloc_new W o
theorem at_two {W : World} {o o' : Obj} {s : Nat} (hs : W.heap.size = s) : ((W.alloc o).alloc o').drew.heap[s + 1]? = some o' := by
  subst hs
  exact heap_two_new W o o'
/-- Two blocks are as they were. -/
structure Keep2 (a b : Nat) (W w' : World) : Prop where
  size : W.heap.size ≤ w'.heap.size
  one : w'.heap[a]? = W.heap[a]?
  two : w'.heap[b]? = W.heap[b]?
section
variable {a b : Nat} {W w : World}
theorem keep2_refl : Keep2 a b W W := ⟨Nat.le_refl _, rfl, rfl⟩
theorem keep2_alloc {o : Obj} (h : Keep2 a b W w) (ha : a < W.heap.size) (hb : b < W.heap.size) : Keep2 a b W (w.alloc o) :=
  ⟨Nat.le_trans h.size (by simp), (Below.heap_alloc _ _ _ (Nat.lt_of_lt_of_le ha h.size)).trans h.one, (Below.heap_alloc _ _ _ (Nat.lt_of_lt_of_le hb h.size)).trans h.two⟩
theorem keep2_drew (h : Keep2 a b W w) : Keep2 a b W w.drew := ⟨h.size, h.one, h.two⟩
theorem keep2_set {p : Addr} {u : Value} (h : Keep2 a b W w) (ha : a ≠ p.block) (hb : b ≠ p.block) : Keep2 a b W (w.setCell p u) :=
  ⟨by simpa using h.size, (Below.heap_setCell _ _ _ _ ha).trans h.one, (Below.heap_setCell _ _ _ _ hb).trans h.two⟩
theorem keep2_one {k : Nat} {u : Value} (h : W.cell? ⟨a, k, none⟩ = some u) : ∀ w', Keep2 a b W w' → w'.cell? ⟨a, k, none⟩ = some u := fun w' hk => (World.cell?_of_block (a := ⟨a, k, none⟩) hk.one).trans h
theorem keep2_two {k : Nat} {u : Value} (h : W.cell? ⟨b, k, none⟩ = some u) : ∀ w', Keep2 a b W w' → w'.cell? ⟨b, k, none⟩ = some u := fun w' hk => (World.cell?_of_block (a := ⟨b, k, none⟩) hk.two).trans h
end
theorem three_heap (w : World) (o1 o2 o3 : Obj) : (((w.alloc o1).alloc o2).alloc o3).heap[w.heap.size]? = some o1 ∧ (((w.alloc o1).alloc o2).alloc o3).heap[w.heap.size + 1]? = some o2 ∧ (((w.alloc o1).alloc o2).alloc o3).heap[w.heap.size + 1 + 1]? = some o3 ∧
    (((w.alloc o1).alloc o2).alloc o3).heap.size = w.heap.size + 3 ∧ Below w.heap.size w (((w.alloc o1).alloc o2).alloc o3) := by
  refine ⟨?_, ?_, ?_, by simp, (below_two w o1 o2).alloc (by rw [size_two]; omega) _⟩
  · rw [Below.heap_alloc _ _ _ (by rw [size_two]; omega), Below.heap_alloc _ _ _ (by simp)]
    exact heap_alloc_new w _
  · rw [Below.heap_alloc _ _ _ (by rw [size_two]; omega)]
    exact heap_two_new w _ _
  · have := heap_two_new (w.alloc o1) o2 o3
    simpa using this
theorem tdiv8 (n : Int) (h0 : -2147483648 ≤ n) (h1 : n ≤ 2147483647) : wrap64 (wrap32 (n.tdiv 8)) = n.tdiv 8 := by
  have h : -2147483648 ≤ n.tdiv 8 ∧ n.tdiv 8 ≤ 2147483647 := by
    rcases Int.le_total 0 n with h | h
    · rw [Int.tdiv_eq_ediv_of_nonneg h]; omega
    · obtain ⟨m, rfl⟩ : ∃ m, n = -m := ⟨-n, by omega⟩
      rw [Int.neg_tdiv, Int.tdiv_eq_ediv_of_nonneg (by omega)]; omega
  unfold wrap64 wrap32
  omega
end Go.Proofs.YtncogaikiceidaaGreat
