/- The law InsnTakes, walked. -/
import Derived.Test.YtncogaikiceidaaGreatInsn5
namespace Go.Proofs.YtncogaikiceidaaGreat
open Go.RowKit
theorem box24_at (x : Insn) (w w' : World) (hb : Below (w.heap.size + 1) (w.alloc (.cells #[.int .u8 x.op, .int .u8 x.dst, .int .u8 x.src, .int .i16 x.off, .int .i32 x.imm] 27)) w') :
    w'.cell? ⟨w.heap.size, 0, none⟩ = some (.int .u8 x.op) ∧ w'.cell? ⟨w.heap.size, 1, none⟩ = some (.int .u8 x.dst) ∧ w'.cell? ⟨w.heap.size, 2, none⟩ = some (.int .u8 x.src) ∧
    w'.cell? ⟨w.heap.size, 3, none⟩ = some (.int .i16 x.off) ∧ w'.cell? ⟨w.heap.size, 4, none⟩ = some (.int .i32 x.imm) := by
  obtain ⟨a, b, c, d, e⟩ := box24 x (Nat.lt_succ_self w.heap.size) (heap_alloc_new w _)
  exact ⟨a w' hb, b w' hb, c w' hb, d w' hb, e w' hb⟩
end Go.Proofs.YtncogaikiceidaaGreat
