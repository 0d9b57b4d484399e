/- The law CodeWhat, walked. No statement is proved here. -/
import Derived.Test.YtgbmeckhagklnaaEncode
import Derived.Test.YtgbmeckhagklnaaRWhat
namespace Go.Proofs.Ytgbmeckhagklnaa
open Go.RowKit
set_option linter.unusedSimpArgs false
set_option linter.unusedVariables false
set_option linter.unnecessarySimpa false
theorem eq_what2 (r : What) (w : World) : (binOp .eql 44 r.val r.val).run Try.prog w = .ok (.bool true) w := by
  simp [go_sem]
set_option maxRecDepth 100000 in
set_option maxHeartbeats 16000000 in
theorem codeWhat_walk (x : Insn) (hx : x.Ok) (w : World) : Calls Try.prog 8 #[x.val] w fun e w' => e = .returned (.bool true) ∧ Below w.heap.size w w' := by
  have c1 := fun w => sem_any x hx w
  have c2 := fun w => rsem_any x hx w
  generalize sem x = r at *
  obtain ⟨⟨r0, r1, r2, r3, r4, r5⟩, rb⟩ := r
  have hE := eq_what2 ⟨r0, r1, r2, r3, r4, r5⟩
  simp only [What.val] at hE
  obtain ⟨f0, f1, f2, f3, f4⟩ := box24 (W := w.alloc x.obj) (g := w.heap.size) (B := w.heap.size + 1) x (by omega) (heap_alloc_new _ _)
  have hsz : (w.alloc x.obj).heap.size = w.heap.size + 1 := by simp
  have HS := Lib.hid hsz
  clear hsz
  have hB0 := (Below.refl w.heap.size w).alloc (Nat.le_refl _) x.obj
  go_enter Try.func8, Try.ntmps8
  go_wp2_with fail
  generalize hW : w.alloc x.obj = W at *
  refine (c1 _).mono ?_
  rintro e w1 ⟨rfl, hb1⟩
  clear c1
  have hb1' : Below (w.heap.size + 1) W w1 := hb1.mono (by rw [HS.out]; exact Nat.le_refl _)
  have hbA := hb1.alloc hb1.size (What.obj ⟨r0, r1, r2, r3, r4, r5⟩)
  have hbA' : Below (w.heap.size + 1) W (w1.alloc (What.obj ⟨r0, r1, r2, r3, r4, r5⟩)) := hbA.mono (by rw [HS.out]; exact Nat.le_refl _)
  replace f0 := f0 _ hbA'
  replace f1 := f1 _ hbA'
  replace f2 := f2 _ hbA'
  replace f3 := f3 _ hbA'
  replace f4 := f4 _ hbA'
  obtain ⟨g0, g1, g2, g3, g4, g5⟩ := box44 (W := w1.alloc (What.obj ⟨r0, r1, r2, r3, r4, r5⟩)) (g := w1.heap.size) (B := w1.heap.size + 1) ⟨r0, r1, r2, r3, r4, r5⟩ (by omega) (heap_alloc_new _ _)
  simp only at g0 g1 g2 g3 g4 g5
  have hs2 : (w1.alloc (What.obj ⟨r0, r1, r2, r3, r4, r5⟩)).heap.size = w1.heap.size + 1 := by simp
  have HT := Lib.hid hs2
  clear hs2
  go_wp2_with fail
  generalize hV : w1.alloc (.cells #[.int .u8 r0, .int .u8 r1, .bool r2, .bool r3, .bool r4, .int .i64 r5] 44) = V at *
  refine (c2 _).mono ?_
  rintro e w2 ⟨rfl, hb2⟩
  clear c2
  have hb2' : Below (w1.heap.size + 1) V w2 := hb2.mono (by rw [HT.out]; exact Nat.le_refl _)
  have hbB := hb2.alloc hb2.size (What.obj ⟨r0, r1, r2, r3, r4, r5⟩)
  have hbB' := hb2'.alloc (Nat.le_trans (by rw [HT.out]; exact Nat.le_refl _) hb2.size) (What.obj ⟨r0, r1, r2, r3, r4, r5⟩)
  obtain ⟨y0, y1, y2, y3, y4, y5⟩ := box44 (W := w2.alloc (What.obj ⟨r0, r1, r2, r3, r4, r5⟩)) (g := w2.heap.size) (B := w2.heap.size + 1) ⟨r0, r1, r2, r3, r4, r5⟩ (by omega) (heap_alloc_new _ _)
  simp only at y0 y1 y2 y3 y4 y5
  have hs3 : (w2.alloc (What.obj ⟨r0, r1, r2, r3, r4, r5⟩)).heap.size = w2.heap.size + 1 := by simp
  have HU := Lib.hid hs3
  have hbV : Below w.heap.size w V := hB0.trans (hbA.mono hB0.size)
  have hbVB := hbV.trans (hbB.mono hbV.size)
  clear hs3
  go_wp2_with fail
  generalize hU : w2.alloc (.cells #[.int .u8 r0, .int .u8 r1, .bool r2, .bool r3, .bool r4, .int .i64 r5] 44) = U at *
  refine (shown07_any _).mono ?_
  rintro e w3 ⟨rfl, hb3⟩
  have hb3' : Below (w2.heap.size + 1) U w3 := hb3.mono (by rw [HU.out]; exact Nat.le_refl _)
  have hb3V : Below (w1.heap.size + 1) V w3 := hbB'.trans (hb3.mono (Nat.le_trans (by rw [HT.out]; exact Nat.le_refl _) hbB'.size))
  have hfin := hbVB.trans (hb3.mono hbVB.size)
  replace g0 := g0 _ hb3V
  replace g1 := g1 _ hb3V
  replace g2 := g2 _ hb3V
  replace g3 := g3 _ hb3V
  replace g4 := g4 _ hb3V
  replace g5 := g5 _ hb3V
  replace y0 := y0 _ hb3'
  replace y1 := y1 _ hb3'
  replace y2 := y2 _ hb3'
  replace y3 := y3 _ hb3'
  replace y4 := y4 _ hb3'
  replace y5 := y5 _ hb3'
  clear f0 f1 f2 f3 f4
  go_wp2_with fail
  go_ret
  exact ⟨by simp, hfin⟩
end Go.Proofs.Ytgbmeckhagklnaa
