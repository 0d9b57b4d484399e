/- The law InsnTakes, walked. -/
import Derived.Test.YtgbmeckhagklnaaInsn5
namespace Go.Proofs.Ytgbmeckhagklnaa
open Go.RowKit
theorem box24_at (x : Insn) (w w' : World) (hb : Below (w.heap.size + 1) (w.alloc (.cells #[.int .u8 x.op, .int .u8 x.dst, .int .u8 x.src, .int .i16 x.off, .int .i32 x.imm] 24)) w') :
    w'.cell? ⟨w.heap.size, 0, none⟩ = some (.int .u8 x.op) ∧ w'.cell? ⟨w.heap.size, 1, none⟩ = some (.int .u8 x.dst) ∧ w'.cell? ⟨w.heap.size, 2, none⟩ = some (.int .u8 x.src) ∧
    w'.cell? ⟨w.heap.size, 3, none⟩ = some (.int .i16 x.off) ∧ w'.cell? ⟨w.heap.size, 4, none⟩ = some (.int .i32 x.imm) := by
  obtain ⟨a, b, c, d, e⟩ := box24 x (Nat.lt_succ_self w.heap.size) (heap_alloc_new w _)
  exact ⟨a w' hb, b w' hb, c w' hb, d w' hb, e w' hb⟩
theorem take_all (l : List Int) (A : Option Addr) (m n c : Nat) (hm : m ≤ n) (hn : l.length = n) (hl : ∀ b ∈ l, isByte b) (hc : n ≤ c) (w w0 : World) (h : SAt w0 w0.heap.size 1 A n (bytesV l)) (hb : Below w0.heap.size w0 w) :
    Calls Try.prog 33 #[.slice A m c] w fun e w' => e = .returned (.tuple #[(takeL (l.take m)).1.val, .int .i64 (takeL (l.take m)).2]) ∧ Below w.heap.size w w' := by
  have hlen : (l.take m).length = m := by rw [List.length_take]; omega
  have h1 := (h.cut hm).below hb
  rw [Nat.mul_one] at h1
  have := take_any (l.take m) (fun b hb => hl b (List.mem_of_mem_take hb)) A c (by omega) w (by rw [hlen]; exact (by rw [bytesV, ← List.map_take] at h1; exact h1.more hb.size))
  rwa [hlen] at this
theorem rtake_all (l : List Int) (A : Option Addr) (m n c : Nat) (hm : m ≤ n) (hn : l.length = n) (hl : ∀ b ∈ l, isByte b) (w w0 : World) (h : SAt w0 w0.heap.size 1 A n (bytesV l)) (hb : Below w0.heap.size w0 w) :
    Calls Try.prog 34 #[.slice A m c] w fun e w' => e = .returned (.tuple #[(takeL (l.take m)).1.val, .int .i64 (takeL (l.take m)).2]) ∧ Below w.heap.size w w' := by
  have hlen : (l.take m).length = m := by rw [List.length_take]; omega
  have h1 := (h.cut hm).below hb
  rw [Nat.mul_one] at h1
  have := rtake_any (l.take m) (fun b hb => hl b (List.mem_of_mem_take hb)) A c w (by rw [hlen]; exact (by rw [bytesV, ← List.map_take] at h1; exact h1.more hb.size))
  rwa [hlen] at this
set_option maxRecDepth 100000 in
theorem insnTakes_walk (l : List Int) (hl : ∀ b ∈ l, isByte b) (A : Option Addr) (c : Nat) (hc : l.length ≤ c) (hc' : c ≤ maxLen) (w : World) (h : SAt w w.heap.size 1 A l.length (bytesV l)) :
    Calls Try.prog 6 #[.slice A l.length c] w fun e w' => e = .returned (.bool true) ∧ Below w.heap.size w w' := by
  unfold maxLen at hc'
  generalize hn : l.length = n at *
  have HN := Lib.hid hn
  clear hn
  by_cases h20 : 20 < n
  all_goals
    go_enter Try.func6, Try.ntmps6
    go_wp2_with fail
    refine (take_all l A _ n c (by omega) HN.out hl hc _ w h (Below.refl _ _)).mono ?_
    rintro e w1 ⟨rfl, h1⟩
    have hsz := h1.size
    go_wp2_with fail
    refine (rtake_all l A _ n c (by omega) HN.out hl _ w h (sbelow_alloc h1 (Nat.le_refl _))).mono ?_
    rintro e w2 ⟨rfl, h2⟩
    generalize takeL _ = r at *
    obtain ⟨x, er⟩ := r
    simp only at *
    have hs1 : (w1.alloc (.cells #[.int .u8 x.op, .int .u8 x.dst, .int .u8 x.src, .int .i16 x.off, .int .i32 x.imm] 24)).heap.size = w1.heap.size + 1 := by simp
    rw [hs1] at h2
    clear hs1
    have hsz2 := h2.size
    simp at hsz2
    have h2' : Below w.heap.size w w2 := (sbelow_alloc h1 (Nat.le_refl _)).trans (h2.mono (by omega))
    clear h1 h
    go_wp2_with fail
    refine (shown_insn _).mono ?_
    rintro e w3 ⟨rfl, h3⟩
    have hs2 : (w2.alloc (.cells #[.int .u8 x.op, .int .u8 x.dst, .int .u8 x.src, .int .i16 x.off, .int .i32 x.imm] 24)).heap.size = w2.heap.size + 1 := by simp
    rw [hs2] at h3
    clear hs2
    obtain ⟨a0, a1, a2, a3, a4⟩ := box24_at x w2 w3 h3
    obtain ⟨b0, b1, b2, b3, b4⟩ := box24_at x w1 w3 ((h2.alloc (by omega) _).trans (h3.mono (by omega)))
    have hfin : Below w.heap.size w w3 := (h2'.alloc (by omega) _).trans (h3.mono (by omega))
    clear h3 h2' h2
    go_wp2_with fail
    go_ret
    exact ⟨rfl, hfin⟩
end Go.Proofs.Ytgbmeckhagklnaa
