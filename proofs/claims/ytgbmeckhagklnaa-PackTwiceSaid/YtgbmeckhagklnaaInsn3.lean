/- An instruction taken by the reference, and bytes that are none: walked. No statement is proved here. -/
import Derived.Test.YtgbmeckhagklnaaInsn2
namespace Go.Proofs.Ytgbmeckhagklnaa
open Go.RowKit

set_option maxRecDepth 100000 in
theorem rtake_ok (op d o0 o1 i0 i1 i2 i3 : Int) (A : Option Addr) (c : Nat) (w : World) (h : SAt w w.heap.size 1 A 8 (bytesV [op, d, o0, o1, i0, i1, i2, i3]))
    (h0 : 0 ≤ op ∧ op ≤ 255) (h1 : 0 ≤ d ∧ d ≤ 255) (h2 : 0 ≤ o0 ∧ o0 ≤ 255) (h3 : 0 ≤ o1 ∧ o1 ≤ 255) (h4 : 0 ≤ i0 ∧ i0 ≤ 255) (h5 : 0 ≤ i1 ∧ i1 ≤ 255) (h6 : 0 ≤ i2 ∧ i2 ≤ 255) (h7 : 0 ≤ i3 ∧ i3 ≤ 255) :
    Calls Try.prog 34 #[.slice A 8 c] w fun e w' => e = .returned (.tuple #[(takeI op d o0 o1 i0 i1 i2 i3).val, .int .i64 0]) ∧ Below w.heap.size w w' := by
  obtain ⟨b, o, rfl, hb, hc⟩ := h.2 (by omega)
  have c0 := hc 0 _ rfl
  have c1 := hc 1 _ rfl
  have c2 := hc 2 _ rfl
  have c3 := hc 3 _ rfl
  have c4 := hc 4 _ rfl
  have c5 := hc 5 _ rfl
  have c6 := hc 6 _ rfl
  have c7 := hc 7 _ rfl
  rw [Nat.add_zero] at c0
  clear hc h
  obtain ⟨h0, h0'⟩ := h0
  obtain ⟨h1, h1'⟩ := h1
  obtain ⟨h2, h2'⟩ := h2
  obtain ⟨h3, h3'⟩ := h3
  obtain ⟨h4, h4'⟩ := h4
  obtain ⟨h5, h5'⟩ := h5
  obtain ⟨h6, h6'⟩ := h6
  obtain ⟨h7, h7'⟩ := h7
  have k0 : IntKind.u16.wrap o0 = o0 := by rw [IntKind.wrap_u16]; omega
  have k1 : IntKind.u16.wrap o1 = o1 := by rw [IntKind.wrap_u16]; omega
  have k2 : IntKind.u16.wrap (256 * o1) = 256 * o1 := by rw [IntKind.wrap_u16]; omega
  have k3 : IntKind.u16.wrap (o0 + 256 * o1) = o0 + 256 * o1 := by rw [IntKind.wrap_u16]; omega
  have k4 : IntKind.i16.wrap (o0 + 256 * o1) = (o0 + 256 * o1 + 32768) % 65536 - 32768 := wrap_i16 _
  have k5 : IntKind.i32.wrap (i0 + 256 * i1 + 65536 * i2 + 16777216 * i3) = (i0 + 256 * i1 + 65536 * i2 + 16777216 * i3 + 2147483648) % 4294967296 - 2147483648 := IntKind.wrap_i32 _
  have k6 : d.tmod 16 = d % 16 := Int.tmod_eq_emod_of_nonneg h1
  have k7 : IntKind.u8.wrap (d.tdiv 16) = d / 16 := IntWalk.u8_quo d 16 (by omega)
  go_enter Try.func34, Try.ntmps34
  go_wp2_with fail
  go_quiet (fail)
  go_wp2_with fail
  go_quiet (fail)
  go_wp2_with fail
  go_region_held3 (fun w' => w'.cell? ⟨b, o, none⟩ = some (.int .u8 op) ∧ w'.cell? ⟨b, o + 1, none⟩ = some (.int .u8 d)) (refine ⟨?_, ?_⟩ <;> go_simp) (first | fail)
  go_wp2_with fail
  refine bodyPost_ret (v := .tuple #[.agg #[_, _, _, _, _], .int .i64 0]) (by simp [results, Try.results34, go_sem]; exact ⟨rfl, rfl, rfl, rfl, rfl⟩) rfl ⟨?_, ?_⟩
  · rfl
  · exact below_drewN ((Below.refl _ _).alloc (Nat.le_refl _) _) _
theorem take_bad (n : Nat) (hn : n ≠ 8) (A : Option Addr) (c : Nat) (w : World) :
    Calls Try.prog 33 #[.slice A n c] w fun e w' => e = .returned (.tuple #[Insn.zero.val, .int .i64 6]) ∧ Below w.heap.size w w' := by
  have k : ((n : Int) != 8) = true := by rw [bne_iff_ne]; omega
  go_enter Try.func33, Try.ntmps33
  go_wp2_with fail
  refine bodyPost_ret (v := .tuple #[.agg #[_, _, _, _, _], .int .i64 6]) (by simp [results, Try.results33, go_sem]; exact ⟨rfl, rfl, rfl, rfl, rfl⟩) rfl ⟨rfl, ?_⟩
  exact (Below.refl _ _).alloc (Nat.le_refl _) _
theorem rtake_bad (n : Nat) (hn : n ≠ 8) (A : Option Addr) (c : Nat) (w : World) :
    Calls Try.prog 34 #[.slice A n c] w fun e w' => e = .returned (.tuple #[Insn.zero.val, .int .i64 6]) ∧ Below w.heap.size w w' := by
  have k : ((n : Int) != 8) = true := by rw [bne_iff_ne]; omega
  go_enter Try.func34, Try.ntmps34
  go_wp2_with fail
  refine bodyPost_ret (v := .tuple #[.agg #[_, _, _, _, _], .int .i64 6]) (by simp [results, Try.results34, go_sem]; exact ⟨rfl, rfl, rfl, rfl, rfl⟩) rfl ⟨rfl, ?_⟩
  exact (Below.refl _ _).alloc (Nat.le_refl _) _
end Go.Proofs.Ytgbmeckhagklnaa
