/- An instruction as bytes (the program's Put, and the reference's): what it comes to, walked. No statement is proved here. -/
import Derived.Test.YtgbmeckhagklnaaBase
namespace Go.Proofs.Ytgbmeckhagklnaa
open Go.RowKit
theorem info5 : (Try.prog.info? 5).map (fun i => (i.zero, i.size, i.bytes)) = some (some (.int .u8 0), 1, 1) := by kernel_rfl
def Insn.bytes (x : Insn) : List Int := [x.op, x.dst + 16 * x.src, x.off % 256, x.off / 256 % 256, x.imm % 256, x.imm / 256 % 256, x.imm / 65536 % 256, x.imm / 16777216 % 256]
/-- What a Put ends with: eight bytes, that are an owned row. -/
def PutOk (W : World) (l : List Int) (e : Ending) (w' : World) : Prop := ∃ A c, e = .returned (.tuple #[.slice A 8 c, .int .i64 0]) ∧ w'.ownsRow W.heap.size 5 1 (.slice A 8 c) 8 (bytesV l) ∧ Below W.heap.size W w'
theorem u8_or16 (d s : Int) (h0 : 0 ≤ d) (h1 : d ≤ 15) (h2 : 0 ≤ s) (h3 : s ≤ 15) : bits .or .u8 d (s * 16) = d + 16 * s := by
  obtain ⟨d, rfl⟩ := Int.eq_ofNat_of_zero_le h0
  obtain ⟨s, rfl⟩ := Int.eq_ofNat_of_zero_le h2
  have e : (s : Int) * 16 = ((s * 16 : Nat) : Int) := by omega
  rw [e, u8_or_nat _ _ (by omega) (by omega), Nat.or_comm, nat_join 4 _ _ (by omega) (by omega)]
  omega
theorem bytes_take (x : Insn) (j : Nat) (hj : j < 4) : (bytesV x.bytes).take (4 + j) ++ [Value.int IntKind.u8 (x.imm / 2 ^ (8 * j) % 256)] = (bytesV x.bytes).take (4 + (j + 1)) := by
  match j, hj with
  | 0, _ => simp [Insn.bytes, bytesV]
  | 1, _ => simp [Insn.bytes, bytesV]
  | 2, _ => simp [Insn.bytes, bytesV]
  | 3, _ => simp [Insn.bytes, bytesV]
theorem bytes_len (x : Insn) : (bytesV x.bytes).length = 8 := rfl
theorem ret_two {a b c d : Value} (h : a = c) (h' : b = d) : Ending.returned (.tuple #[a, b]) = .returned (.tuple #[c, d]) := by rw [h, h']
set_option maxRecDepth 100000 in
theorem put_ok (x : Insn) (h : x.Ok) (hd : x.dst ≤ 15) (hs : x.src ≤ 15) (w : World) : Calls Try.prog 27 #[x.val] w (PutOk w x.bytes) := by
  obtain ⟨i0, hinf, hz0, hz1, hz2⟩ := info_parts info5
  obtain ⟨op, d, s, o, i⟩ := x
  obtain ⟨p1, p2, p3, p4, p5, p6, p7, p8, p9, p10⟩ := h
  simp only at *
  have hor := u8_or16 d s p3 hd p5 hs
  go_enter Try.func27, Try.ntmps27
  go_wp2_with fail
  go_loopw [4, 5] (fun v k wr => ∃ (j : Nat) (A : Option Addr) (c : Nat), j ≤ 4 ∧ k = .int .i64 (8 * j : Nat) ∧ v = .slice A (4 + j) c ∧ wr.ownsRow (w.heap.size + 1) 5 1 (.slice A (4 + j) c) (4 + j) ((bytesV (Insn.bytes ⟨op, d, s, o, i⟩)).take (4 + j)) ∧
     wr.cell? ⟨w.heap.size, 4, none⟩ = some (.int .i32 i) ∧ w.heap.size + 2 ≤ wr.heap.size ∧ Below w.heap.size w wr) (fun _ k _ => 32 - (intOf k).toNat)
  case atStart =>
    refine ⟨0, _, _, by omega, rfl, rfl, own_new _ _ _ 5 1 4 4 _ ?_ ?_ ?_ ?_ ?_, by simp [go_sem], by simp, ((Below.refl _ _).alloc (Nat.le_refl _) _).alloc (by simp) _⟩
    · simp
    · simp
    · omega
    · simp [maxLen]
    · rfl
  case round =>
    obtain ⟨j, A, c, hj, rfl, rfl, hown, hci, hsz, hb⟩ := hrel
    by_cases hlt : j < 4
    · go_wp2_with (at_builtin; refine wpList_append_box rfl (.tmp 34) (.tmp 40) 26 rfl (w.heap.size+1) 5 i0 (.int .u8 0) 1 1 Try.underlying26 hinf hz0 hz1 hz2 rfl (by decide) A (4+j) c 1 _ rfl rfl rfl hown rfl ?c1 ?c2 ?c3 ?c4 ?c5)
      case c1 => first | rfl | (intro u hu; simp at hu; subst hu; rfl)
      case c2 => simp only [maxLen]; omega
      case c3 => omega
      case c4 => omega
      case c5 =>
        intro A' c' w1 h1 h2 h3 h4
        clear h2 h4
        go_wp2
        go_roundw
        case rel =>
          refine ⟨j + 1, A', c', by omega, by go_num, rfl, ?_, (h3.cell (by simp)).trans hci, by have := h3.size; omega, hb.trans (h3.mono (by omega))⟩
          have := bytes_take ⟨op, d, s, o, i⟩ j hlt
          simp only at this
          rw [← this]
          exact h1
        case measure => simp [intOf]; omega
    · obtain rfl : j = 4 := by omega
      go_wp2_with fail
      go_ret2
      rw [List.take_of_length_le (by simp [bytes_len])] at hown
      exact ⟨A, c, rfl, own_mono (Nat.le_succ _) hown, hb⟩

theorem put_bad (x : Insn) (h : 15 < x.dst ∨ x.dst ≤ 15 ∧ 15 < x.src) (w : World) : Calls Try.prog 27 #[x.val] w fun e w' => e = .returned (.tuple #[.slice none 0 0, .int .i64 1]) ∧ Below w.heap.size w w' := by
  rcases h with h | ⟨h, h'⟩
  all_goals
    go_enter Try.func27, Try.ntmps27
    go_wp2
    go_ret2
    exact ⟨rfl, (Below.refl _ _).alloc (Nat.le_refl _) _⟩
theorem rput_bad (x : Insn) (h : 15 < x.dst ∨ x.dst ≤ 15 ∧ 15 < x.src) (w : World) : Calls Try.prog 29 #[x.val] w fun e w' => e = .returned (.tuple #[.slice none 0 0, .int .i64 1]) ∧ Below w.heap.size w w' := by
  rcases h with h | ⟨h, h'⟩
  all_goals
    go_enter Try.func29, Try.ntmps29
    go_wp2
    go_ret2
    exact ⟨rfl, (Below.refl _ _).alloc (Nat.le_refl _) _⟩
end Go.Proofs.Ytgbmeckhagklnaa
