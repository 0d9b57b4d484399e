/- An instruction's bytes taken (the program's Take, and the reference's), and the reference's Put: what they come to, walked. No statement is proved here. -/
import Derived.Test.YtgbmeckhagklnaaInsn1
namespace Go.Proofs.Ytgbmeckhagklnaa
open Go.RowKit
theorem listeq8 {a b c d e f g h a' b' c' d' e' f' g' h' : Int} (h1 : a = a') (h2 : b = b') (h3 : c = c') (h4 : d = d') (h5 : e = e') (h6 : f = f') (h7 : g = g') (h8 : h = h') :
   [Value.int .u8 a, .int .u8 b, .int .u8 c, .int .u8 d, .int .u8 e, .int .u8 f, .int .u8 g, .int .u8 h] = [Value.int .u8 a', .int .u8 b', .int .u8 c', .int .u8 d', .int .u8 e', .int .u8 f', .int .u8 g', .int .u8 h'] := by
  subst_vars; rfl
set_option maxRecDepth 100000 in
theorem rput_ok (x : Insn) (h : x.Ok) (hd : x.dst ≤ 15) (hs : x.src ≤ 15) (w : World) : Calls Try.prog 29 #[x.val] w (PutOk w x.bytes) := by
  obtain ⟨op, d, s, o, i⟩ := x
  obtain ⟨p1, p2, p3, p4, p5, p6, p7, p8, p9, p10⟩ := h
  simp only at *
  have e16 := IntKind.wrap_u16
  go_enter Try.func29, Try.ntmps29
  go_wp2
  go_ret2
  refine ⟨_, _, rfl, ?_, ((Below.refl _ _).alloc (Nat.le_refl _) _).alloc (by simp) _⟩
  have := own_new (w.alloc (.cells #[.int .u8 op, .int .u8 d, .int .u8 s, .int .i16 o, .int .i32 i] 24)) (w.heap.size+1) (bytesV (Insn.bytes ⟨op, d, s, o, i⟩)).toArray 5 1 8 8 w.heap.size (by simp) (by omega) (by omega) (by simp [maxLen]) rfl
  have e : (bytesV (Insn.bytes ⟨op, d, s, o, i⟩)).toArray.toList.take (8 * 1) = bytesV (Insn.bytes ⟨op, d, s, o, i⟩) := rfl
  rw [e] at this
  refine Eq.mp ?_ this
  congr 4
  rw [Int.tdiv_eq_ediv_of_nonneg (by omega)]
  refine listeq8 rfl rfl ?_ ?_ ?_ ?_ ?_ ?_
  all_goals (dsimp only; try omega)
theorem wrap_i16 (n : Int) : IntKind.i16.wrap n = (n + 32768) % 65536 - 32768 := by
  simp only [IntKind.wrap, IntKind.bits, IntKind.signed]; simp; split <;> omega
theorem or_i32 (x y i : Nat) (b : Int) (hx : x < 2 ^ i) (hy : y % 2 ^ i = 0) (hb : b % 4294967296 = y) (hxy : x + y < 4294967296) :
    bits .or .i32 (x : Int) b = (((x + y : Nat) : Int) + 2147483648) % 4294967296 - 2147483648 := by
  show IntKind.i32.wrap ((BitVec.ofInt 32 (x : Int) ||| BitVec.ofInt 32 b).toNat : Int) = _
  have e : (BitVec.ofInt 32 b).toNat = y := by
    rw [BitVec.toNat_ofInt, show ((2 ^ 32 : Nat) : Int) = 4294967296 from rfl, hb]; rfl
  rw [BitVec.toNat_or, ofInt_u32 x (by omega), e, Nat.or_comm, nat_join i _ _ hy hx, IntKind.wrap_i32, Nat.add_comm]
theorem or_i16 (x y i : Nat) (b : Int) (hx : x < 2 ^ i) (hy : y % 2 ^ i = 0) (hb : b % 65536 = y) (hxy : x + y < 65536) :
    bits .or .i16 (x : Int) b = (((x + y : Nat) : Int) + 32768) % 65536 - 32768 := by
  show IntKind.i16.wrap ((BitVec.ofInt 16 (x : Int) ||| BitVec.ofInt 16 b).toNat : Int) = _
  have e : (BitVec.ofInt 16 b).toNat = y := by
    rw [BitVec.toNat_ofInt, show ((2 ^ 16 : Nat) : Int) = 65536 from rfl, hb]; rfl
  rw [BitVec.toNat_or, ofInt_u16 x (by omega), e, Nat.or_comm, nat_join i _ _ hy hx, wrap_i16, Nat.add_comm]
def imP (i0 i1 i2 i3 : Int) : Nat → Int
  | 0 => 0
  | 1 => i0
  | 2 => i0 + 256 * i1
  | 3 => i0 + 256 * i1 + 65536 * i2
  | _ => (i0 + 256 * i1 + 65536 * i2 + 16777216 * i3 + 2147483648) % 4294967296 - 2147483648
theorem imP0 (i0 i1 i2 i3 : Int) : imP i0 i1 i2 i3 0 = 0 := rfl
theorem imP1 (i0 i1 i2 i3 : Int) : imP i0 i1 i2 i3 1 = i0 := rfl
theorem imP2 (i0 i1 i2 i3 : Int) : imP i0 i1 i2 i3 2 = i0 + 256 * i1 := rfl
theorem imP3 (i0 i1 i2 i3 : Int) : imP i0 i1 i2 i3 3 = i0 + 256 * i1 + 65536 * i2 := rfl
theorem imP4 (i0 i1 i2 i3 : Int) : imP i0 i1 i2 i3 4 = (i0 + 256 * i1 + 65536 * i2 + 16777216 * i3 + 2147483648) % 4294967296 - 2147483648 := rfl
theorem or_last (i0 i1 i2 i3 : Int) (h4 : 0 ≤ i0) (h4' : i0 ≤ 255) (h5 : 0 ≤ i1) (h5' : i1 ≤ 255) (h6 : 0 ≤ i2) (h6' : i2 ≤ 255) (h7 : 0 ≤ i3) (h7' : i3 ≤ 255) :
    bits BinOp.or .i32 (i0 + 256 * i1 + 65536 * i2) (wrap32 (i3 * 16777216)) = (i0 + 256 * i1 + 65536 * i2 + 16777216 * i3 + 2147483648) % 4294967296 - 2147483648 := by
  obtain ⟨x, hx⟩ := Int.eq_ofNat_of_zero_le (show 0 ≤ i0 + 256 * i1 + 65536 * i2 by omega)
  obtain ⟨y, rfl⟩ := Int.eq_ofNat_of_zero_le h7
  have hx' : x < 16777216 := by omega
  rw [hx]
  have hw : wrap32 ((y : Int) * 16777216) % 4294967296 = ((y * 16777216 : Nat) : Int) := by unfold wrap32; omega
  rw [or_i32 x (y * 16777216) 24 _ hx' (Nat.mul_mod_left y 16777216) hw (by omega)]
  congr 2
  omega
def takeI (b0 b1 b2 b3 b4 b5 b6 b7 : Int) : Insn :=
  ⟨b0, b1 % 16, b1 / 16, (b2 + 256 * b3 + 32768) % 65536 - 32768, (b4 + 256 * b5 + 65536 * b6 + 16777216 * b7 + 2147483648) % 4294967296 - 2147483648⟩
set_option maxRecDepth 100000 in
theorem take_ok (op d o0 o1 i0 i1 i2 i3 : Int) (A : Option Addr) (c : Nat) (w : World) (h : SAt w w.heap.size 1 A 8 (bytesV [op, d, o0, o1, i0, i1, i2, i3]))
    (h0 : 0 ≤ op ∧ op ≤ 255) (h1 : 0 ≤ d ∧ d ≤ 255) (h2 : 0 ≤ o0 ∧ o0 ≤ 255) (h3 : 0 ≤ o1 ∧ o1 ≤ 255) (h4 : 0 ≤ i0 ∧ i0 ≤ 255) (h5 : 0 ≤ i1 ∧ i1 ≤ 255) (h6 : 0 ≤ i2 ∧ i2 ≤ 255) (h7 : 0 ≤ i3 ∧ i3 ≤ 255)
   (hcap : 8 ≤ c) : Calls Try.prog 33 #[.slice A 8 c] w fun e w' => e = .returned (.tuple #[(takeI op d o0 o1 i0 i1 i2 i3).val, .int .i64 0]) ∧ Below w.heap.size w w' := by
  obtain ⟨b, o, rfl, hb, hc⟩ := h.2 (by omega)
  have c0 := hc 0 _ rfl
  have c1 := hc 1 _ rfl
  have c2 := hc 2 _ rfl
  have c3 := hc 3 _ rfl
  have c4 := hc 4 _ rfl
  have c5 := hc 5 _ rfl
  have c6 := hc 6 _ rfl
  have c7 := hc 7 _ rfl
  rw [Nat.add_zero] at c0
  clear hc h
  obtain ⟨h0, h0'⟩ := h0
  obtain ⟨h1, h1'⟩ := h1
  obtain ⟨h2, h2'⟩ := h2
  obtain ⟨h3, h3'⟩ := h3
  obtain ⟨h4, h4'⟩ := h4
  obtain ⟨h5, h5'⟩ := h5
  obtain ⟨h6, h6'⟩ := h6
  obtain ⟨h7, h7'⟩ := h7
  go_enter Try.func33, Try.ntmps33
  go_wp2_with fail
  have hdl : bits BinOp.and IntKind.u8 d 15 = d % 16 := by
    obtain ⟨x, rfl⟩ := Int.eq_ofNat_of_zero_le h1
    have := u8_and_nat x 15 (by omega) (by omega)
    rw [nat_mask4] at this
    exact this
  go_region_held3 (fun w' => w'.cell? ⟨b, o, none⟩ = some (.int .u8 op) ∧ w'.cell? ⟨b, o + 1, none⟩ = some (.int .u8 d) ∧ w'.cell? ⟨b, o + 2, none⟩ = some (.int .u8 o0) ∧ w'.cell? ⟨b, o + 3, none⟩ = some (.int .u8 o1)) (refine ⟨?_, ?_, ?_, ?_⟩ <;> go_simp) (first | fail)
  go_wp2_with fail
  have hoff : bits BinOp.or IntKind.i16 o0 (IntKind.i16.wrap (o1 * 256)) = (o0 + 256 * o1 + 32768) % 65536 - 32768 := by
    obtain ⟨x, rfl⟩ := Int.eq_ofNat_of_zero_le h2
    obtain ⟨y, rfl⟩ := Int.eq_ofNat_of_zero_le h3
    rw [or_i16 x (y * 256) 8 _ (by omega) (by omega) (by rw [wrap_i16]; omega) (by omega)]
    omega
  have e1 : bits BinOp.or .i32 i0 (i1 * 256) = i0 + 256 * i1 := by
    obtain ⟨x, rfl⟩ := Int.eq_ofNat_of_zero_le h4
    obtain ⟨y, rfl⟩ := Int.eq_ofNat_of_zero_le h5
    rw [or_i32 x (y * 256) 8 _ (by omega) (by omega) (by omega) (by omega)]
    omega
  have e2 : bits BinOp.or .i32 (i0 + 256 * i1) (i2 * 65536) = i0 + 256 * i1 + 65536 * i2 := by
    obtain ⟨x, hx⟩ := Int.eq_ofNat_of_zero_le (show 0 ≤ i0 + 256 * i1 by omega)
    obtain ⟨y, rfl⟩ := Int.eq_ofNat_of_zero_le h6
    rw [hx, or_i32 x (y * 65536) 16 _ (by omega) (by omega) (by omega) (by omega)]
    omega
  have e3 := or_last i0 i1 i2 i3 h4 h4' h5 h5' h6 h6' h7 h7'
  rw [hoff]
  go_loopw [36, 5, 6] (fun k u5 u6 wr => ∃ (j n : Nat), j ≤ 4 ∧ k = .int .i64 j ∧ wr = ((w.alloc (.cells #[.int .u8 0, .int .u8 0, .int .u8 0, .int .i16 0, .int .i32 0] 24)).alloc (.cells #[.int .u8 op, .int .u8 (d % 16), .int .u8 (d / 16), .int .i16 ((o0 + 256 * o1 + 32768) % 65536 - 32768), .int .i32 (imP i0 i1 i2 i3 j)] 24)).drewN n) (fun k _ _ _ => 4 - (intOf k).toNat)
  case atStart => exact ⟨0, 1, by omega, rfl, by rw [imP0]; rfl⟩
  case round =>
    obtain ⟨j, n, hj, rfl, rfl⟩ := hrel
    rcases (show j = 0 ∨ j = 1 ∨ j = 2 ∨ j = 3 ∨ j = 4 by omega) with rfl | rfl | rfl | rfl | rfl
    · rw [imP0]
      go_wp2_with fail
      go_region
      go_wp2_with fail
      go_roundw
      case rel => exact ⟨1, n + 1, by omega, rfl, by rw [imP1]⟩
      case measure => simp [intOf]
    · rw [imP1]
      go_wp2_with fail
      go_region
      go_wp2_with fail
      go_roundw
      case rel => exact ⟨2, n + 1, by omega, rfl, by rw [imP2]⟩
      case measure => simp [intOf]
    · rw [imP2]
      go_wp2_with fail
      go_region
      go_wp2_with fail
      go_roundw
      case rel => exact ⟨3, n + 1, by omega, rfl, by rw [imP3]⟩
      case measure => simp [intOf]
    · rw [imP3]
      go_wp2_with fail
      go_region
      go_wp2_with fail
      go_roundw
      case rel => exact ⟨4, n + 1, by omega, rfl, by rw [imP4]⟩
      case measure => simp [intOf]
    · rw [imP4]
      go_wp2_with fail
      refine bodyPost_ret (v := .tuple #[.agg #[_, _, _, _, _], .int .i64 0]) (by simp [results, Try.results33, go_sem]; exact ⟨rfl, rfl, rfl, rfl, rfl⟩) rfl ⟨rfl, ?_⟩
      exact below_drewN (((Below.refl _ _).alloc (Nat.le_refl _) _).alloc (by simp) _) _
end Go.Proofs.Ytgbmeckhagklnaa
