/- Parts of rows of bytes, and what a byte that is changed comes to. No statement is proved here. -/
import Derived.Test.YtgbmeckhagklnaaIns
import Derived.Laws.BitsAllLaws
namespace Go.Proofs.Ytgbmeckhagklnaa
open Go.RowKit
theorem SAt.part {w : World} {B : Nat} {A : Option Addr} {n : Nat} {xs : List Value} (h : SAt w B 1 A n xs) {i m : Nat} (him : i + m ≤ n) (hm : 0 < m) :
    ∃ b o, A = some ⟨b, o, none⟩ ∧ b < B ∧ SAt w B 1 (some ⟨b, o + i, none⟩) m ((xs.drop i).take m) := by
  obtain ⟨b, o, rfl, hb, hc⟩ := h.2 (by omega)
  have hl := h.1
  refine ⟨b, o, rfl, hb, by rw [List.length_take, List.length_drop]; omega, fun _ => ⟨b, o + i, rfl, hb, fun j u hu => ?_⟩⟩
  rw [List.getElem?_take] at hu
  split at hu
  · rw [List.getElem?_drop] at hu
    rw [Nat.add_assoc]
    exact hc _ _ hu
  · cases hu
theorem insns_at : ∀ {j : Nat} {b : List Int}, 8 * j + 8 ≤ b.length → at' (insns b) j = (takeL ((b.drop (8 * j)).take 8)).1 ∧ (takeL ((b.drop (8 * j)).take 8)).2 = 0
  | 0, b, h => by
    match b, h with
    | b0 :: b1 :: b2 :: b3 :: b4 :: b5 :: b6 :: b7 :: r, h => exact ⟨rfl, rfl⟩
  | j + 1, b, h => by
    match b, h with
    | b0 :: b1 :: b2 :: b3 :: b4 :: b5 :: b6 :: b7 :: r, h =>
      have ih := insns_at (j := j) (b := r) (by simp at h; omega)
      have e : (b0 :: b1 :: b2 :: b3 :: b4 :: b5 :: b6 :: b7 :: r).drop (8 * (j + 1)) = r.drop (8 * j) := by
        rw [show 8 * (j + 1) = 8 * j + 8 by omega]
        rfl
      rw [e]
      exact ih
theorem insns_len {b : List Int} (h : b.length % 8 = 0) : 8 * (insns b).length = b.length := by
  have : ∀ {n : Nat} {b : List Int}, b.length = 8 * n → (insns b).length = n := by
    intro n
    induction n with
    | zero =>
      intro b hn
      have : b = [] := List.eq_nil_of_length_eq_zero (by omega)
      subst this; rfl
    | succ n ih =>
      intro b hn
      match b, hn with
      | b0 :: b1 :: b2 :: b3 :: b4 :: b5 :: b6 :: b7 :: r, hn =>
        simp only [insns, List.length_cons]
        rw [ih (by simp at hn; omega)]
  rw [this (n := b.length / 8) (by omega)]
  omega
theorem take_step {l : List Insn} {j : Nat} (hj : j < l.length) : l.take (j + 1) = l.take j ++ [at' l j] := by
  rw [at_get hj, List.take_add_one, List.getElem?_eq_getElem hj]; rfl
theorem encL_step {l : List Insn} {j : Nat} (hj : j < l.length) : encL (l.take (j + 1)) = encL (l.take j) ++ (at' l j).bytes := by
  rw [take_step hj]; simp [encL]
theorem insnsV_step {l : List Insn} {j : Nat} (hj : j < l.length) : insnsV (l.take (j + 1)) = insnsV (l.take j) ++ (at' l j).cells := by
  rw [take_step hj, insnsV_append]; simp [insnsV]
/-! a byte that is changed -/
theorem xor_byte {a b : Int} (ha : isByte a) (hb : isByte b) : isByte (bits .xor .u8 a b) ∧ (bits .xor .u8 a b = a ↔ b = 0) := by
  obtain ⟨n, rfl⟩ := Int.eq_ofNat_of_zero_le ha.1
  obtain ⟨m, rfl⟩ := Int.eq_ofNat_of_zero_le hb.1
  have h1 := ha.2
  have h2 := hb.2
  rw [u8_xor_nat n m (by omega) (by omega)]
  have h3 : n ^^^ m < 2 ^ 8 := Nat.xor_lt_two_pow (by omega) (by omega)
  refine ⟨⟨by omega, by omega⟩, ?_⟩
  constructor
  · intro h
    have e : n ^^^ m = n := by omega
    have : n ^^^ (n ^^^ m) = n ^^^ n := by rw [e]
    rw [← Nat.xor_assoc, Nat.xor_self, Nat.zero_xor] at this
    omega
  · intro h
    obtain rfl : m = 0 := by omega
    simp
theorem bytes_ok {x : Insn} (h : x.Ok) (hd : x.dst ≤ 15) (hs : x.src ≤ 15) : ∀ b ∈ x.bytes, isByte b := by
  obtain ⟨p1, p2, p3, p4, p5, p6, p7, p8, p9, p10⟩ := h
  intro b hb
  simp only [Insn.bytes, List.mem_cons, List.not_mem_nil, or_false] at hb
  unfold isByte
  rcases hb with rfl | rfl | rfl | rfl | rfl | rfl | rfl | rfl <;> omega
theorem encL_ok {l : List Insn} (hl : ∀ x ∈ l, x.Ok) (hr : ∀ x ∈ l, x.dst ≤ 15 ∧ x.src ≤ 15) : ∀ b ∈ encL l, isByte b := by
  intro b hb
  simp only [encL, List.mem_flatten, List.mem_map] at hb
  obtain ⟨_, ⟨x, hx, rfl⟩, hb⟩ := hb
  exact bytes_ok (hl x hx) (hr x hx).1 (hr x hx).2 b hb
theorem cut_law {l : List Insn} (hl : ∀ x ∈ l, x.Ok) (h : (checkM l).2 = 0) {k : Nat} (hk : k < (encL l).length) {y : Int} (hy : isByte y) (hd : (decM ((encL l).set k (bits .xor .u8 (encL l)[k] y))).2.2 = 0) :
    (decM ((encL l).set k (bits .xor .u8 (encL l)[k] y))).1 = l ↔ y = 0 := by
  have hp := check_prog h
  have hb := encL_ok hl hp.all_regs
  have hx := xor_byte (hb _ (List.getElem_mem hk)) hy
  have hq : ∀ b ∈ (encL l).set k (bits .xor .u8 (encL l)[k] y), isByte b := by
    intro b hb'
    rcases List.mem_or_eq_of_mem_set hb' with h1 | h1
    · exact hb b h1
    · rw [h1]; exact hx.1
  obtain ⟨h1, h2, h3, h4, h5, h6⟩ := dec_yes hq hd
  constructor
  · intro he
    rw [h3] at he
    simp only at he
    rw [he] at h5
    have h7 : encL l = (encL l).set k (bits .xor .u8 (encL l)[k] y) := by
      have := congrArg Prod.fst h5
      simpa [encM, h] using this
    have h8 := congrArg (fun m => m[k]?) h7
    simp only [List.getElem?_set_self hk, List.getElem?_eq_getElem hk, Option.some.injEq] at h8
    exact hx.2.1 h8.symm
  · intro h0
    rw [hx.2.2 h0, List.set_getElem_self, back_one hl h]
end Go.Proofs.Ytgbmeckhagklnaa
