/- The memory: Load, Store, Make. No statement is proved here. -/
import Derived.Test.YtncogaikiceidaaN1
namespace Go.Proofs.Ytncogaikiceidaa
set_option maxRecDepth 100000
open Go.RowKit
set_option linter.unusedSimpArgs false
set_option linter.unusedVariables false
set_option linter.unnecessarySimpa false
section
def Fits (size : Int) : Prop := size = 1 ∨ size = 2 ∨ size = 4 ∨ size = 8
theorem rfits8 (size : Int) (w : World) : Calls Try.prog 72 #[.int .i64 size] w fun e w' => e = .returned (.bool (fitsM size)) ∧ w' = w := by
  by_cases h1 : size = 1
  · subst h1
    go_enter Try.func72, Try.ntmps72
    go_wp2_with fail
    go_ret
    exact ⟨rfl, rfl⟩
  by_cases h2 : size = 2
  · subst h2
    go_enter Try.func72, Try.ntmps72
    go_wp2_with fail
    go_ret
    exact ⟨rfl, rfl⟩
  by_cases h4 : size = 4
  · subst h4
    go_enter Try.func72, Try.ntmps72
    go_wp2_with fail
    go_ret
    exact ⟨rfl, rfl⟩
  by_cases h8 : size = 8
  · subst h8
    go_enter Try.func72, Try.ntmps72
    go_wp2_with fail
    go_ret
    exact ⟨rfl, rfl⟩
  have hf := Lib.hid (show fitsM size = false from by simp [fitsM, h1, h2, h4, h8])
  have b1 : (size == 1) = false := by simpa using h1
  have b2 : (size == 2) = false := by simpa using h2
  have b4 : (size == 4) = false := by simpa using h4
  have b8 : (size == 8) = false := by simpa using h8
  go_enter Try.func72, Try.ntmps72
  go_wp2_with fail
  go_ret
  rw [hf.out]
  exact ⟨rfl, rfl⟩
theorem read_bytes {mem : List AreaM} (h : ∀ a ∈ mem, a.Ok) {a size : Int} (ha : 0 ≤ a) (hs0 : 0 ≤ size) (hs1 : size ≤ 1024) : (∀ b ∈ (readM mem a size).1, 0 ≤ b ∧ b ≤ 255) ∧ ((readM mem a size).2 = 0 → (readM mem a size).1.length = size.toNat) := by
  cases hw : whereM mem a size with
  | none => rw [readM_none hw hs0 hs1]; simp
  | some ko =>
    obtain ⟨k, o⟩ := ko
    obtain ⟨hk, ho⟩ := whereM_in hw ha hs0
    have hat : areaAt mem k = mem[k] := by simp [areaAt, List.getD_eq_getElem?_getD, hk]
    rw [readM_some hw hs0 hs1, hat]
    rw [hat] at ho
    split
    · simp
    · refine ⟨fun b hb => (h _ (List.getElem_mem hk)).byte b ?_, fun _ => by simp; omega⟩
      exact List.mem_of_mem_drop (List.mem_of_mem_take hb)
theorem leM_bound : ∀ {bs : List Int}, (∀ b ∈ bs, 0 ≤ b ∧ b ≤ 255) → 0 ≤ leM bs ∧ leM bs < 256 ^ bs.length
  | [], _ => by simp [leM]
  | b :: l, h => by
    obtain ⟨h1, h2⟩ := leM_bound (bs := l) (fun x hx => h x (List.mem_cons_of_mem _ hx))
    have hb := h b (List.mem_cons_self ..)
    rw [leM, List.length_cons, Int.pow_succ]
    omega
set_option maxHeartbeats 1000000 in
theorem rload8 {own : Own} {w : World} {pm : Nat} {v : Value} {sl : Nat → Value × Value} {mem : List AreaM} (h : MemIn own w pm v sl mem) (hn : mem.length ≤ 1000000) (a size : Int) (ha : U64 a) (hf : Fits size) :
    Calls Try.prog 79 #[.pointer (some ⟨pm, 0, none⟩), .int .u64 a, .int .i64 size] w fun e w' => e = .returned (.tuple #[.int .u64 (loadM mem a size).1, .int .i64 (loadM mem a size).2]) ∧ Below w.heap.size w w' := by
  have hs0 : 0 ≤ size := by unfold Fits at hf; omega
  have hs8 : size ≤ 8 := by unfold Fits at hf; omega
  have hfm : fitsM size = true := by rcases hf with rfl | rfl | rfl | rfl <;> rfl
  have hft := rfits8 size
  rw [hfm] at hft
  have hrd := fun w' (hb : Below w.heap.size w w') => rread8 (h.below hb) hn a size ha hs0 (by omega)
  have hbs := read_bytes h.ok ha.1 hs0 (show size ≤ 1024 by omega)
  have hL := Lib.hid (show loadM mem a size = if (readM mem a size).2 ≠ 0 then (0, (readM mem a size).2) else (leM (readM mem a size).1, 0) from by unfold loadM; rw [if_neg (by rw [hfm]; simp)])
  generalize readM mem a size = rd at *
  obtain ⟨bs, er⟩ := rd
  simp only at hbs hrd
  have hrf := Below.refl w.heap.size w
  clear h hfm
  go_enter Try.func79, Try.ntmps79
  go_wp2_with fail
  refine (hft _).mono ?_
  rintro e w1 ⟨rfl, rfl⟩
  go_wp2_with fail
  refine (hrd _ hrf).mono ?_
  rintro e w2 ⟨r, rfl, ⟨A, c, rfl, hown⟩, hb⟩
  clear hrd
  by_cases he : er = 0
  · subst he
    have hL2 := Lib.hid (show loadM mem a size = (leM bs, 0) from by rw [hL.out, if_neg (by simp)])
    have hb8 : bs.length ≤ 8 := by have := hbs.2 rfl; omega
    have hbb := hbs.1
    have hb8i : (bs.length : Int) ≤ 8 := by omega
    have hlen := Lib.hid (hbs.2 rfl)
    clear hL hbs
    go_wp2_with fail
    go_loopw [10, 11] (fun n q wr => ∃ j : Nat, j ≤ bs.length ∧ n = .int .u64 (leM (bs.drop j)) ∧ q = .int .i64 ((j : Int) - 1) ∧ wr = w2) (fun _ q _ => (intOf q + 1).toNat)
    case atStart => exact ⟨bs.length, by omega, by simp [leM], rfl, rfl⟩
    case round =>
      obtain ⟨j, hj, rfl, rfl, rfl⟩ := hrel
      cases j with
      | zero =>
        go_wp2_with fail
        go_ret2
        rw [hL2.out]
        exact ⟨rfl, hb⟩
      | succ j =>
        have hbd := leM_bound (bs := bs.drop (j + 1)) (fun b hb => hbb b (List.mem_of_mem_drop hb))
        have hpw : (256 : Int) ^ (bs.drop (j + 1)).length ≤ 256 ^ 7 := by
          have : (bs.drop (j + 1)).length ≤ 7 := by simp; omega
          exact_mod_cast Nat.pow_le_pow_right (by decide) this
        have hx : bs.drop j = bs[j] :: bs.drop (j + 1) := List.drop_eq_getElem_cons (by omega)
        have hlx : leM (bs.drop j) = leM (bs.drop (j + 1)) * 256 + bs[j] := by rw [hx, leM]
        have HX := Lib.hid hlx
        have hbj := hbb bs[j] (List.getElem_mem (by omega))
        have hcell : ∃ g, A = some ⟨g, 0, none⟩ ∧ wr.cell? ⟨g, j, none⟩ = some (.int .u8 bs[j]) := by
          rcases hown.2 with ⟨-, h0⟩ | ⟨g, cap, cur, hv, -, hg, -⟩
          · omega
          · simp only [Value.slice.injEq] at hv
            obtain ⟨rfl, -, rfl⟩ := hv
            have := hown.cells (g := g) rfl j (.int .u8 bs[j]) (by simp [bytesV, show j < bs.length by omega])
            exact ⟨g, rfl, by rwa [addr_add, Nat.zero_add] at this⟩
        obtain ⟨g, rfl, hcell⟩ := hcell
        clear hx hlx hown
        generalize leM (bs.drop (j + 1)) = n at *
        generalize bs[j] = b at *
        have hn56 : n < 72057594037927936 := Int.lt_of_lt_of_le hbd.2 (Int.le_trans hpw (by decide))
        have hn0 := hbd.1
        clear hbd hpw
        go_wp2_with fail
        go_roundw
        case rel => exact ⟨j, by omega, by rw [HX.out], rfl, True.intro⟩
        all_goals (clear hlen hL2 hft hb; simp only [intOf]; omega)
  · have hL2 := Lib.hid (show loadM mem a size = (0, er) from by rw [hL.out, if_pos he])
    clear hL hbs
    go_wp2_with fail
    go_ret2
    rw [hL2.out]
    exact ⟨rfl, hb⟩
end
section
theorem areasV_set (sl : Nat → Value × Value) : ∀ (l : List AreaM) (i k : Nat) (a : AreaM) (hk : k < l.length), a.id = l[k].id → a.fixed = l[k].fixed → areasV sl (l.set k a) i = areasV sl l i
  | x :: l, i, 0, a, _, h1, h2 => by simp only [List.getElem_cons_zero] at h1 h2; simp [areasV, areaCells, h1, h2]
  | x :: l, i, k + 1, a, hk, h1, h2 => by
    simp only [List.getElem_cons_succ] at h1 h2
    rw [List.set_cons_succ, areasV, areasV, areasV_set sl l (i + 1) k a (by simpa using hk) h1 h2]
/-- The blocks of an area's bytes. -/
def Own.ofArea (own : Own) (k : Nat) : Nat → Prop := fun b => own b = some (.areaB k) ∨ own b = some (.areaK k)
theorem MemIn.put {own : Own} {w w' : World} {pm : Nat} {v : Value} {sl : Nat → Value × Value} {mem : List AreaM} (h : MemIn own w pm v sl mem) {k : Nat} (hk : k < mem.length) (hkp : Kept (own.ofArea k) w w')
    (bs : List Int) (bk : List Bool) (hl : bs.length = mem[k].bytes.length) (hl2 : bk.length = mem[k].bytes.length) (hby : ∀ b ∈ bs, 0 ≤ b ∧ b ≤ 255)
    (hb : RowIn own (.areaB k) w' 5 1 (sl k).1 mem[k].bytes.length (bytesV bs)) (hbk : RowIn own (.areaK k) w' 4 1 (sl k).2 mem[k].bytes.length (bk.map Value.bool)) :
    MemIn own w' pm v sl (mem.set k ⟨mem[k].id, bs, bk, mem[k].fixed⟩) where
  role := h.role
  blk := h.blk.kept hkp (by rintro (e | e) <;> rw [h.role] at e <;> cases e)
  row := by
    rw [areasV_set sl mem 0 k ⟨mem[k].id, bs, bk, mem[k].fixed⟩ hk rfl rfl, List.length_set]
    exact h.row.kept hkp (fun _ _ => rfl) (fun b hb => by rintro (e | e) <;> rw [hb] at e <;> cases e)
  ok := by
    intro a ha
    rcases List.mem_or_eq_of_mem_set ha with h1 | rfl
    · exact h.ok a h1
    · exact ⟨by simp [hl, hl2], by simp only; rw [hl]; exact (h.ok _ (List.getElem_mem hk)).few, hby⟩
  area := by
    intro i hi
    rw [List.length_set] at hi
    by_cases e : i = k
    · subst e
      simp only [List.getElem_set_self]
      exact ⟨by simpa only [hl] using hb, by simpa only [hl] using hbk⟩
    · rw [List.getElem_set_ne (Ne.symm e)]
      have ha := h.area i hi
      exact ⟨ha.b.kept hkp (fun _ _ => rfl) (fun b hb => by rintro (e2 | e2) <;> rw [hb] at e2 <;> simp at e2; omega), ha.k.kept hkp (fun _ _ => rfl) (fun b hb => by rintro (e2 | e2) <;> rw [hb] at e2 <;> simp at e2; omega)⟩
theorem splice_len {α : Type} (l : List α) (o : Nat) (vs : List α) (h : o + vs.length ≤ l.length) : (spliceM l o vs).length = l.length := by
  simp [spliceM]; omega
theorem splice_nil {α : Type} (l : List α) (o : Nat) : spliceM l o [] = l := by simp [spliceM]
theorem splice_snoc {α : Type} (l : List α) (o : Nat) (vs : List α) (v : α) (h : o + vs.length < l.length) : spliceM l o (vs ++ [v]) = (spliceM l o vs).set (o + vs.length) v := by
  unfold spliceM
  rw [List.set_append_right _ _ (by simp; omega)]
  have e : l.drop (o + vs.length) = l[o + vs.length] :: l.drop (o + vs.length + 1) := List.drop_eq_getElem_cons h
  have e2 : o + vs.length - (l.take o ++ vs).length = 0 := by simp; omega
  rw [e2, e, List.set_cons_zero, List.length_append, List.length_singleton, ← Nat.add_assoc]
  simp
theorem leBytes_len : ∀ (k : Nat) (n : Int), (leBytes k n).length = k
  | 0, _ => rfl
  | k + 1, n => by rw [leBytes, List.length_cons, leBytes_len k]
theorem leBytes_snoc : ∀ (k : Nat) (n : Int), leBytes (k + 1) n = leBytes k n ++ [n / 256 ^ k % 256]
  | 0, n => by simp [leBytes]
  | k + 1, n => by
    rw [leBytes, leBytes_snoc k, leBytes, List.cons_append]
    congr 3
    rw [Int.pow_succ, Int.mul_comm]
    rw [Int.ediv_ediv_of_nonneg (by decide)]
theorem leBytes_byte : ∀ (k : Nat) (n : Int), ∀ b ∈ leBytes k n, 0 ≤ b ∧ b ≤ 255
  | 0, _, _, h => by simp [leBytes] at h
  | k + 1, n, b, h => by
    rw [leBytes] at h
    rcases List.mem_cons.1 h with rfl | h
    · omega
    · exact leBytes_byte k _ b h
theorem own_set_off {w : World} {base e size g n cap : Nat} {xs : List Value} (h : w.ownsRow base e size (.slice (some ⟨g, 0, none⟩) n cap) n xs) {p : Addr} (hp : p.block ≠ g) (v : Value) : (w.setCell p v).ownsRow base e size (.slice (some ⟨g, 0, none⟩) n cap) n xs := by
  refine ⟨h.1, ?_⟩
  rcases h.2 with ⟨hv, _⟩ | ⟨g', cap', cur, hv, hb', hh, r⟩
  · cases hv
  · refine .inr ⟨g', cap', cur, hv, hb', ?_, r⟩
    simp only [Value.slice.injEq, Option.some.injEq, Addr.mk.injEq, and_true, true_and] at hv
    obtain ⟨rfl, -⟩ := hv
    rw [heap_setCell_other w p g v (fun e => hp e.symm), hh]
theorem div_step {n : Int} (hn : 0 ≤ n) (hn1 : n ≤ 18446744073709551615) (j : Nat) : IntKind.u64.wrap ((n / 256 ^ j).tdiv 256) = n / 256 ^ (j + 1) := by
  have q0 : 0 ≤ n / 256 ^ j := Int.ediv_nonneg hn (Int.le_of_lt (Int.pow_pos (by decide)))
  have q1 : n / 256 ^ j ≤ n := Int.ediv_le_self _ hn
  rw [Int.tdiv_eq_ediv_of_nonneg q0, Int.pow_succ, ← Int.ediv_ediv_of_nonneg (Int.le_of_lt (Int.pow_pos (by decide)))]
  generalize n / 256 ^ j = m at *
  rw [IntKind.wrap_u64]
  omega
set_option maxHeartbeats 1000000 in
theorem rstore8 {own : Own} {w : World} {pm : Nat} {v : Value} {sl : Nat → Value × Value} {mem : List AreaM} (h : MemIn own w pm v sl mem) (hn : mem.length ≤ 1000000) (a size n : Int) (ha : U64 a) (hf : Fits size) (hnn : U64 n) :
    Calls Try.prog 53 #[.pointer (some ⟨pm, 0, none⟩), .int .u64 a, .int .i64 size, .int .u64 n] w fun e w' => e = .returned (.int .i64 (storeM mem a size n).2) ∧ MemIn own w' pm v sl (storeM mem a size n).1 ∧ Kept (fun b => ∃ k, own.ofArea k b) w w' := by
  have hs0 : 0 ≤ size := by unfold Fits at hf; omega
  have hs1 : 1 ≤ size := by unfold Fits at hf; omega
  have hs8 : size ≤ 8 := by unfold Fits at hf; omega
  have hfm : fitsM size = true := by rcases hf with rfl | rfl | rfl | rfl <;> rfl
  have hft := rfits8 size
  rw [hfm] at hft
  have hwh := fun w' (hb : Below w.heap.size w w') => rwhere8 (h.below hb) hn a size ha hs0 (by omega)
  have hrf := Below.refl w.heap.size w
  have hk0 : Kept (fun b => ∃ k, own.ofArea k b) w w := Kept.refl
  cases hw : whereM mem a size with
  | none =>
    rw [hw] at hwh
    have hS := Lib.hid (show storeM mem a size n = (mem, 80) from by unfold storeM; rw [if_neg (by rw [hfm]; simp), hw])
    clear hw
    simp only [pairW] at hwh
    have hh := h
    have hM := fun w' (hb : Below w.heap.size w w') => hh.below hb
    clear h hh hfm
    go_enter Try.func53, Try.ntmps53
    go_wp2_with fail
    refine (hft _).mono ?_
    rintro e w1 ⟨rfl, rfl⟩
    go_wp2_with fail
    refine (hwh _ hrf).mono ?_
    rintro e w2 ⟨rfl, hb⟩
    go_wp2_with fail
    go_ret
    rw [hS.out]
    exact ⟨rfl, hM _ hb, Kept.of hb (Nat.le_refl _)⟩
  | some ko =>
    obtain ⟨k, o⟩ := ko
    obtain ⟨hkm, hos⟩ := whereM_in hw ha.1 hs0
    have hat : areaAt mem k = mem[k] := by simp [areaAt, List.getD_eq_getElem?_getD, hkm]
    rw [hw] at hwh
    rw [hat] at hos
    have hSd := Lib.hid (show storeM mem a size n = if mem[k].fixed = true then (mem, 82) else (mem.set k (putArea mem[k] o (leBytes size.toNat n)), 0) from by unfold storeM; rw [if_neg (by rw [hfm]; simp), hw]; simp only [hat])
    clear hw hat hfm
    simp only [pairW] at hwh
    have H := h
    obtain ⟨g, c, hv, c0, c1, c2, c3, hg⟩ := h.at_ hkm
    have hrg : own g = some .areas := h.row.role g (by rw [hv]; rfl)
    obtain ⟨Ab, cb, hsl1⟩ := (h.area k hkm).b.slice
    obtain ⟨Ak, ck, hsl2⟩ := (h.area k hkm).k.slice
    have hki : (k : Int) < (mem.length : Int) := by omega
    cases hfx : mem[k].fixed with
    | true =>
      have hS := Lib.hid (show storeM mem a size n = (mem, 82) from by rw [hSd.out, if_pos hfx])
      rw [hfx] at c3
      have hM := fun w' (hb : Below w.heap.size w w') => H.below hb
      have hcl : ∀ w', Below w.heap.size w w' → w'.cell? ⟨pm, 0, none⟩ = some (.slice (some ⟨g, 0, none⟩) mem.length c) := fun w' hb => by rw [← hv]; exact (h.below hb).blk.cell rfl
      have hc3 : ∀ w', Below w.heap.size w w' → w'.cell? ⟨g, k * 4 + 3, none⟩ = some (.bool true) := fun w' hb => (hb.cell (p := ⟨g, k * 4 + 3, none⟩) hg).trans c3
      clear hSd hfx hsl1 hsl2 c0 c1 c2 c3 hv h H
      go_enter Try.func53, Try.ntmps53
      go_wp2_with fail
      refine (hft _).mono ?_
      rintro e w1 ⟨rfl, rfl⟩
      go_wp2_with fail
      refine (hwh _ hrf).mono ?_
      rintro e w2 ⟨rfl, hb⟩
      have hC0 := hcl _ hb
      have hC3 := hc3 _ hb
      go_wp2_with fail
      go_ret
      rw [hS.out]
      exact ⟨rfl, hM _ hb, Kept.of hb (Nat.le_refl _)⟩
    | false =>
      have hS := Lib.hid (show storeM mem a size n = (mem.set k ⟨mem[k].id, spliceM mem[k].bytes o (leBytes size.toNat n), spliceM mem[k].blank o (List.replicate size.toNat false), mem[k].fixed⟩, 0) from by rw [hSd.out, if_neg (by rw [hfx]; simp)]; simp [putArea, leBytes_len])
      rw [hfx] at c3
      rw [hsl1] at c1
      rw [hsl2] at c2
      have hok := h.ok mem[k] (List.getElem_mem hkm)
      have hle := hok.few
      have hlk := hok.same
      have hB0 := (h.area k hkm).b
      have hK0 := (h.area k hkm).k
      obtain ⟨gb, cb', e1, lb, rb, -⟩ := hB0.get (by omega)
      obtain ⟨gk, ck', e2, lk, rk, -⟩ := hK0.get (by omega)
      rw [hsl1] at e1
      rw [hsl2] at e2
      simp only [Value.slice.injEq] at e1 e2
      obtain ⟨rfl, -, rfl⟩ := e1
      obtain ⟨rfl, -, rfl⟩ := e2
      have n1 : gb ≠ pm := by rintro rfl; rw [h.role] at rb; cases rb
      have n2 : gk ≠ pm := by rintro rfl; rw [h.role] at rk; cases rk
      have n3 : gb ≠ g := by rintro rfl; rw [hrg] at rb; cases rb
      have n4 : gk ≠ g := by rintro rfl; rw [hrg] at rk; cases rk
      have n5 : gb ≠ gk := by rintro rfl; rw [rk] at rb; cases rb
      have hP := fun w' (hkp : Kept (own.ofArea k) w w') => MemIn.put H hkm hkp
      have xpm : ¬ own.ofArea k pm := by rintro (e | e) <;> rw [h.role] at e <;> cases e
      have xg : ¬ own.ofArea k g := by rintro (e | e) <;> rw [hrg] at e <;> cases e
      have xb : own.ofArea k gb := .inl rb
      have xk : own.ofArea k gk := .inr rk
      have hcl : ∀ w', Kept (own.ofArea k) w w' → w'.cell? ⟨pm, 0, none⟩ = some (.slice (some ⟨g, 0, none⟩) mem.length c) := fun w' hb => by rw [← hv]; exact (h.blk.kept hb xpm).cell rfl
      have hc1 : ∀ w', Kept (own.ofArea k) w w' → w'.cell? ⟨g, k * 4 + 1, none⟩ = some (.slice (some ⟨gb, 0, none⟩) mem[k].bytes.length cb) := fun w' hb => (hb.cell hg xg).trans c1
      have hc2 : ∀ w', Kept (own.ofArea k) w w' → w'.cell? ⟨g, k * 4 + 2, none⟩ = some (.slice (some ⟨gk, 0, none⟩) mem[k].bytes.length ck) := fun w' hb => (hb.cell hg xg).trans c2
      have hc3 : ∀ w', Kept (own.ofArea k) w w' → w'.cell? ⟨g, k * 4 + 3, none⟩ = some (.bool false) := fun w' hb => (hb.cell hg xg).trans c3
      have hB1 : ∀ w', Below w.heap.size w w' → w'.ownsRow 0 5 1 (.slice (some ⟨gb, 0, none⟩) mem[k].bytes.length cb) mem[k].bytes.length (bytesV mem[k].bytes) := fun w' hb => by rw [← hsl1]; exact (hB0.below hb).row
      have hK1 : ∀ w', Below w.heap.size w w' → w'.ownsRow 0 4 1 (.slice (some ⟨gk, 0, none⟩) mem[k].bytes.length ck) mem[k].bytes.length (mem[k].blank.map Value.bool) := fun w' hb => by rw [← hsl2]; exact (hK0.below hb).row
      have hbyte := hok.byte
      clear hSd hfx c0 c1 c2 c3 hv h H hok hB0 hK0
      rw [hsl1, hsl2] at hP
      clear hsl1 hsl2
      generalize mem[k].bytes = bs at *
      generalize mem[k].blank = bk at *
      have hlei : (bs.length : Int) ≤ 1024 := by omega
      have ho0 : (0 : Int) ≤ (o : Int) := by omega
      go_enter Try.func53, Try.ntmps53
      go_wp2_with fail
      refine (hft _).mono ?_
      rintro e w1 ⟨rfl, rfl⟩
      go_wp2_with fail
      refine (hwh _ hrf).mono ?_
      rintro e w2 ⟨rfl, hb⟩
      have hkb : Kept (own.ofArea k) w1 w2 := Kept.of hb (Nat.le_refl _)
      have hC0 := hcl _ hkb
      have hC3 := hc3 _ hkb
      have hB2 := hB1 _ hb
      have hK2 := hK1 _ hb
      clear hB1 hK1 hwh hft
      go_wp2_with fail
      go_loopw [3, 11] (fun q i wr => ∃ j : Nat, (j : Int) ≤ size ∧ q = .int .u64 (n / 256 ^ j) ∧ i = .int .i64 j ∧ Kept (own.ofArea k) w1 wr ∧ wr.ownsRow 0 5 1 (.slice (some ⟨gb, 0, none⟩) bs.length cb) bs.length (bytesV (spliceM bs o (leBytes j n))) ∧ wr.ownsRow 0 4 1 (.slice (some ⟨gk, 0, none⟩) bs.length ck) bs.length ((spliceM bk o (List.replicate j false)).map Value.bool)) (fun _ i _ => size.toNat - (intOf i).toNat)
      case atStart => exact ⟨0, by omega, by simp, rfl, hkb, by rw [leBytes, splice_nil]; exact hB2, by rw [List.replicate_zero, splice_nil]; exact hK2⟩
      case round =>
        obtain ⟨j, hj, rfl, rfl, hkr, hBr, hKr⟩ := hrel
        rcases Int.lt_or_le (j : Int) size with hlt | hge
        · have D0 := hcl _ hkr
          have D1 := hc1 _ hkr
          have D2 := hc2 _ hkr
          have lB : (spliceM bs o (leBytes j n)).length = bs.length := splice_len _ _ _ (by rw [leBytes_len]; omega)
          have lK : (spliceM bk o (List.replicate j false)).length = bk.length := splice_len _ _ _ (by simp; omega)
          have E1 := hBr.cells (g := gb) rfl (o + j) _ (by rw [bytesV, List.getElem?_map, List.getElem?_eq_getElem (by omega)]; rfl)
          have E2 := hKr.cells (g := gk) rfl (o + j) _ (by rw [List.getElem?_map, List.getElem?_eq_getElem (by omega)]; rfl)
          rw [addr_add, Nat.zero_add] at E1 E2
          have F1 := hBr.frozenAt (o + j)
          have F2 := hKr.frozenAt (o + j)
          have q0 : 0 ≤ n / 256 ^ j := Int.ediv_nonneg hnn.1 (Int.le_of_lt (Int.pow_pos (by decide)))
          have S1 := (hBr.stored (o + j) (.int .u8 (n / 256 ^ j % 256))).1
          have S2 := (hKr.stored (o + j) (.bool false)).1
          generalize (spliceM bs o (leBytes j n))[o + j] = u1 at *
          clear hcl hc1 hc2 hc3 hP hS
          go_wp2_with fail
          refine ⟨⟨j + 1, by omega, by rw [div_step hnn.1 hnn.2], rfl, (hkr.set xb).set xk, ?_, ?_⟩, by simp only [intOf]; omega⟩
          · rw [leBytes_snoc, splice_snoc _ _ _ _ (by rw [leBytes_len]; omega), leBytes_len, bytesV, List.map_set]
            exact own_set_off S1 (p := ⟨gk, o + j, none⟩) n5.symm _
          · rw [List.replicate_succ', splice_snoc _ _ _ _ (by simp; omega), List.length_replicate, List.map_set]
            exact ((own_set_off hKr (p := ⟨gb, o + j, none⟩) n5 _).stored (o + j) (.bool false)).1
        · have ej : j = size.toNat := by omega
          subst ej
          have hfin := hP _ hkr _ _ (splice_len bs o (leBytes size.toNat n) (by rw [leBytes_len]; omega)) ((splice_len bk o (List.replicate size.toNat false) (by simp; omega)).trans hlk)
            (by
              intro b hb
              unfold spliceM at hb
              rcases List.mem_append.1 hb with hb | hb
              · rcases List.mem_append.1 hb with hb | hb
                · exact hbyte b (List.mem_of_mem_take hb)
                · exact leBytes_byte _ _ b hb
              · exact hbyte b (List.mem_of_mem_drop hb))
            ⟨hBr, fun b e => by cases e; exact rb⟩ ⟨hKr, fun b e => by cases e; exact rk⟩
          have hK : Kept (fun b => ∃ k, own.ofArea k b) w1 wr := Kept.trans (X := fun b => ∃ k, own.ofArea k b) Kept.refl hkr (fun i _ h => ⟨k, h⟩)
          clear hP hcl hc1 hc2 hc3 hBr hKr hB2 hK2
          have hj2 : ¬ ((size.toNat : Nat) : Int) < size := by omega
          go_wp2_with fail
          go_ret
          rw [hS.out]
          exact ⟨rfl, hfin, hK⟩
end
section
/-- The reference's memory: the areas' row. -/
structure MemX (w : World) (pm : Nat) (v : Value) (n : Nat) (xs : List Value) : Prop where
  cell : w.cell? ⟨pm, 0, none⟩ = some v
  free : ∀ k, w.frozen? ⟨pm, k, none⟩ = false
  own : w.ownsRow 0 94 4 v n xs
  apart : v.ownBlock ≠ some pm
theorem rfindX (pm : Nat) (v : Value) (n : Nat) (xs : List Value) (ids : List Int) (hl : ids.length = n) (hn : n ≤ 1000000) (hids : ∀ i, (h : i < ids.length) → xs[i * 4]? = some (.int .i64 ids[i])) (a : Int) (w : World) (hm : MemX w pm v n xs) :
    Calls Try.prog 33 #[.pointer (some ⟨pm, 0, none⟩), .int .i64 a] w fun e w' => e = .returned (.int .i64 (idxM ids a 0)) ∧ Below w.heap.size w w' := by
  obtain ⟨A, c, rfl⟩ := own_slice hm.own
  have hlt := World.block_lt_of_cell? w _ hm.cell
  have hcl : ∀ w', Below w.heap.size w w' → w'.cell? ⟨pm, 0, none⟩ = some (.slice A n c) := fun w' h => (h.cell (p := ⟨pm, 0, none⟩) hlt).trans hm.cell
  have hrow : ∀ i, (h : i < ids.length) → ∃ b o, A = some ⟨b, o, none⟩ ∧ ∀ w', Below w.heap.size w w' → w'.cell? ⟨b, o + i * 4, none⟩ = some (.int .i64 ids[i]) := by
    intro i hi
    obtain ⟨-, h⟩ := hm.own
    rcases h with ⟨h1, h2⟩ | ⟨g, cap, cur, hv, -, hg, hnc, -, hcs, htk⟩
    · omega
    · simp only [Value.slice.injEq] at hv
      obtain ⟨rfl, -, rfl⟩ := hv
      refine ⟨g, 0, rfl, fun w' hb => ?_⟩
      have h := hm.own.cells (g := g) rfl (i * 4) _ (hids i hi)
      rw [addr_add, Nat.zero_add] at h
      rw [Nat.zero_add, hb.cell (p := ⟨g, i * 4, none⟩) (World.block_lt_of_cell? w _ h)]
      exact h
  have hrf := Below.refl w.heap.size w
  go_enter Try.func33, Try.ntmps33
  go_wp2_with fail
  go_loopw [5] (fun k wr => ∃ j : Nat, j ≤ n ∧ k = .int .i64 j ∧ idxM ids a 0 = idxM (ids.drop j) a j ∧ Below w.heap.size w wr) (fun k _ => n - (intOf k).toNat)
  case atStart => exact ⟨0, by omega, rfl, rfl, hrf⟩
  case round =>
    obtain ⟨j, hj, rfl, he, hb⟩ := hrel
    have hc0 := hcl _ hb
    rcases Nat.lt_or_ge j n with hlt | hge
    · obtain ⟨b, o, rfl, hc⟩ := hrow j (by omega)
      have hc1 := hc _ hb
      rw [List.drop_eq_getElem_cons (by omega), idxM] at he
      have HE := Lib.hid he
      clear he hids hrow
      by_cases hx : ids[j] = a
      · go_wp2_with fail
        go_ret
        exact ⟨by rw [HE.out, if_pos hx]; rfl, hb⟩
      · go_wp2_with fail
        go_roundw
        case rel => exact ⟨j + 1, by omega, by go_num, by rw [HE.out, if_neg hx], hb⟩
        case measure => simp [intOf]; omega
    · have he2 : idxM ids a 0 = -1 := by rw [he, List.drop_eq_nil_of_le (by omega)]; rfl
      clear he
      have HE := Lib.hid he2
      clear he2
      go_wp2_with fail
      go_ret
      exact ⟨by rw [HE.out]; rfl, hb⟩

theorem idx_none {ids : List Int} {a : Int} (h : a ∉ ids) : ∀ j, idxM ids a j = -1 := by
  induction ids with
  | nil => intro j; rfl
  | cons x l ih =>
    intro j
    simp only [List.mem_cons, not_or] at h
    rw [idxM, if_neg (fun e => h.1 e.symm), ih h.2]


theorem info4b : (Try.prog.info? 4).map (fun i => (i.zero, i.size, i.bytes)) = some (some (.bool false), 1, 1) := by kernel_rfl
theorem info94 : (Try.prog.info? 94).map (fun i => (i.zero, i.size, i.bytes)) = some (some (.agg #[.int .i64 0, .slice none 0 0, .slice none 0 0, .bool false]), 4, 64) := by kernel_rfl
theorem MemX.below {w w' : World} {pm : Nat} {v : Value} {n : Nat} {xs : List Value} (h : MemX w pm v n xs) (hb : Below w.heap.size w w') : MemX w' pm v n xs :=
  ⟨(hb.cell (p := ⟨pm, 0, none⟩) (World.block_lt_of_cell? w _ h.cell)).trans h.cell, fun k => (hb.frozen (p := ⟨pm, k, none⟩) (show pm < w.heap.size from World.block_lt_of_cell? w ⟨pm, 0, none⟩ h.cell)).trans (h.free k), own_kept h.own (Kept.of (X := fun _ => False) hb (Nat.le_refl _)) (fun _ _ => id), h.apart⟩
set_option maxHeartbeats 2000000 in
theorem rmakeX (pm : Nat) (v : Value) (n : Nat) (xs : List Value) (ids : List Int) (hl : ids.length = n) (hn : n ≤ 1000000) (hids : ∀ i, (h : i < ids.length) → xs[i * 4]? = some (.int .i64 ids[i]))
    (a : Int) (ha : a ∉ ids) (ha1 : 1 ≤ a) (ha2 : a < 2147483648) (A : Option Addr) (m c : Nat) (hmm : m ≤ 1024) (bs : List Value) (hbo : ∀ u ∈ bs, u.oneCell' = true) (blank fixed : Bool) (w : World) (hm : MemX w pm v n xs) (B : Nat) (hB : B ≤ w.heap.size) (hat : SAt w B 1 A m bs) :
    Calls Try.prog 14 #[.pointer (some ⟨pm, 0, none⟩), .int .i64 a, .slice A m c, .bool blank, .bool fixed] w fun e w' => e = .returned (.int .i64 0) ∧ ∃ v' Ab cb Ak ck, MemX w' pm v' (n + 1) (xs ++ [.int .i64 a, .slice Ab m cb, .slice Ak m ck, .bool fixed]) ∧
      w'.ownsRow w.heap.size 5 1 (.slice Ab m cb) m bs ∧ w'.ownsRow w.heap.size 4 1 (.slice Ak m ck) m (List.replicate m (.bool blank)) ∧ (v'.ownBlock = v.ownBlock ∨ ∃ g, v'.ownBlock = some g ∧ w.heap.size ≤ g) ∧ Kept (fun k => k = pm ∨ v.ownBlock = some k) w w' := by
  have hfi := fun w' (hb : Below w.heap.size w w') => rfindX pm v n xs ids hl hn hids a w' (hm.below hb)
  rw [idx_none ha] at hfi
  obtain ⟨i0, hi0, hz0, hz1, hz2⟩ := info_parts info5
  obtain ⟨i1, hi1, hy0, hy1, hy2⟩ := info_parts info4b
  obtain ⟨i2, hi2, hx0, hx1, hx2⟩ := info_parts info94
  have hrf := Below.refl w.heap.size w
  go_enter Try.func14, Try.ntmps14
  go_wp2_with fail
  refine (hfi _ hrf).mono ?_
  rintro e w1 ⟨rfl, hc1⟩
  have hb1 : Below w.heap.size w w1 := hc1
  clear hc1 hfi
  have hmi : (m : Int) ≤ 1024 := by omega
  go_upto_region 5 with fail
  have hown0 : (w1.alloc (.cells #[] 5)).ownsRow w.heap.size 5 1 (.slice (some ⟨w1.heap.size, 0, none⟩) 0 0) 0 [] := own_new w1 w1.heap.size #[] 5 1 0 0 w.heap.size rfl hb1.size (Nat.le_refl _) (by decide) rfl
  have hat1 : SAt (w1.alloc (.cells #[] 5)) B 1 A m bs := hat.below ((hb1.alloc hb1.size _).mono hB)
  go_wp2_with (at_builtin; refine wpList_append_sat rfl (.tmp 29) (.tmp 30) 23 rfl w.heap.size 5 i0 (.int .u8 0) 1 1 Try.underlying23 hi0 hz0 hz1 hz2 rfl (by decide) _ 0 0 _ rfl hown0 B A m c bs rfl hat1 hbo ?c2 ?c3 ?c4 ?c5)
  case c2 => simp only [maxLen]; omega
  case c3 => omega
  case c4 => simp; exact Nat.le_succ_of_le hb1.size
  case c5 =>
    intro Ab cb w2 hownb _ hb2 _
    replace hb2 : Below w.heap.size w w2 := (hb1.alloc hb1.size _).trans hb2
    clear hown0 hat1 hb1
    go_upto_region 6 with fail
    have hX : World.rangeAt (w2.alloc (.cells #[.int .i64 a, .slice Ab m cb, .slice none 0 0, .bool fixed] 94)) w2.heap.size 0 [.int .i64 a, .slice Ab m cb, .slice none 0 0, .bool fixed] := range_of_block (heap1_0 w2 _)
    have hXt := boxt (heap1_0 w2 (.cells #[.int .i64 a, .slice Ab m cb, .slice none 0 0, .bool fixed] 94))
    have hXs : w2.heap.size < (w2.alloc (.cells #[.int .i64 a, .slice Ab m cb, .slice none 0 0, .bool fixed] 94)).heap.size := by simp
    have hXb : Below w2.heap.size w2 (w2.alloc (.cells #[.int .i64 a, .slice Ab m cb, .slice none 0 0, .bool fixed] 94)) := below_boxes1 _ _
    generalize w2.alloc (.cells #[.int .i64 a, .slice Ab m cb, .slice none 0 0, .bool fixed] 94) = W at *
    go_wp2_with fail
    have HO := Lib.hid hownb
    have HX := Lib.hid (And.intro hX (And.intro hXt hXs))
    have HM := Lib.hid hm
    clear hownb hX hXt hm hat hrf
    have hXz := hb2.size
    generalize hXe : w2.heap.size = X at *
    have HE := Lib.hid hXe
    clear hXe
    go_loopw [12] (fun k wr => ∃ (j : Nat) (Ak : Option Addr) (ck : Nat), j ≤ m ∧ k = .int .i64 j ∧ wr.ownsRow (X + 1) 4 1 (.slice Ak j ck) j (List.replicate j (.bool blank)) ∧ wr.rangeAt X 0 [.int .i64 a, .slice Ab m cb, .slice Ak j ck, .bool fixed] ∧ (∀ k, wr.frozen? ⟨X, k, none⟩ = false) ∧ Below X w2 wr ∧ X < wr.heap.size) (fun k _ => m - (intOf k).toNat)
    case atStart => exact ⟨0, none, 0, by omega, rfl, World.ownsRow_nil _ _ _ _, HX.out.1, fun k => HX.out.2.1 k _ (Below.refl _ _), hXb, HX.out.2.2⟩
    case round =>
      clear hXs hXb
      obtain ⟨j, Ak, ck, hj, rfl, hown, hrg, hfr, hbr, hXr⟩ := hrel
      rcases Nat.lt_or_ge j m with hlt | hge
      · have c2 := hrg 2 _ rfl
        simp only [Nat.zero_add] at c2
        have hjm : (j : Int) < (m : Int) := by omega
        go_wp2_with (at_builtin; refine wpList_append_box rfl (.tmp 41) (.tmp 43) 49 rfl (X + 1) 4 i1 (.bool false) 1 1 Try.underlying49 hi1 hy0 hy1 hy2 rfl (by decide) Ak j ck 1 _ rfl rfl (by simp) hown rfl ?c1 ?c2 ?c3 ?c4 ?c5)
        case c1 => cases blank <;> rfl
        case c2 => simp only [maxLen]; omega
        case c3 => omega
        case c4 => omega
        case c5 =>
          intro A1 c1 w6 h2 h3 h4 h5
          have hlt6 : X < w6.heap.size := Nat.lt_of_lt_of_le hXr h4.size
          have f2 : w6.frozen? ⟨X, 2, none⟩ = false := (h4.frozen (p := ⟨X, 2, none⟩) (by show X < X + 1; omega)).trans (hfr 2)
          have g2 : w6.cell? ⟨X, 2, none⟩ = some (.slice Ak j ck) := (h4.cell (p := ⟨X, 2, none⟩) (by show X < X + 1; omega)).trans c2
          have hrg6 := range_put (W := w6) (b := X) (A := [.int .i64 a, .slice Ab m cb]) (B := [.slice Ak j ck]) (C := [.bool fixed]) (vs := [.slice A1 (j + 1) c1]) (range_below hrg h4 (by omega)) rfl
          have hfr6 : ∀ k, (w6.setCell ⟨X, 2, none⟩ (.slice A1 (j + 1) c1)).frozen? ⟨X, k, none⟩ = false := fun k => (World.frozen?_setCells X [.slice A1 (j + 1) c1] 2 _ _).trans ((h4.frozen (p := ⟨X, k, none⟩) (by show X < X + 1; omega)).trans (hfr k))
          have hb6 : Below X w2 (w6.setCell ⟨X, 2, none⟩ (.slice A1 (j + 1) c1)) := (hbr.trans (h4.mono (by omega))).setCell (Nat.le_refl _) _
          have ho6 : (w6.setCell ⟨X, 2, none⟩ (.slice A1 (j + 1) c1)).ownsRow (X + 1) 4 1 (.slice A1 (j + 1) c1) (j + 1) (List.replicate (j + 1) (.bool blank)) := by
            rw [List.replicate_succ']
            exact RowKit.ownsRow_setCell_below h2 (by show X < X + 1; omega) _
          have hs6 : X < (w6.setCell ⟨X, 2, none⟩ (.slice A1 (j + 1) c1)).heap.size := by simpa using hlt6
          have HS := Lib.hid (And.intro hrg6 (And.intro hfr6 (And.intro hb6 (And.intro ho6 hs6))))
          clear hrg6 hfr6 hb6 ho6 hs6 h2 h3 h4 h5 hown hrg hfr hbr
          go_wp2_with fail
          go_roundw
          case rel =>
            obtain ⟨a1, a2, a3, a4, a5⟩ := HS.out
            exact ⟨j + 1, A1, c1, by omega, by go_num, a4, a1, a2, a3, a5⟩
          case measure => simp [intOf]; omega
      · obtain rfl : j = m := by omega
        go_upto_region 10 with fail
        have hbw : Below w.heap.size w wr := hb2.trans (hbr.mono hXz)
        have hmw := HM.out.below hbw
        obtain ⟨A0, c0, hv0⟩ := own_slice hmw.own
        have hmc := hmw.cell
        have hmf := hmw.free 0
        have HMF := Lib.hid hmw.free
        have hmo := hmw.own
        have hma := hmw.apart
        rw [hv0] at hmc hmo hma
        have hpmlt : pm < wr.heap.size := World.block_lt_of_cell? wr _ hmc
        have hX0 := hrg 0 _ rfl
        have hX1 := hrg 1 _ rfl
        have hX2 := hrg 2 _ rfl
        have hX3 := hrg 3 _ rfl
        simp only [Nat.zero_add] at hX0 hX1 hX2 hX3
        have HK := Lib.hid (And.intro hown (And.intro hbr (And.intro hXr hbw)))
        have HV := Lib.hid hv0
        clear hown hbr hrg hfr hbw hmw hge hj hv0
        go_region_law (first | (refine step_append_x rfl (.tmp 50) (.tmp 52) 64 rfl 0 94 i2 _ 4 64 Try.underlying64 hi2 hx0 hx1 hx2 rfl (by decide) A0 n c0 xs rfl ?_ (wr.heap.size + 1) (some ⟨wr.heap.size, 0, none⟩) 1 1 [.int .i64 a, .slice Ab j cb, .slice Ak j ck, .bool fixed] rfl ?_ (by decide) ?_ ?_ ?_ (Nat.zero_le _) ?_; (exact hmo.alloc _); (exact sat_new wr 94 #[.int .i64 a, .slice Ab j cb, .slice Ak j ck, .bool fixed] 4 1 rfl); (intro u hu; simp at hu; rcases hu with rfl | rfl | rfl | rfl <;> first | rfl | (cases fixed <;> rfl)); (simp only [maxLen]; omega); (omega); (intro A5 c5 w5 ho5 hg5 hb5; have k5 := grown_kept (X := fun k => (Value.slice A0 n c0).ownBlock = some k) hg5 (fun _ h => h); have kk5 : Kept (fun k => (Value.slice A0 n c0).ownBlock = some k) wr w5 := (Kept.of (X := fun k => (Value.slice A0 n c0).ownBlock = some k) (below_boxes1 wr _).drew (Nat.le_refl _)).trans k5 (fun _ _ h => h); have p5 : w5.cell? ⟨pm, 0, none⟩ = some (.slice A0 n c0) := (kk5.cell hpmlt hma).trans hmc; have f5 : w5.frozen? ⟨pm, 0, none⟩ = false := (kk5.frozen hpmlt hma).trans hmf; have F5 := Lib.hid (show ∀ k, w5.frozen? ⟨pm, k, none⟩ = false from fun k => (kk5.frozen hpmlt hma).trans (HMF.out k)))))
        all_goals
          have hF : ∃ v' Ab_ cb_ Ak_ ck_, MemX (w5.setCell ⟨pm, 0, none⟩ (.slice A5 (n + 1) c5)) pm v' (n + 1) (xs ++ [.int .i64 a, .slice Ab_ j cb_, .slice Ak_ j ck_, .bool fixed]) ∧
              (w5.setCell ⟨pm, 0, none⟩ (.slice A5 (n + 1) c5)).ownsRow w.heap.size 5 1 (.slice Ab_ j cb_) j bs ∧ (w5.setCell ⟨pm, 0, none⟩ (.slice A5 (n + 1) c5)).ownsRow w.heap.size 4 1 (.slice Ak_ j ck_) j (List.replicate j (.bool blank)) ∧ (v'.ownBlock = v.ownBlock ∨ ∃ g, v'.ownBlock = some g ∧ w.heap.size ≤ g) ∧ Kept (fun k => k = pm ∨ v.ownBlock = some k) w (w5.setCell ⟨pm, 0, none⟩ (.slice A5 (n + 1) c5)) := by
            obtain ⟨hK1, hK2, hK3, hK4⟩ := HK.out
            have hvo := HV.out
            have hgo : ∀ k, (Value.slice A0 n c0).ownBlock = some k → k < w.heap.size := fun k hk => by
              have h := HM.out.own; rw [hvo] at h
              exact (h.lt k hk).2
            have hpmw : pm < w.heap.size := World.block_lt_of_cell? w _ HM.out.cell
            have hap : (Value.slice A5 (n + 1) c5).ownBlock ≠ some pm := by
              rcases hb5 with h | h
              · rw [h]; exact hma
              · rw [h]; intro e
                have : wr.heap.size + 1 = pm := by simpa using e
                omega
            have kw5 : Kept (fun k => k = pm ∨ v.ownBlock = some k) w w5 := (Kept.of hK4 (Nat.le_refl _)).trans kk5 (fun i _ h => .inr (by rw [hvo]; exact h))
            have kset : Kept (fun k => k = pm) w5 (w5.setCell ⟨pm, 0, none⟩ (.slice A5 (n + 1) c5)) := Kept.refl.set rfl
            have kw6 := kw5.trans kset (fun i _ h => .inl h)
            refine ⟨.slice A5 (n + 1) c5, Ab, cb, Ak, ck, ⟨?_, ?_, own_kept ho5 kset (fun k h e => hap (e ▸ h)), hap⟩, ?_, ?_, ?_, kw6⟩
            · exact World.cell?_setCell_same _ _ _ (by rw [p5])
            · intro k; rw [World.frozen?_setCell]; exact F5.out k
            · have hlt2 := HO.out.lt
              have kr : Kept (fun _ => False) w2 wr := Kept.of hK2 (Nat.le_of_eq HE.out)
              refine own_kept (own_kept (own_kept HO.out kr (fun _ _ => id)) kk5 (fun k hk h => ?_)) kset (fun k hk e => ?_)
              · have := hgo k h; have := (hlt2 k hk).1; omega
              · have := (hlt2 k hk).1; omega
            · refine own_mono (base := X + 1) (by omega) (own_kept (own_kept hK1 kk5 (fun k hk h => ?_)) kset (fun k hk e => ?_))
              · have := hgo k h; have := (hK1.lt k hk).1; omega
              · have := (hK1.lt k hk).1; omega
            · rcases hb5 with h | h
              · exact .inl (by rw [h, hvo])
              · exact .inr ⟨_, h, Nat.le_trans hK4.size (by simp)⟩
          have HF := Lib.hid hF
          clear hF ho5 hg5 hb5 k5 kk5 hma hmo p5 f5
          go_wp2_with fail
          go_ret
          exact ⟨rfl, HF.out⟩
end
section
theorem idx_some {ids : List Int} {a : Int} (h : a ∈ ids) : ∀ j, 0 ≤ idxM ids a j := by
  induction ids with
  | nil => cases h
  | cons x l ih =>
    intro j
    rw [idxM]
    split
    · omega
    · rename_i hx
      rcases List.mem_cons.1 h with h | h
      · exact absurd h.symm hx
      · exact ih h (j + 1)
theorem areasV_snoc (sl : Nat → Value × Value) : ∀ (l : List AreaM) (i : Nat) (a : AreaM), areasV sl (l ++ [a]) i = areasV sl l i ++ areaCells a (sl (i + l.length))
  | [], i, a => by simp [areasV]
  | x :: l, i, a => by
    rw [List.cons_append, areasV, areasV_snoc sl l, areasV, List.append_assoc]
    simp only [List.length_cons]
    rw [show i + 1 + l.length = i + (l.length + 1) by omega]
theorem areasV_at {sl sl' : Nat → Value × Value} : ∀ (l : List AreaM) (i : Nat), (∀ k, i ≤ k → k < i + l.length → sl' k = sl k) → areasV sl' l i = areasV sl l i
  | [], _, _ => rfl
  | a :: l, i, h => by
    rw [areasV, areasV, h i (Nat.le_refl _) (by simp), areasV_at l (i + 1) (fun k h1 h2 => h k (by omega) (by simp only [List.length_cons]; omega))]
theorem MemIn.x {own : Own} {w : World} {pm : Nat} {v : Value} {sl : Nat → Value × Value} {mem : List AreaM} (h : MemIn own w pm v sl mem) : MemX w pm v mem.length (areasV sl mem 0) :=
  ⟨h.blk.cell rfl, h.blk.free, h.row.row, fun e => by have := h.row.role pm e; rw [h.role] at this; cases this⟩
theorem row_apart {w : World} {b1 b2 t1 t2 s1 s2 n1 n2 : Nat} {v1 v2 : Value} {xs ys : List Value} (h1 : w.ownsRow b1 t1 s1 v1 n1 xs) (h2 : w.ownsRow b2 t2 s2 v2 n2 ys) (ht : t1 ≠ t2) {b : Nat} (e1 : v1.ownBlock = some b) : v2.ownBlock ≠ some b := by
  intro e2
  rcases h1.2 with ⟨rfl, -⟩ | ⟨g1, c1, cur1, rfl, -, hg1, -⟩
  · cases e1
  · rcases h2.2 with ⟨rfl, -⟩ | ⟨g2, c2, cur2, rfl, -, hg2, -⟩
    · cases e2
    · simp only [Value.ownBlock, Option.some.injEq] at e1 e2
      subst e1; subst e2
      rw [hg1] at hg2
      simp only [Option.some.injEq, Obj.cells.injEq] at hg2
      exact ht hg2.2.1
set_option maxHeartbeats 1000000 in
theorem rmake8 {own : Own} {w : World} {pm : Nat} {v : Value} {sl : Nat → Value × Value} {mem : List AreaM} (h : MemIn own w pm v sl mem) (hn : mem.length ≤ 1000000) (a : Int) (ha1 : 1 ≤ a) (ha2 : a < 2147483648)
    (A : Option Addr) (c : Nat) (bs : List Int) (hby : ∀ b ∈ bs, 0 ≤ b ∧ b ≤ 255) (hfew : bs.length ≤ 1024) (blank fixed : Bool) (B : Nat) (hB : B ≤ w.heap.size) (hat : SAt w B 1 A bs.length (bytesV bs)) :
    Calls Try.prog 14 #[.pointer (some ⟨pm, 0, none⟩), .int .i64 a, .slice A bs.length c, .bool blank, .bool fixed] w fun e w' => e = .returned (.int .i64 (makeM mem a bs blank fixed).2) ∧ ∃ own' v' sl', (∀ b, b < w.heap.size → own' b = own b) ∧ MemIn own' w' pm v' sl' (makeM mem a bs blank fixed).1 ∧ Kept (fun b => own b = some .mem ∨ own b = some .areas) w w' := by
  by_cases hin : a ∈ mem.map AreaM.id
  · have hM := Lib.hid (show makeM mem a bs blank fixed = (mem, 1) from by unfold makeM; rw [if_pos (.inr (.inr (idx_some hin 0)))])
    have hfi := fun w' (hb : Below w.heap.size w w') => rfind8 (h.below hb) hn a
    have hge := idx_some hin 0
    have hB2 := fun w' (hb : Below w.heap.size w w') => h.below hb
    have hrf := Below.refl w.heap.size w
    clear h hat
    generalize idxM (mem.map AreaM.id) a 0 = q at *
    go_enter Try.func14, Try.ntmps14
    go_wp2_with fail
    refine (hfi _ hrf).mono ?_
    rintro e w1 ⟨rfl, hb⟩
    clear hfi
    go_wp2_with fail
    go_ret
    rw [hM.out]
    exact ⟨rfl, own, v, sl, fun _ _ => rfl, hB2 _ hb, Kept.of hb (Nat.le_refl _)⟩
  · have hM : makeM mem a bs blank fixed = (mem ++ [⟨a, bs, List.replicate bs.length blank, fixed⟩], 0) := by
      unfold makeM; rw [if_neg (by rw [idx_none hin]; omega), if_neg (by omega)]
    refine (rmakeX pm v mem.length (areasV sl mem 0) (mem.map AreaM.id) (by simp) hn (fun i hi => by
      have := areasV_get sl mem 0 i 0 (by simpa using hi) (by omega)
      rw [Nat.add_zero] at this
      rw [this]; simp [areaCells]) a hin ha1 ha2 A bs.length c hfew (bytesV bs) (fun u hu => by
        simp only [bytesV, List.mem_map] at hu; obtain ⟨b, -, rfl⟩ := hu; rfl) blank fixed w h.x B hB hat).mono ?_
    rintro e w' ⟨rfl, v', Ab, cb, Ak, ck, hx, ob, ok, hv, hk⟩
    rw [hM]
    refine ⟨rfl, ?_⟩
    have hbx := hx.own
    have lv : ∀ b, v.ownBlock = some b → b < w.heap.size := fun b e => (h.row.row.lt b e).2
    have lb := fun b e => (ob.lt b e).1
    have lk := fun b e => (ok.lt b e).1
    have hkk : Kept (fun b => own b = some .mem ∨ own b = some .areas) w w' := Kept.trans (Kept.refl (X := fun b => own b = some .mem ∨ own b = some .areas)) hk (by
      rintro i - (rfl | e)
      · exact .inl h.role
      · exact .inr (h.row.role i e))
    refine ⟨fun b => if b < w.heap.size then own b else if v'.ownBlock = some b then some .areas else if (Value.slice Ab bs.length cb).ownBlock = some b then some (.areaB mem.length) else if (Value.slice Ak bs.length ck).ownBlock = some b then some (.areaK mem.length) else none, v', fun i => if i < mem.length then sl i else (.slice Ab bs.length cb, .slice Ak bs.length ck), fun b hb => if_pos hb, ⟨?_, ?_, ⟨?_, ?_⟩, ?_, ?_⟩, hkk⟩
    · rw [if_pos h.blk.lt]; exact h.role
    · refine ⟨fun k u hu => ?_, hx.free, Nat.lt_of_lt_of_le h.blk.lt hk.size⟩
      cases k with
      | zero => cases hu; exact hx.cell
      | succ k => simp at hu
    · rw [areasV_snoc, areasV_at mem 0 (fun k _ hk => by rw [if_pos (by omega)])]
      simpa [areaCells] using hx.own
    · intro b hb
      by_cases hlt : b < w.heap.size
      · rw [if_pos hlt]
        rcases hv with hv | ⟨g, hv, hg⟩
        · exact h.row.role b (by rw [← hv]; exact hb)
        · rw [hv] at hb; cases hb; omega
      · rw [if_neg hlt, if_pos hb]
    · intro x hx
      rcases List.mem_append.1 hx with hx | hx
      · exact h.ok x hx
      · rw [List.mem_singleton] at hx; subst hx
        exact ⟨by simp, hfew, hby⟩
    · intro i hi
      rw [List.length_append, List.length_singleton] at hi
      by_cases hlt : i < mem.length
      · rw [List.getElem_append_left hlt]
        have ha := h.area i hlt
        simp only [if_pos hlt]
        exact ⟨ha.b.kept hkk (fun b hb => if_pos hb) (fun b hb => by rintro (e | e) <;> rw [hb] at e <;> cases e), ha.k.kept hkk (fun b hb => if_pos hb) (fun b hb => by rintro (e | e) <;> rw [hb] at e <;> cases e)⟩
      · obtain rfl : i = mem.length := by omega
        simp only [List.getElem_concat_length, if_neg (Nat.lt_irrefl _)]
        refine ⟨⟨own_mono (Nat.zero_le _) ob, fun b e => ?_⟩, ⟨?_, fun b e => ?_⟩⟩
        · have := lb b e
          rw [if_neg (by omega), if_neg (fun e2 => row_apart ob hbx (by decide) e e2), if_pos e]
        · rw [List.map_replicate]; exact own_mono (Nat.zero_le _) ok
        · have := lk b e
          rw [if_neg (by omega), if_neg (fun e2 => row_apart ok hbx (by decide) e e2), if_neg (fun e2 => row_apart ok ob (by decide) e e2), if_pos e]
end
end Go.Proofs.Ytncogaikiceidaa
