/- The machine, as rows; its registers; Sign. No statement is proved here. -/
import Derived.Test.YtncogaikiceidaaN3
import Derived.StillTailTactics
section
namespace Go.Proofs.Ytncogaikiceidaa
set_option maxRecDepth 100000
open Go.RowKit
set_option linter.unusedSimpArgs false
set_option linter.unusedVariables false
set_option linter.unnecessarySimpa false
section
theorem rarea8 {own : Own} {w : World} {pm : Nat} {v : Value} {sl : Nat → Value × Value} {mem : List AreaM} (h : MemIn own w pm v sl mem) (hn : mem.length ≤ 1000000) (a : Int) :
    Calls Try.prog 52 #[.pointer (some ⟨pm, 0, none⟩), .int .i64 a] w fun e w' => (∃ u, e = .returned (.tuple #[u, .bool (decide (0 ≤ idxM (mem.map AreaM.id) a 0))]) ∧ (idxM (mem.map AreaM.id) a 0 < 0 → u = .slice none 0 0) ∧ (∀ k : Nat, idxM (mem.map AreaM.id) a 0 = k → u = (sl k).1)) ∧ Below w.heap.size w w' := by
  have hfi := fun w' (hb : Below w.heap.size w w') => rfind8 (h.below hb) hn a
  have hcs := idx_lt (ids := mem.map AreaM.id) (a := a) 0
  have hrf := Below.refl w.heap.size w
  rcases hcs with hk | ⟨k, hk, he⟩
  · rw [hk] at hfi ⊢
    clear h hk
    go_enter Try.func52, Try.ntmps52
    go_wp2_with fail
    refine (hfi _ hrf).mono ?_
    rintro e w1 ⟨rfl, hb⟩
    go_wp2_with fail
    go_ret2
    exact ⟨⟨_, rfl, fun _ => rfl, fun k h => by omega⟩, hb⟩
  · rw [Nat.zero_add] at he
    rw [he] at hfi ⊢
    have hkm : k < mem.length := by simpa using hk
    obtain ⟨g, c, rfl, c0, c1, c2, c3, hg⟩ := h.at_ hkm
    have hcl : ∀ w', Below w.heap.size w w' → w'.cell? ⟨pm, 0, none⟩ = some (.slice (some ⟨g, 0, none⟩) mem.length c) := fun w' hb => (h.below hb).blk.cell rfl
    have hc1 : ∀ w', Below w.heap.size w w' → w'.cell? ⟨g, k * 4 + 1, none⟩ = some (sl k).1 := fun w' hb => (hb.cell (p := ⟨g, k * 4 + 1, none⟩) hg).trans c1
    have hki : (k : Int) < (mem.length : Int) := by omega
    have hkn : ¬ (k : Int) < 0 := by omega
    have HK := Lib.hid (show decide (0 ≤ (k : Int)) = true by simp)
    clear c0 c1 c2 c3 hk he h
    generalize hu : (sl k).1 = u at *
    have HU := Lib.hid hu
    clear hu
    go_enter Try.func52, Try.ntmps52
    go_wp2_with fail
    refine (hfi _ hrf).mono ?_
    rintro e w1 ⟨rfl, hb⟩
    have hC0 := hcl _ hb
    have hC1 := hc1 _ hb
    clear hfi hcl hc1
    go_wp2_with fail
    go_ret2
    rw [HK.out]
    exact ⟨⟨_, rfl, fun h => by omega, fun k' h => by obtain rfl : k = k' := by omega
                                                      exact HU.out.symm⟩, hb⟩
end
section
theorem rset11 (pm : Nat) (K : List Value) (hK : K.length = 32) (i : Nat) (hi : i < 11) (n : Int) (w : World) (hb : Blk w pm K) :
    Calls Try.prog 17 #[.pointer (some ⟨pm, 0, none⟩), .int .i64 i, .int .u64 n] w fun e w' => e = .returned (.tuple #[]) ∧ Blk w' pm ((K.set (1 + i) (.int .u64 n)).set (12 + i) (.bool true)) ∧ Kept (fun k => k = pm) w w' := by
  have hi2 : (i : Int) < 11 := by omega
  have c1 : w.cell? ⟨pm, 1 + i, none⟩ = some K[1 + i] := hb.cell (List.getElem?_eq_getElem (by omega))
  have f1 := hb.free (1 + i)
  have hb1 := hb.set (k := 1 + i) (by omega) (.int .u64 n)
  have c2 : (w.setCell ⟨pm, 1 + i, none⟩ (.int .u64 n)).cell? ⟨pm, 12 + i, none⟩ = some ((K.set (1 + i) (.int .u64 n))[12 + i]'(by rw [List.length_set]; omega)) := hb1.cell (List.getElem?_eq_getElem (by rw [List.length_set]; omega))
  have f2 := hb1.free (12 + i)
  have hb2 := hb1.set (k := 12 + i) (by rw [List.length_set]; omega) (.bool true)
  have hk : Kept (fun k => k = pm) w ((w.setCell ⟨pm, 1 + i, none⟩ (.int .u64 n)).setCell ⟨pm, 12 + i, none⟩ (.bool true)) := Kept.set (X := fun k => k = pm) (Kept.set (X := fun k => k = pm) Kept.refl rfl) rfl
  have HF := Lib.hid (And.intro hb2 hk)
  clear hb hb1 hb2 hk
  generalize K[1 + i] = x1 at *
  generalize (K.set (1 + i) (.int .u64 n))[12 + i]'(by rw [List.length_set]; omega) = x2 at *
  go_enter Try.func17, Try.ntmps17
  go_wp2_with fail
  exact ⟨rfl, .tuple #[], by simp [results, Try.results17], rfl, HF.out⟩
end
section
theorem rcutG_8 (n : Int) (hn : U64 n) (w : World) : Calls Try.prog 78 #[.int .u64 n, .int .i64 8] w fun e w' => e = .returned (.int .u64 (n % 256)) ∧ w' = w := by
  obtain ⟨h0, h1⟩ := hn
  go_enter Try.func78, Try.ntmps78
  go_wp2_with fail
  go_ret
  exact ⟨rfl, rfl⟩
theorem signG_8 (n : Int) (hn : U64 n) : signG n 8 = if n % 256 < 128 then n % 256 else n % 256 + 18446744073709551360 := by
  have e : ∀ x : Int, (x / 2 ^ (8 - 1) = 0 ∨ (8 : Int) = 64) ↔ (0 ≤ x ∧ x < 128) := by
    intro x
    rw [show (2 : Int) ^ (8 - 1) = 128 from rfl]
    omega
  unfold signG cutG
  rw [if_neg (by decide), show (8 : Int).toNat = 8 from rfl, show (2 : Int) ^ 8 = 256 from rfl]
  obtain ⟨h0, h1⟩ := hn
  by_cases h : n % 256 < 128
  · rw [if_pos ((e _).2 ⟨by omega, h⟩), if_pos h]
  · rw [if_neg (fun q => h ((e _).1 q).2), if_neg h]
    rfl
theorem rsignG_8 (n : Int) (hn : U64 n) (w : World) : Calls Try.prog 81 #[.int .u64 n, .int .i64 8] w fun e w' => e = .returned (.int .u64 (signG n 8)) ∧ w' = w := by
  have hc := fun w => rcutG_8 n hn w
  have hx : 0 ≤ n % 256 ∧ n % 256 < 256 := by omega
  have HS := Lib.hid (signG_8 n hn)
  generalize n % 256 = x at *
  obtain ⟨x0, x1⟩ := hx
  by_cases h : x < 128
  · have hq : (x / 128 == 0) = true := by rw [beq_iff_eq]; omega
    have HX := Lib.hid h
    clear h
    go_enter Try.func81, Try.ntmps81
    go_wp2_with fail
    refine (hc _).mono ?_
    rintro e w1 ⟨rfl, rfl⟩
    go_wp2_with fail
    go_ret
    exact ⟨by rw [HS.out, if_pos HX.out]; rfl, rfl⟩
  · have hq : (x / 128 == 0) = false := by rw [beq_eq_false_iff_ne]; omega
    have hw : IntKind.u64.wrap (x - 256) = x + 18446744073709551360 := by rw [IntKind.wrap_u64]; omega
    have HX := Lib.hid h
    clear h
    go_enter Try.func81, Try.ntmps81
    go_wp2_with fail
    refine (hc _).mono ?_
    rintro e w1 ⟨rfl, rfl⟩
    go_wp2_with fail
    go_ret
    exact ⟨by rw [HS.out, if_neg (Int.not_lt.2 HX.out)]; rfl, rfl⟩
theorem rcutG_16 (n : Int) (hn : U64 n) (w : World) : Calls Try.prog 78 #[.int .u64 n, .int .i64 16] w fun e w' => e = .returned (.int .u64 (n % 65536)) ∧ w' = w := by
  obtain ⟨h0, h1⟩ := hn
  go_enter Try.func78, Try.ntmps78
  go_wp2_with fail
  go_ret
  exact ⟨rfl, rfl⟩
theorem signG_16 (n : Int) (hn : U64 n) : signG n 16 = if n % 65536 < 32768 then n % 65536 else n % 65536 + 18446744073709486080 := by
  have e : ∀ x : Int, (x / 2 ^ (16 - 1) = 0 ∨ (16 : Int) = 64) ↔ (0 ≤ x ∧ x < 32768) := by
    intro x
    rw [show (2 : Int) ^ (16 - 1) = 32768 from rfl]
    omega
  unfold signG cutG
  rw [if_neg (by decide), show (16 : Int).toNat = 16 from rfl, show (2 : Int) ^ 16 = 65536 from rfl]
  obtain ⟨h0, h1⟩ := hn
  by_cases h : n % 65536 < 32768
  · rw [if_pos ((e _).2 ⟨by omega, h⟩), if_pos h]
  · rw [if_neg (fun q => h ((e _).1 q).2), if_neg h]
    rfl
theorem rsignG_16 (n : Int) (hn : U64 n) (w : World) : Calls Try.prog 81 #[.int .u64 n, .int .i64 16] w fun e w' => e = .returned (.int .u64 (signG n 16)) ∧ w' = w := by
  have hc := fun w => rcutG_16 n hn w
  have hx : 0 ≤ n % 65536 ∧ n % 65536 < 65536 := by omega
  have HS := Lib.hid (signG_16 n hn)
  generalize n % 65536 = x at *
  obtain ⟨x0, x1⟩ := hx
  by_cases h : x < 32768
  · have hq : (x / 32768 == 0) = true := by rw [beq_iff_eq]; omega
    have HX := Lib.hid h
    clear h
    go_enter Try.func81, Try.ntmps81
    go_wp2_with fail
    refine (hc _).mono ?_
    rintro e w1 ⟨rfl, rfl⟩
    go_wp2_with fail
    go_ret
    exact ⟨by rw [HS.out, if_pos HX.out]; rfl, rfl⟩
  · have hq : (x / 32768 == 0) = false := by rw [beq_eq_false_iff_ne]; omega
    have hw : IntKind.u64.wrap (x - 65536) = x + 18446744073709486080 := by rw [IntKind.wrap_u64]; omega
    have HX := Lib.hid h
    clear h
    go_enter Try.func81, Try.ntmps81
    go_wp2_with fail
    refine (hc _).mono ?_
    rintro e w1 ⟨rfl, rfl⟩
    go_wp2_with fail
    go_ret
    exact ⟨by rw [HS.out, if_neg (Int.not_lt.2 HX.out)]; rfl, rfl⟩
theorem rcutG_32 (n : Int) (hn : U64 n) (w : World) : Calls Try.prog 78 #[.int .u64 n, .int .i64 32] w fun e w' => e = .returned (.int .u64 (n % 4294967296)) ∧ w' = w := by
  obtain ⟨h0, h1⟩ := hn
  go_enter Try.func78, Try.ntmps78
  go_wp2_with fail
  go_ret
  exact ⟨rfl, rfl⟩
theorem signG_32 (n : Int) (hn : U64 n) : signG n 32 = if n % 4294967296 < 2147483648 then n % 4294967296 else n % 4294967296 + 18446744069414584320 := by
  have e : ∀ x : Int, (x / 2 ^ (32 - 1) = 0 ∨ (32 : Int) = 64) ↔ (0 ≤ x ∧ x < 2147483648) := by
    intro x
    rw [show (2 : Int) ^ (32 - 1) = 2147483648 from rfl]
    omega
  unfold signG cutG
  rw [if_neg (by decide), show (32 : Int).toNat = 32 from rfl, show (2 : Int) ^ 32 = 4294967296 from rfl]
  obtain ⟨h0, h1⟩ := hn
  by_cases h : n % 4294967296 < 2147483648
  · rw [if_pos ((e _).2 ⟨by omega, h⟩), if_pos h]
  · rw [if_neg (fun q => h ((e _).1 q).2), if_neg h]
    rfl
theorem rsignG_32 (n : Int) (hn : U64 n) (w : World) : Calls Try.prog 81 #[.int .u64 n, .int .i64 32] w fun e w' => e = .returned (.int .u64 (signG n 32)) ∧ w' = w := by
  have hc := fun w => rcutG_32 n hn w
  have hx : 0 ≤ n % 4294967296 ∧ n % 4294967296 < 4294967296 := by omega
  have HS := Lib.hid (signG_32 n hn)
  generalize n % 4294967296 = x at *
  obtain ⟨x0, x1⟩ := hx
  by_cases h : x < 2147483648
  · have hq : (x / 2147483648 == 0) = true := by rw [beq_iff_eq]; omega
    have HX := Lib.hid h
    clear h
    go_enter Try.func81, Try.ntmps81
    go_wp2_with fail
    refine (hc _).mono ?_
    rintro e w1 ⟨rfl, rfl⟩
    go_wp2_with fail
    go_ret
    exact ⟨by rw [HS.out, if_pos HX.out]; rfl, rfl⟩
  · have hq : (x / 2147483648 == 0) = false := by rw [beq_eq_false_iff_ne]; omega
    have hw : IntKind.u64.wrap (x - 4294967296) = x + 18446744069414584320 := by rw [IntKind.wrap_u64]; omega
    have HX := Lib.hid h
    clear h
    go_enter Try.func81, Try.ntmps81
    go_wp2_with fail
    refine (hc _).mono ?_
    rintro e w1 ⟨rfl, rfl⟩
    go_wp2_with fail
    go_ret
    exact ⟨by rw [HS.out, if_neg (Int.not_lt.2 HX.out)]; rfl, rfl⟩
theorem rcutG_64 (n : Int) (w : World) : Calls Try.prog 78 #[.int .u64 n, .int .i64 64] w fun e w' => e = .returned (.int .u64 n) ∧ w' = w := by
  go_enter Try.func78, Try.ntmps78
  go_wp2_with fail
  go_ret
  exact ⟨rfl, rfl⟩
theorem signG_64 (n : Int) (hn : U64 n) : signG n 64 = n := by
  unfold signG cutG
  rw [if_neg (by decide), if_pos (.inr rfl), show (64 : Int).toNat = 64 from rfl]
  obtain ⟨h0, h1⟩ := hn
  exact Int.emod_eq_of_lt h0 (by rw [show (2 : Int) ^ 64 = 18446744073709551616 from rfl]; omega)
theorem rsignG_64 (n : Int) (hn : U64 n) (w : World) : Calls Try.prog 81 #[.int .u64 n, .int .i64 64] w fun e w' => e = .returned (.int .u64 (signG n 64)) ∧ w' = w := by
  have hc := fun w => rcutG_64 n w
  rw [signG_64 n hn]
  obtain ⟨h0, h1⟩ := hn
  cases hq : (n / 9223372036854775808 == 0)
  all_goals
    go_enter Try.func81, Try.ntmps81
    go_wp2_with fail
    refine (hc _).mono ?_
    rintro e w1 ⟨rfl, rfl⟩
    go_wp2_with fail
    go_ret
    exact ⟨rfl, rfl⟩
def Wide (k : Int) : Prop := k = 8 ∨ k = 16 ∨ k = 32 ∨ k = 64
theorem rsignG (n : Int) (hn : U64 n) (k : Int) (hk : Wide k) (w : World) : Calls Try.prog 81 #[.int .u64 n, .int .i64 k] w fun e w' => e = .returned (.int .u64 (signG n k)) ∧ w' = w := by
  rcases hk with rfl | rfl | rfl | rfl
  · exact rsignG_8 n hn w
  · exact rsignG_16 n hn w
  · exact rsignG_32 n hn w
  · exact rsignG_64 n hn w
theorem signG_u64 (n : Int) (hn : U64 n) (k : Int) (hk : Wide k) : U64 (signG n k) := by
  rcases hk with rfl | rfl | rfl | rfl
  · rw [signG_8 n hn]; obtain ⟨h0, h1⟩ := hn; unfold U64; split <;> omega
  · rw [signG_16 n hn]; obtain ⟨h0, h1⟩ := hn; unfold U64; split <;> omega
  · rw [signG_32 n hn]; obtain ⟨h0, h1⟩ := hn; unfold U64; split <;> omega
  · rw [signG_64 n hn]; exact hn
end
section
/-! ### The machine -/
structure Gh where
  L : Value
  A : Option Addr
  pm : Nat
  pt : Nat
  vm : Value
  vt : Value
  sl : Nat → Value × Value
  ks : Nat → Value
  D : Value
  AD : Option Addr
  dr : Value
  cl : Value
  cd : Nat → Value × Value × Value
def mchCells (g : Gh) (m : MchM) : List Value :=
  g.L :: (m.r.map (Value.int .u64) ++ (m.s.map Value.bool ++ [.pointer (some ⟨g.pm, 0, none⟩), .pointer (some ⟨g.pt, 0, none⟩), g.D, g.dr, .int .i64 m.place, .bool m.over, .int .i64 m.code, .int .i64 m.steps, g.cl]))
def calledV (c : CalledM) (d : Value × Value × Value) : List Value := [.int .i64 c.id, .int .i64 c.map, d.1, d.2.1, d.2.2, .int .u64 c.ret]
def callsV (cd : Nat → Value × Value × Value) : List CalledM → Nat → List Value
  | [], _ => []
  | c :: l, i => calledV c (cd i) ++ callsV cd l (i + 1)
def defV (d : DefM) : List Value := [.bool d.hash, .int .i64 d.key, .int .i64 d.val, .int .i64 d.max]
def defsV : List DefM → List Value
  | [] => []
  | d :: l => defV d ++ defsV l
structure CalledIn (own : Own) (w : World) (i : Nat) (d : Value × Value × Value) (c : CalledM) : Prop where
  key : RowIn own (.data i 0) w 5 1 d.1 c.key.length (bytesV c.key)
  val : RowIn own (.data i 0) w 5 1 d.2.1 c.val.length (bytesV c.val)
  n : RowIn own (.data i 0) w 53 1 d.2.2 c.n.length (c.n.map (Value.int .u64))
structure MchIn (own : Own) (w : World) (pM : Nat) (g : Gh) (l : List Insn) (defs : List DefM) (m : MchM) : Prop where
  role : own pM = some .mach
  lr : m.r.length = 11
  ls : m.s.length = 11
  u64 : ∀ n ∈ m.r, U64 n
  blk : Blk w pM (mchCells g m)
  code : ∃ c, g.L = .slice g.A l.length c ∧ SAt w w.heap.size 5 g.A l.length (insnsV l)
  codeFar : 0 < l.length → ∀ b o, g.A = some ⟨b, o, none⟩ → own b = none
  maps : ∃ c, g.D = .slice g.AD defs.length c ∧ SAt w w.heap.size 4 g.AD defs.length (defsV defs)
  mapsFar : 0 < defs.length → ∀ b o, g.AD = some ⟨b, o, none⟩ → own b = none
  mem : MemIn own w g.pm g.vm g.sl m.mem
  tab : TabIn own w g.pt g.pm g.vt g.ks m.tab
  draws : RowIn own .draws w 53 1 g.dr m.draws.length (m.draws.map (Value.int .u64))
  drawsU : ∀ n ∈ m.draws, U64 n
  calls : RowIn own .calls w 119 6 g.cl m.calls.length (callsV g.cd m.calls 0)
  data : ∀ i, (h : i < m.calls.length) → CalledIn own w i (g.cd i) m.calls[i]
theorem SAt.more2 {w : World} {B B' size n : Nat} {A : Option Addr} {xs : List Value} (h : SAt w B size A n xs) (hB : B ≤ B') : SAt w B' size A n xs :=
  ⟨h.1, fun hn => by obtain ⟨b, o, e, hb, hc⟩ := h.2 hn; exact ⟨b, o, e, by omega, hc⟩⟩
theorem SAt.keep2 {w w' : World} {B size n : Nat} {A : Option Addr} {xs : List Value} {X : Nat → Prop} (h : SAt w B size A n xs) (hB : B ≤ w.heap.size) (hk : Kept X w w') (hx : 0 < n → ∀ b o, A = some ⟨b, o, none⟩ → ¬ X b) : SAt w' B size A n xs := by
  refine ⟨h.1, fun hn => ?_⟩
  obtain ⟨b, o, rfl, hb, hc⟩ := h.2 hn
  exact ⟨b, o, rfl, hb, fun j u hu => (hk.cell (by omega) (hx hn b o rfl)).trans (hc j u hu)⟩
section
variable {own own' : Own} {w w' : World} {pM : Nat} {g : Gh} {l : List Insn} {defs : List DefM} {m : MchM}
/-- Whatever turns no block of the machine's. -/
theorem MchIn.below (h : MchIn own w pM g l defs m) (hb : Below w.heap.size w w') : MchIn own w' pM g l defs m where
  role := h.role
  lr := h.lr
  ls := h.ls
  u64 := h.u64
  blk := h.blk.below hb
  code := by obtain ⟨c, e, hs⟩ := h.code; exact ⟨c, e, (hs.below hb).more2 hb.size⟩
  codeFar := h.codeFar
  maps := by obtain ⟨c, e, hs⟩ := h.maps; exact ⟨c, e, (hs.below hb).more2 hb.size⟩
  mapsFar := h.mapsFar
  mem := h.mem.below hb
  tab := h.tab.below hb
  draws := h.draws.below hb
  drawsU := h.drawsU
  calls := h.calls.below hb
  data := fun i hi => ⟨(h.data i hi).key.below hb, (h.data i hi).val.below hb, (h.data i hi).n.below hb⟩
/-- The machine's own block becomes another one's: registers, place, over, code, steps. -/
theorem MchIn.regs (h : MchIn own w pM g l defs m) (hk : Kept (fun b => b = pM) w w') (m' : MchM) (hblk : Blk w' pM (mchCells g m')) (lr : m'.r.length = 11) (ls : m'.s.length = 11) (u64 : ∀ n ∈ m'.r, U64 n)
    (e1 : m'.mem = m.mem) (e2 : m'.tab = m.tab) (e3 : m'.draws = m.draws) (e4 : m'.calls = m.calls) : MchIn own w' pM g l defs m' := by
  have hx : ∀ b r, own b = some r → r ≠ .mach → ¬ b = pM := fun b r hb hr e => by subst e; rw [h.role] at hb; cases hb; exact hr rfl
  have far : ∀ {A : Option Addr} {n k : Nat} {xs : List Value}, SAt w w.heap.size k A n xs → (0 < n → ∀ b o, A = some ⟨b, o, none⟩ → own b = none) → SAt w' w'.heap.size k A n xs := fun hs hf =>
    (hs.keep2 (Nat.le_refl _) hk (fun hn b o e e2 => by subst e2; have := hf hn b o e; rw [h.role] at this; cases this)).more2 hk.size
  refine ⟨h.role, lr, ls, u64, hblk, ?_, h.codeFar, ?_, h.mapsFar, ?_, ?_, ?_, by rw [e3]; exact h.drawsU, ?_, ?_⟩
  · obtain ⟨c, e, hs⟩ := h.code; exact ⟨c, e, far hs h.codeFar⟩
  · obtain ⟨c, e, hs⟩ := h.maps; exact ⟨c, e, far hs h.mapsFar⟩
  · rw [e1]; exact h.mem.kept hk (fun _ _ => rfl) (fun b r hb hr => hx b r hb (by rintro rfl; exact hr))
  · rw [e2]; exact h.tab.kept hk (fun _ _ => rfl) (fun b r hb hr => hx b r hb (by rintro rfl; exact hr))
  · rw [e3]; exact h.draws.kept hk (fun _ _ => rfl) (fun b hb => hx b _ hb (by decide))
  · rw [e4]; exact h.calls.kept hk (fun _ _ => rfl) (fun b hb => hx b _ hb (by decide))
  · intro i hi
    simp only [e4] at hi ⊢
    have hd := h.data i hi
    exact ⟨hd.key.kept hk (fun _ _ => rfl) (fun b hb => hx b _ hb (by simp)), hd.val.kept hk (fun _ _ => rfl) (fun b hb => hx b _ hb (by simp)), hd.n.kept hk (fun _ _ => rfl) (fun b hb => hx b _ hb (by simp))⟩
end
end
section
theorem mch_len {g : Gh} {m : MchM} (lr : m.r.length = 11) (ls : m.s.length = 11) : (mchCells g m).length = 32 := by
  simp [mchCells, lr, ls]
theorem mch_r {g : Gh} {m : MchM} (lr : m.r.length = 11) (i : Nat) (hi : i < 11) : (mchCells g m)[1 + i]? = some (.int .u64 (regM m i)) := by
  rw [mchCells, Nat.add_comm, List.getElem?_cons_succ, List.getElem?_append_left (by simp [lr, hi])]
  simp [regM, List.getD_eq_getElem?_getD, show i < m.r.length by omega]
theorem mch_s {g : Gh} {m : MchM} (lr : m.r.length = 11) (ls : m.s.length = 11) (i : Nat) (hi : i < 11) : (mchCells g m)[12 + i]? = some (.bool (setM m i)) := by
  rw [mchCells, show 12 + i = (11 + i) + 1 by omega, List.getElem?_cons_succ, List.getElem?_append_right (by simp [lr]), List.getElem?_append_left (by simp [lr, ls]; omega)]
  simp [setM, List.getD_eq_getElem?_getD, lr, show i < m.s.length by omega]
theorem mch_hi {g : Gh} {m : MchM} (lr : m.r.length = 11) (ls : m.s.length = 11) (k : Nat) : (mchCells g m)[23 + k]? = [Value.pointer (some ⟨g.pm, 0, none⟩), .pointer (some ⟨g.pt, 0, none⟩), g.D, g.dr, .int .i64 m.place, .bool m.over, .int .i64 m.code, .int .i64 m.steps, g.cl][k]? := by
  rw [mchCells, show 23 + k = (22 + k) + 1 by omega, List.getElem?_cons_succ, List.getElem?_append_right (by simp [lr]; omega), List.getElem?_append_right (by simp [lr, ls]; omega)]
  simp only [List.length_map, lr, ls]
  rw [show 22 + k - 11 - 11 = k by omega]
theorem mch_put {g : Gh} {m : MchM} (lr : m.r.length = 11) (ls : m.s.length = 11) (i : Nat) (hi : i < 11) (n : Int) : ((mchCells g m).set (1 + i) (.int .u64 n)).set (12 + i) (.bool true) = mchCells g (putR m i n) := by
  simp only [mchCells, putR, Int.toNat_natCast]
  rw [Nat.add_comm 1 i, List.set_cons_succ, show 12 + i = (11 + i) + 1 by omega, List.set_cons_succ, List.set_append_left _ _ (by simp [lr, hi]), List.set_append_right _ _ (by simp [lr]), List.set_append_left _ _ (by simp [lr, ls]; omega)]
  simp [lr, List.map_set]
theorem putR_u64 {m : MchM} (h : ∀ n ∈ m.r, U64 n) (i : Nat) {n : Int} (hn : U64 n) : ∀ k ∈ (putR m i n).r, U64 k := by
  intro k hk
  rcases List.mem_or_eq_of_mem_set hk with h1 | rfl
  · exact h k h1
  · exact hn
theorem MchIn.reg_u64 {own : Own} {w : World} {pM : Nat} {g : Gh} {l : List Insn} {defs : List DefM} {m : MchM} (h : MchIn own w pM g l defs m) (i : Nat) : U64 (regM m i) := by
  unfold regM
  rw [List.getD_eq_getElem?_getD]
  cases hq : m.r[(i : Int).toNat]? with
  | none => exact ⟨by decide, by decide⟩
  | some n => exact h.u64 n (List.mem_of_getElem? hq)
theorem rput11 {own : Own} {w : World} {pM : Nat} {g : Gh} {l : List Insn} {defs : List DefM} {m : MchM} (h : MchIn own w pM g l defs m) (i : Nat) (hi : i < 11) (n : Int) (hn : U64 n) :
    Calls Try.prog 17 #[.pointer (some ⟨pM, 0, none⟩), .int .i64 i, .int .u64 n] w fun e w' => e = .returned (.tuple #[]) ∧ MchIn own w' pM g l defs (putR m i n) ∧ Kept (fun b => b = pM) w w' := by
  refine (rset11 pM (mchCells g m) (mch_len h.lr h.ls) i hi n w h.blk).mono ?_
  rintro e w' ⟨rfl, hb, hk⟩
  rw [mch_put h.lr h.ls i hi] at hb
  exact ⟨rfl, h.regs hk _ hb (by simp [putR, h.lr]) (by simp [putR, h.ls]) (putR_u64 h.u64 i hn) rfl rfl rfl rfl, hk⟩
theorem rimm11 (x0 x1 x2 x3 im : Int) (w : World) : Calls Try.prog 82 #[.agg #[.int .u8 x0, .int .u8 x1, .int .u8 x2, .int .i16 x3, .int .i32 im]] w fun e w' => e = .returned (.int .u64 (signG (im % 4294967296) 32)) ∧ Below w.heap.size w w' := by
  have hs := fun w => rsignG_32 (im % 4294967296) ⟨by omega, by omega⟩ w
  have hb := (Below.refl w.heap.size w).alloc (Nat.le_refl _) (.cells #[.int .u8 x0, .int .u8 x1, .int .u8 x2, .int .i16 x3, .int .i32 im] 40)
  go_enter Try.func82, Try.ntmps82
  go_wp2_with fail
  refine (hs _).mono ?_
  rintro e w1 ⟨rfl, rfl⟩
  go_wp2_with fail
  go_ret
  exact ⟨rfl, hb⟩
set_option maxHeartbeats 400000 in
theorem raddr11 {own : Own} {w : World} {pM : Nat} {g : Gh} {l : List Insn} {defs : List DefM} {m : MchM} (h : MchIn own w pM g l defs m) (i : Nat) (hi : i < 11) (x : Insn) :
    Calls Try.prog 80 #[.pointer (some ⟨pM, 0, none⟩), .int .u8 i, x.val] w fun e w' => e = .returned (.int .u64 (addrM m i x)) ∧ Below w.heap.size w w' := by
  have hs := fun w => rsignG_16 (x.off % 65536) ⟨by omega, by omega⟩ w
  have hr : ∀ w', Below w.heap.size w w' → w'.cell? ⟨pM, 1 + i, none⟩ = some (.int .u64 (regM m i)) := fun w' hb => (h.blk.below hb).cell (mch_r h.lr i hi)
  have hu := h.reg_u64 i
  have hg := signG_u64 (x.off % 65536) ⟨by omega, by omega⟩ 16 (.inr (.inl rfl))
  have hA := Lib.hid (show addrM m i x = (regM m i + signG (x.off % 65536) 16) % 18446744073709551616 from rfl)
  have hi2 : (i : Int) < 11 := by omega
  obtain ⟨x0, x1, x2, x3, x4⟩ := x
  simp only [Insn.val] at *
  have hb := (Below.refl w.heap.size w).alloc (Nat.le_refl _) (.cells #[.int .u8 x0, .int .u8 x1, .int .u8 x2, .int .i16 x3, .int .i32 x4] 40)
  have hx3 := boxc (heap_alloc_new w (.cells #[.int .u8 x0, .int .u8 x1, .int .u8 x2, .int .i16 x3, .int .i32 x4] 40)) (k := 3) (u := .int .i16 x3) rfl
  clear h
  generalize signG (x3 % 65536) 16 = q at *
  generalize regM m i = r at *
  generalize addrM m i _ = z at *
  have hw := IntKind.wrap_u64 (r + q)
  go_enter Try.func80, Try.ntmps80
  go_upto_region 1 with fail
  generalize hW : w.alloc (.cells #[.int .u8 x0, .int .u8 x1, .int .u8 x2, .int .i16 x3, .int .i32 x4] 40) = W at *
  clear hW
  have hr2 := fun nq => hr _ (below_drewN hb nq)
  have hx := fun nq => hx3 _ (below_drewN (Below.refl _ _) nq)
  have hr0 := hr _ hb
  have hx0 := hx3 _ (Below.refl _ _)
  have hbd := hb.drew
  replace hr0 := hr _ hbd
  replace hx0 := hx3 _ (Below.refl _ W).drew
  clear hr2 hx hr hx3

  refine wp_region_still_lit (by kernel_rfl) (by kernel_rfl) ?_
  change wpStill _ _ W.drew _ _ _
  iterate 10 still_step
  have hwx : IntKind.u64.wrap (IntKind.u16.wrap x3) = x3 % 65536 := by rw [IntKind.wrap_u64, show IntKind.u16.wrap x3 = x3 % 65536 by simp [IntKind.wrap, IntKind.bits, IntKind.signed]]; omega
  rw [hwx]
  still_call (hs _)
  still_step
  still_step
  refine wpStill_nil ?_
  go_wp2_with fail
  go_ret
  rw [hA.out]
  exact ⟨rfl, hbd⟩
end
section
set_option maxHeartbeats 400000 in
theorem rsecond11 {own : Own} {w : World} {pM : Nat} {g : Gh} {l : List Insn} {defs : List DefM} {m : MchM} (h : MchIn own w pM g l defs m) (x : Insn) (s : What) (i : Nat) (hsrc : x.src = i) (hi : i < 11) :
    Calls Try.prog 69 #[.pointer (some ⟨pM, 0, none⟩), x.val, s.val] w fun e w' => e = .returned (.tuple #[.int .u64 (secondM m x s).1, .bool (secondM m x s).2]) ∧ Below w.heap.size w w' := by
  obtain ⟨x0, x1, x2, x3, x4⟩ := x
  obtain ⟨k, op, wd, rg, sg, sz⟩ := s
  simp only at hsrc
  subst hsrc
  have hr : ∀ w', Below w.heap.size w w' → w'.cell? ⟨pM, 1 + i, none⟩ = some (.int .u64 (regM m i)) := fun w' hb => (h.blk.below hb).cell (mch_r h.lr i hi)
  have hs : ∀ w', Below w.heap.size w w' → w'.cell? ⟨pM, 12 + i, none⟩ = some (.bool (setM m i)) := fun w' hb => (h.blk.below hb).cell (mch_s h.lr h.ls i hi)
  have him := rimm11 x0 x1 i x3 x4
  obtain ⟨hW0, hx, hy⟩ := box2 w [.int .u8 x0, .int .u8 x1, .int .u8 i, .int .i16 x3, .int .i32 x4] [.int .u8 k, .int .u8 op, .bool wd, .bool rg, .bool sg, .int .i64 sz] 40 42
  have x0_ := fun w' h => hx w' h 0 _ rfl
  have x1_ := fun w' h => hx w' h 1 _ rfl
  have x2_ := fun w' h => hx w' h 2 _ rfl
  have x3_ := fun w' h => hx w' h 3 _ rfl
  have x4_ := fun w' h => hx w' h 4 _ rfl
  have y3_ := fun w' h => hy w' h 3 _ rfl
  have HS := Lib.hid (show secondM m ⟨x0, x1, i, x3, x4⟩ ⟨k, op, wd, rg, sg, sz⟩ = if rg = true then (regM m i, setM m i) else (signG (x4 % 4294967296) 32, true) from rfl)
  have hi2 : (i : Int) < 11 := by omega
  clear hx hy h
  generalize regM m i = r at *
  generalize setM m i = b at *
  generalize signG (x4 % 4294967296) 32 = n at *
  generalize secondM m _ _ = sc at *
  go_enter Try.func69, Try.ntmps69
  go_upto_region 1 with fail
  generalize (w.alloc (.cells #[.int .u8 x0, .int .u8 x1, .int .u8 i, .int .i16 x3, .int .i32 x4] 40)).alloc (.cells #[.int .u8 k, .int .u8 op, .bool wd, .bool rg, .bool sg, .int .i64 sz] 42) = W at *
  have hrW := Below.refl W.heap.size W
  have a0 := x0_ _ hrW
  have a1 := x1_ _ hrW
  have a2 := x2_ _ hrW
  have a3 := x3_ _ hrW
  have a4 := x4_ _ hrW
  have b3 := y3_ _ hrW
  have hr0 := hr _ hW0
  have hs0 := hs _ hW0
  cases rg
  · have HS2 := Lib.hid (show sc = (n, true) from by rw [HS.out, if_neg (by decide)])
    clear HS x0_ x1_ x2_ x3_ x4_ y3_ hr hs
    go_wp2_with fail
    refine (him _).mono ?_
    rintro e w1 ⟨rfl, hc1⟩
    have hb1 := hW0.trans (hc1.mono hW0.size)
    clear hc1
    go_wp2_with fail
    go_ret2
    rw [HS2.out]
    exact ⟨rfl, hb1⟩
  · have HS2 := Lib.hid (show sc = (r, b) from by rw [HS.out, if_pos rfl])
    clear HS x0_ x3_ x4_ y3_ x1_
    go_wp2_with fail
    have hbd := hW0.drew
    replace hr0 := hr _ hbd
    replace hs0 := hs _ hbd
    replace a2 := x2_ _ hrW.drew
    clear hr hs x2_ a0 a1 a3 a4
    refine wp_region_still_lit (by kernel_rfl) (by kernel_rfl) ?_
    change wpStill _ _ W.drew _ _ _
    repeat still_step
    refine wpStill_nil ?_
    go_wp2_with fail
    go_ret2
    rw [HS2.out]
    exact ⟨rfl, hbd⟩
end
end Go.Proofs.Ytncogaikiceidaa
end
section
namespace Go.Proofs.Ytncogaikiceidaa
open Go.RowKit
set_option linter.unusedSimpArgs false
set_option linter.unusedVariables false
set_option linter.unnecessarySimpa false
section
/-! ### How many areas -/
def madeSum : List MapM → Int
  | [] => 0
  | x :: l => x.made + madeSum l
theorem madeSum_set : ∀ (t : List MapM) (i : Nat) (x : MapM) (h : i < t.length), madeSum (t.set i x) = madeSum t - t[i].made + x.made
  | a :: t, 0, x, _ => by simp only [List.set_cons_zero, madeSum, List.getElem_cons_zero]; omega
  | a :: t, i + 1, x, h => by
    simp only [List.set_cons_succ, madeSum, List.getElem_cons_succ]
    rw [madeSum_set t i x (by simpa using h)]
    omega
theorem madeSum_le : ∀ (t : List MapM), (∀ x ∈ t, x.Ok) → madeSum t ≤ 1024 * t.length
  | [], _ => by simp [madeSum]
  | a :: t, h => by
    have h1 := (h a (List.mem_cons_self ..)).made
    have h2 := madeSum_le t (fun x hx => h x (List.mem_cons_of_mem _ hx))
    simp only [madeSum, List.length_cons]
    omega
theorem fillM_len (i s : Int) : ∀ (val : List Int) (mem : List AreaM) (k : Nat), (fillM mem i s k val).length = mem.length
  | [], _, _ => rfl
  | v :: l, mem, k => by rw [fillM, fillM_len i s l, storeM_len]
theorem makeM_ok (mem : List AreaM) (a : Int) (b : List Int) (x y : Bool) (h : (makeM mem a b x y).2 = 0) : (makeM mem a b x y).1.length = mem.length + 1 := by
  by_cases h1 : a < 1 ∨ 2147483648 ≤ a ∨ 0 ≤ idxM (mem.map AreaM.id) a 0
  · unfold makeM at h; rw [if_pos h1] at h; simp at h
  · by_cases h2 : 1024 < b.length
    · unfold makeM at h; rw [if_neg h1, if_pos h2] at h; simp at h
    · unfold makeM; rw [if_neg h1, if_neg h2]; simp
/-- What was put keeps the count. -/
theorem putM_few (mem : List AreaM) (t : List MapM) (i : Int) (key val : List Int) (flags : Int) (h : (mem.length : Int) ≤ 2 + madeSum t) : ((putM mem t i key val flags).1.length : Int) ≤ 2 + madeSum (putM mem t i key val flags).2.1 := by
  unfold putM
  split
  · exact h
  rename_i hm
  have hmy : mayM t i key = true := by
    cases hq : mayM t i key with
    | true => rfl
    | false => exact absurd (.inl hq) hm
  obtain ⟨k, rfl, hk, -⟩ := mayM_in hmy
  simp only
  split
  · exact h
  split
  · exact h
  split
  · exact h
  split
  · rw [fillM_len]; exact h
  split
  · exact h
  split
  · exact h
  split
  · exact h
  split
  · exact h
  rename_i hmk
  have := makeM_ok _ _ _ _ _ (Decidable.not_not.1 hmk)
  simp only [Int.toNat_natCast] at this ⊢
  rw [madeSum_set _ _ _ hk, this, mapAt_get hk]
  simp only
  omega
theorem dropM_made (t : List MapM) (i : Int) (key : List Int) : madeSum (dropM t i key).1 = madeSum t := by
  unfold dropM
  split
  · rfl
  rename_i hm
  obtain ⟨k, rfl, hk, -⟩ := mayM_in (by simpa using hm)
  simp only
  split
  · rfl
  split
  · rfl
  simp only [Int.toNat_natCast]
  rw [madeSum_set _ _ _ hk, mapAt_get hk]
  simp only
  omega
theorem str_lt : ∀ (a b : List Int), (∀ x ∈ a, isByte x) → (∀ x ∈ b, isByte x) → Op.bytesLess (a.map fun n => UInt8.ofNat n.toNat) (b.map fun n => UInt8.ofNat n.toNat) = lessB a b
  | [], [], _, _ => rfl
  | [], _ :: _, _, _ => rfl
  | _ :: _, [], _, _ => rfl
  | x :: a, y :: b, ha, hb => by
    have hx := ha x (by simp)
    have hy := hb y (by simp)
    have ih := str_lt a b (fun z hz => ha z (by simp [hz])) (fun z hz => hb z (by simp [hz]))
    simp only [List.map_cons, Op.bytesLess, lessB]
    rw [ih]
    obtain ⟨x1, x2⟩ := hx
    obtain ⟨y1, y2⟩ := hy
    have hl : (UInt8.ofNat x.toNat < UInt8.ofNat y.toNat) ↔ x < y := by
      rw [UInt8.lt_iff_toNat_lt]
      simp only [UInt8.toNat_ofNat']
      omega
    by_cases he : x = y
    · subst he
      rw [if_pos rfl]
      have : ¬ (UInt8.ofNat x.toNat < UInt8.ofNat x.toNat) := fun h => by have := hl.1 h; omega
      simp [this]
    · rw [if_neg he]
      have hne : ¬ UInt8.ofNat x.toNat = UInt8.ofNat y.toNat := fun h => he (byte_inj ⟨x1, x2⟩ ⟨y1, y2⟩ h)
      simp [hne, hl]
theorem putPos_le : ∀ (l : List KeyM) (key : List Int), putPos l key ≤ l.length
  | [], _ => Nat.le_refl _
  | x :: l, key => by
    rw [putPos]
    split
    · simpa using putPos_le l key
    · simp
end
section
theorem load_part (m : MchM) (x : Insn) (w : What) : (loadMM m x w).1.mem = m.mem ∧ (loadMM m x w).1.tab = m.tab ∧ (loadMM m x w).1.calls = m.calls ∧ (loadMM m x w).1.steps = m.steps := by
  unfold loadMM
  split
  · exact ⟨rfl, rfl, rfl, rfl⟩
  · simp only; split <;> exact ⟨rfl, rfl, rfl, rfl⟩
theorem arith_part (m : MchM) (x : Insn) (w : What) : (arithMM m x w).1.mem = m.mem ∧ (arithMM m x w).1.tab = m.tab ∧ (arithMM m x w).1.calls = m.calls ∧ (arithMM m x w).1.steps = m.steps := by
  unfold arithMM
  split <;> exact ⟨rfl, rfl, rfl, rfl⟩
theorem store_part (m : MchM) (x : Insn) (w : What) : (storeMM m x w).1.mem.length = m.mem.length ∧ (storeMM m x w).1.tab = m.tab ∧ (storeMM m x w).1.calls = m.calls ∧ (storeMM m x w).1.steps = m.steps := by
  unfold storeMM
  split
  · exact ⟨rfl, rfl, rfl, rfl⟩
  · simp only
    split
    · split
      · exact ⟨rfl, rfl, rfl, rfl⟩
      · exact ⟨storeM_len _ _ _ _, rfl, rfl, rfl⟩
    · exact ⟨storeM_len _ _ _ _, rfl, rfl, rfl⟩
/-- What each step keeps of the counts. -/
structure Few (m : MchM) : Prop where
  mem : (m.mem.length : Int) ≤ 2 + madeSum m.tab
  calls : m.calls.length ≤ m.steps
theorem call_few (m : MchM) (defs : List DefM) (id : Int) (h : Few m) : ((callM m defs id).1.mem.length : Int) ≤ 2 + madeSum (callM m defs id).1.tab ∧ (callM m defs id).1.calls.length ≤ m.steps + 1 ∧ (callM m defs id).1.steps = m.steps := by
  have hm := h.mem
  have hc := h.calls
  unfold callM
  split
  · exact ⟨hm, Nat.le_succ_of_le hc, rfl⟩
  · simp only
    split
    · exact ⟨hm, Nat.le_succ_of_le hc, rfl⟩
    split
    · split
      · exact ⟨hm, Nat.le_succ_of_le hc, rfl⟩
      · exact ⟨hm, by simp [afterCall, putR]; exact hc, rfl⟩
    split
    · split
      · exact ⟨putM_few _ _ _ _ _ _ hm, Nat.le_succ_of_le hc, rfl⟩
      · exact ⟨putM_few _ _ _ _ _ _ hm, by simp [afterCall, putR]; exact hc, rfl⟩
    split
    · split
      · exact ⟨by rw [dropM_made]; exact hm, Nat.le_succ_of_le hc, rfl⟩
      · exact ⟨by simp only [afterCall, putR]; rw [dropM_made]; exact hm, by simp [afterCall, putR]; exact hc, rfl⟩
    split
    · split
      · exact ⟨hm, Nat.le_succ_of_le hc, rfl⟩
      · exact ⟨hm, by simp [afterCall, putR]; exact hc, rfl⟩
    · exact ⟨hm, by simp [afterCall, putR]; exact hc, rfl⟩
structure FewN (n : Nat) (m : MchM) : Prop where
  mem : (m.mem.length : Int) ≤ 2 + madeSum m.tab
  calls : m.calls.length ≤ n + 1
  steps : m.steps = n
theorem does_few (m : MchM) (defs : List DefM) (x y : Insn) (w : What) (h : Few m) : FewN m.steps (doesM m defs x y w).1 := by
  have hm := h.mem
  have hc := h.calls
  have hx : ∀ i n, FewN m.steps (putR m i n) := fun i n => ⟨hm, Nat.le_succ_of_le hc, rfl⟩
  have h0 : FewN m.steps m := ⟨hm, Nat.le_succ_of_le hc, rfl⟩
  unfold doesM
  obtain ⟨a1, a2, a3, a4⟩ := arith_part m x w
  obtain ⟨l1, l2, l3, l4⟩ := load_part m x w
  obtain ⟨s1, s2, s3, s4⟩ := store_part m x w
  have hcl := call_few m defs x.imm h
  by_cases k1 : w.kind = 1
  · rw [if_pos k1]; exact ⟨by rw [a1, a2]; exact hm, by rw [a3]; exact Nat.le_succ_of_le hc, a4⟩
  rw [if_neg k1]
  by_cases k2 : w.kind = 2
  · rw [if_pos k2]
    by_cases q : setM m x.dst = false
    · rw [if_pos q]; exact h0
    · rw [if_neg q]; exact hx _ _
  rw [if_neg k2]
  by_cases k3 : w.kind = 3
  · rw [if_pos k3]; exact hx _ _
  rw [if_neg k3]
  by_cases k4 : w.kind = 4
  · rw [if_pos k4]
    by_cases q : (defs.length : Int) ≤ x.imm
    · rw [if_pos q]; exact h0
    · rw [if_neg q]; exact hx _ _
  rw [if_neg k4]
  by_cases k5 : w.kind = 5
  · rw [if_pos k5]; exact ⟨by rw [l1, l2]; exact hm, by rw [l3]; exact Nat.le_succ_of_le hc, l4⟩
  rw [if_neg k5]
  by_cases k6 : w.kind = 6 ∨ w.kind = 7 ∨ w.kind = 8
  · rw [if_pos k6]; exact ⟨by rw [s1, s2]; exact hm, by rw [s3]; exact Nat.le_succ_of_le hc, s4⟩
  rw [if_neg k6]
  by_cases k9 : w.kind = 9
  · rw [if_pos k9]; exact h0
  rw [if_neg k9]
  by_cases k10 : w.kind = 10
  · rw [if_pos k10]
    by_cases q : (secondM m x w).2 = false ∨ setM m x.dst = false
    · rw [if_pos q]; exact h0
    · rw [if_neg q]; exact h0
  rw [if_neg k10]
  by_cases k11 : w.kind = 11
  · rw [if_pos k11]; exact ⟨hcl.1, hcl.2.1, hcl.2.2⟩
  rw [if_neg k11]
  by_cases k12 : w.kind = 12
  · rw [if_pos k12]
    by_cases q : setM m 0 = false
    · rw [if_pos q]; exact h0
    · rw [if_neg q]; exact ⟨hm, Nat.le_succ_of_le hc, rfl⟩
  rw [if_neg k12]
  exact h0
/-- A step that is well keeps the counts. -/
theorem step_few (l : List Insn) (defs : List DefM) (m : MchM) (h : Few m) (he : (stepM l defs m).2 = 0) : Few (stepM l defs m).1 := by
  have hd := does_few m defs (at' l m.place) (at' l (m.place + 1)) (sem (at' l m.place)).1 h
  by_cases h1 : m.over = true
  · unfold stepM at he; rw [if_pos h1] at he; exact absurd he (by show ¬ (114 : Int) = 0; decide)
  · unfold stepM at he ⊢
    rw [if_neg h1] at he ⊢
    generalize doesM m defs (at' l m.place) (at' l (m.place + 1)) (sem (at' l m.place)).1 = q at *
    by_cases h2 : q.2.2 = 0
    · have h3 : ¬ q.2.2 ≠ 0 := fun h => h h2
      have e : (if q.2.2 ≠ 0 then ({ q.1 with over := true, code := q.2.2 }, q.2.2) else ({ q.1 with place := nextM l m q, steps := m.steps + 1 }, 0) : MchM × Int) = ({ q.1 with place := nextM l m q, steps := m.steps + 1 }, 0) := if_neg h3
      show Few (if q.2.2 ≠ 0 then ({ q.1 with over := true, code := q.2.2 }, q.2.2) else ({ q.1 with place := nextM l m q, steps := m.steps + 1 }, 0) : MchM × Int).1
      rw [e]
      exact ⟨hd.mem, hd.calls⟩
    · have h3 : q.2.2 ≠ 0 := h2
      have e : (if q.2.2 ≠ 0 then ({ q.1 with over := true, code := q.2.2 }, q.2.2) else ({ q.1 with place := nextM l m q, steps := m.steps + 1 }, 0) : MchM × Int) = ({ q.1 with over := true, code := q.2.2 }, q.2.2) := if_pos h3
      have he2 : (if q.2.2 ≠ 0 then ({ q.1 with over := true, code := q.2.2 }, q.2.2) else ({ q.1 with place := nextM l m q, steps := m.steps + 1 }, 0) : MchM × Int).2 = 0 := he
      rw [e] at he2
      exact absurd he2 h2
end
end Go.Proofs.Ytncogaikiceidaa
end
section
namespace Go.Proofs.Ytncogaikiceidaa
open Go.RowKit
set_option linter.unusedSimpArgs false
set_option linter.unusedVariables false
set_option linter.unnecessarySimpa false
section
/-- Whose blocks memory and tables are. -/
def Own.memTab (own : Own) : Nat → Prop := fun b => ∃ r, own b = some r ∧ (r.isMem ∨ r.isTab)
theorem Own.areas_memTab {own : Own} {b : Nat} (h : own.areas b) : own.memTab b := by
  obtain ⟨k, e | e⟩ := h <;> exact ⟨_, e, .inl trivial⟩
section
variable {own own' : Own} {w w' : World} {pM : Nat} {g : Gh} {l : List Insn} {defs : List DefM} {m : MchM}
/-- Memory and tables become others. -/
theorem MchIn.turn (h : MchIn own w pM g l defs m) {X : Nat → Prop} (hk : Kept X w w') (hX : ∀ b, X b → own.memTab b) (ho : ∀ b, b < w.heap.size → own' b = own b) {vm' vt' : Value} {sl' : Nat → Value × Value} {ks' : Nat → Value} {mem' : List AreaM} {tab' : List MapM}
    (hm : MemIn own' w' g.pm vm' sl' mem') (ht : TabIn own' w' g.pt g.pm vt' ks' tab') : MchIn own' w' pM { g with vm := vm', vt := vt', sl := sl', ks := ks' } l defs { m with mem := mem', tab := tab' } := by
  have hx : ∀ b r, own b = some r → ¬ (r.isMem ∨ r.isTab) → ¬ X b := fun b r hb hr hxb => by
    obtain ⟨r2, e, h2⟩ := hX b hxb
    rw [hb] at e; cases e; exact hr h2
  have hn : ∀ b, own b = none → ¬ X b := fun b hb hxb => by
    obtain ⟨r2, e, -⟩ := hX b hxb
    rw [hb] at e; cases e
  have lt : ∀ {A : Option Addr} {n k : Nat} {xs : List Value}, SAt w w.heap.size k A n xs → 0 < n → ∀ b o, A = some ⟨b, o, none⟩ → b < w.heap.size := fun hs hn b o e => by
    obtain ⟨b', o', e', hb, -⟩ := hs.2 hn
    rw [e] at e'; cases e'; exact hb
  refine ⟨by rw [ho pM h.blk.lt]; exact h.role, h.lr, h.ls, h.u64, h.blk.kept hk (hx pM _ h.role (by simp [Role.isMem, Role.isTab])), ?_, ?_, ?_, ?_, hm, ht, ?_, h.drawsU, ?_, ?_⟩
  · obtain ⟨c, e, hs⟩ := h.code
    exact ⟨c, e, (hs.keep2 (Nat.le_refl _) hk (fun h0 b o e => hn b (h.codeFar h0 b o e))).more2 hk.size⟩
  · obtain ⟨c, e, hs⟩ := h.code
    intro h0 b o e
    rw [ho b (lt hs h0 b o e)]
    exact h.codeFar h0 b o e
  · obtain ⟨c, e, hs⟩ := h.maps
    exact ⟨c, e, (hs.keep2 (Nat.le_refl _) hk (fun h0 b o e => hn b (h.mapsFar h0 b o e))).more2 hk.size⟩
  · obtain ⟨c, e, hs⟩ := h.maps
    intro h0 b o e
    rw [ho b (lt hs h0 b o e)]
    exact h.mapsFar h0 b o e
  · exact h.draws.kept hk ho (fun b hb => hx b _ hb (by simp [Role.isMem, Role.isTab]))
  · exact h.calls.kept hk ho (fun b hb => hx b _ hb (by simp [Role.isMem, Role.isTab]))
  · intro i hi
    have hd := h.data i hi
    exact ⟨hd.key.kept hk ho (fun b hb => hx b _ hb (by simp [Role.isMem, Role.isTab])), hd.val.kept hk ho (fun b hb => hx b _ hb (by simp [Role.isMem, Role.isTab])), hd.n.kept hk ho (fun b hb => hx b _ hb (by simp [Role.isMem, Role.isTab]))⟩
/-- Areas become others. -/
theorem MchIn.turnMem (h : MchIn own w pM g l defs m) (hk : Kept own.areas w w') {mem' : List AreaM} (hm : MemIn own w' g.pm g.vm g.sl mem') : MchIn own w' pM g l defs { m with mem := mem' } :=
  h.turn hk (fun b hb => Own.areas_memTab hb) (fun _ _ => rfl) hm (h.tab.kept hk (fun _ _ => rfl) (fun b r hb hr => Own.areas_not hb hr))
end
end
section
theorem loadM_u64 {mem : List AreaM} (h : ∀ a ∈ mem, a.Ok) {a size : Int} (ha : 0 ≤ a) (hf : Fits size) : U64 (loadM mem a size).1 := by
  unfold loadM
  have hs : 0 ≤ size ∧ size ≤ 8 := by unfold Fits at hf; omega
  split
  · exact (show U64 0 from ⟨by decide, by decide⟩)
  split
  · exact (show U64 0 from ⟨by decide, by decide⟩)
  rename_i h1 h2
  obtain ⟨b1, b2⟩ := read_bytes h ha hs.1 (by omega)
  have hl := b2 (Decidable.not_not.1 h2)
  obtain ⟨c1, c2⟩ := leM_bound b1
  refine ⟨c1, ?_⟩
  show leM (readM mem a size).1 ≤ _
  rw [hl] at c2
  unfold Fits at hf
  rcases hf with rfl | rfl | rfl | rfl
  · have : (256 : Int) ^ (1 : Int).toNat = 256 := by decide
    omega
  · have : (256 : Int) ^ (2 : Int).toNat = 65536 := by decide
    omega
  · have : (256 : Int) ^ (4 : Int).toNat = 4294967296 := by decide
    omega
  · have : (256 : Int) ^ (8 : Int).toNat = 18446744073709551616 := by decide
    omega
theorem sdrew2 {B1 B2 : Nat} {W1 W2 w : World} (h : Below B1 W1 w ∧ Below B2 W2 w) : Below B1 W1 w.drew ∧ Below B2 W2 w.drew := ⟨h.1.drew, h.2.drew⟩
theorem pstep2 {B1 B2 : Nat} {W1 W2 w w' : World} (h : Below B1 W1 w ∧ Below B2 W2 w) (h1 : B1 ≤ W1.heap.size) (h2 : B2 ≤ W2.heap.size) (hb : Below w.heap.size w w') : Below B1 W1 w' ∧ Below B2 W2 w' :=
  ⟨h.1.trans (hb.mono (Nat.le_trans h1 h.1.size)), h.2.trans (hb.mono (Nat.le_trans h2 h.2.size))⟩
set_option maxRecDepth 100000 in
set_option maxHeartbeats 1000000 in
theorem rload11 {own : Own} {w : World} {pM : Nat} {g : Gh} {l : List Insn} {defs : List DefM} {m : MchM} (h : MchIn own w pM g l defs m) (hn : m.mem.length ≤ 1000000) (x : Insn) (s : What) (i d : Nat) (hsrc : x.src = i) (hi : i < 11) (hdst : x.dst = d) (hd : d < 11) (hf : Fits s.size) :
    Calls Try.prog 67 #[.pointer (some ⟨pM, 0, none⟩), x.val, s.val] w fun e w' => e = .returned (.int .i64 (loadMM m x s).2) ∧ MchIn own w' pM g l defs (loadMM m x s).1 ∧ Kept (fun b => b = pM) w w' := by
  have hB := fun w' (hb : Below w.heap.size w w') => h.below hb
  have hK := fun w' (hb : Below w.heap.size w w') => Kept.of (X := fun b => b = pM) hb (Nat.le_refl _)
  have hadr := fun w' (hb : Below w.heap.size w w') => raddr11 (h.below hb) i hi x
  have hau : U64 (addrM m i x) := ⟨by simp only [addrM]; omega, by simp only [addrM]; omega⟩
  have hld := fun w' (hb : Below w.heap.size w w') => rload8 (h.below hb).mem hn (addrM m i x) s.size hau hf
  have hlu : U64 (loadM m.mem (addrM m i x) s.size).1 := loadM_u64 h.mem.ok hau.1 hf
  have hsg := fun w' => rsignG (loadM m.mem (addrM m i x) s.size).1 hlu (8 * s.size) (by unfold Fits at hf; unfold Wide; omega) w'
  have hsu := signG_u64 (loadM m.mem (addrM m i x) s.size).1 hlu (8 * s.size) (by unfold Fits at hf; unfold Wide; omega)
  have hput := fun n hn w' (hb : Below w.heap.size w w') => rput11 (h.below hb) d hd n hn
  have hr : ∀ w', Below w.heap.size w w' → w'.cell? ⟨pM, 12 + i, none⟩ = some (.bool (setM m i)) := fun w' hb => (h.blk.below hb).cell (mch_s h.lr h.ls i hi)
  have hpm : ∀ w', Below w.heap.size w w' → w'.cell? ⟨pM, 23, none⟩ = some (.pointer (some ⟨g.pm, 0, none⟩)) := fun w' hb => (h.blk.below hb).cell (mch_hi h.lr h.ls 0)
  obtain ⟨x0, x1, x2, x3, x4⟩ := x
  obtain ⟨k, op, wd, rg, sg, sz⟩ := s
  simp only at hsrc hdst
  subst hsrc
  subst hdst
  simp only at hadr hld hsg hsu hf
  have hL0 : loadMM m ⟨x0, d, i, x3, x4⟩ ⟨k, op, wd, rg, sg, sz⟩ = if setM m i = false then (m, 110) else if (loadM m.mem (addrM m i ⟨x0, d, i, x3, x4⟩) sz).2 ≠ 0 then (m, (loadM m.mem (addrM m i ⟨x0, d, i, x3, x4⟩) sz).2) else (putR m d (if sg = true then signG (loadM m.mem (addrM m i ⟨x0, d, i, x3, x4⟩) sz).1 (8 * sz) else (loadM m.mem (addrM m i ⟨x0, d, i, x3, x4⟩) sz).1), 0) := rfl
  generalize loadMM m _ _ = LM at *
  generalize addrM m i _ = ad at *
  generalize (loadM m.mem ad sz).1 = n at *
  generalize (loadM m.mem ad sz).2 = er at *
  generalize setM m i = b at *
  obtain ⟨hW0, hx, hy⟩ := box2 w [.int .u8 x0, .int .u8 d, .int .u8 i, .int .i16 x3, .int .i32 x4] [.int .u8 k, .int .u8 op, .bool wd, .bool rg, .bool sg, .int .i64 sz] 40 42
  have hi2 : (i : Int) < 11 := by omega
  clear h
  go_enter Try.func67, Try.ntmps67
  go_upto_region 1 with fail
  generalize hW : (w.alloc (.cells #[.int .u8 x0, .int .u8 d, .int .u8 i, .int .i16 x3, .int .i32 x4] 40)).alloc (.cells #[.int .u8 k, .int .u8 op, .bool wd, .bool rg, .bool sg, .int .i64 sz] 42) = W at *
  clear hW
  have hrW := Below.refl W.heap.size W
  have hbd := hW0.drew
  have r0 := hr _ hbd
  have a2 := hx _ hrW.drew 2 _ rfl
  refine wp_region_still_lit (by kernel_rfl) (by kernel_rfl) ?_
  change wpStill _ _ W.drew _ _ _
  repeat still_step
  refine wpStill_nil ?_
  have hS0 : Below w.heap.size w ({ heap := W.heap, tape := W.tape, drawn := W.drawn + 1, os := W.os, output := W.output } : World) ∧ Below W.heap.size W ({ heap := W.heap, tape := W.tape, drawn := W.drawn + 1, os := W.os, output := W.output } : World) := ⟨hbd, hrW.drew⟩
  clear r0 a2 hbd
  generalize ({ heap := W.heap, tape := W.tape, drawn := W.drawn + 1, os := W.os, output := W.output } : World) = V at *
  cases b
  · have hL := Lib.hid (show LM = (m, 110) from by rw [hL0, if_pos rfl])
    have hBd := hB _ hS0.1
    have hKd := hK _ hS0.1
    clear hL0 hput hsg hld hadr hr hpm
    go_wp2_with fail
    go_ret
    rw [hL.out]
    exact ⟨rfl, hBd, hKd⟩
  · rw [if_neg (by decide)] at hL0
    go_upto_region 1 with fail
    go_region_held3 (fun w' => Below w.heap.size w w' ∧ Below W.heap.size W w')
      (first | assumption | exact sdrew2 (by assumption))
      (first | (go_at_call 80; refine (hadr _ (by first | exact (show _ ∧ _ by assumption).1 | exact (sdrew2 (show _ ∧ _ by assumption)).1)).mono ?_; rintro e w1 ⟨rfl, hc1⟩; have hS1 := pstep2 (show Below w.heap.size w _ ∧ Below W.heap.size W _ by first | assumption | exact sdrew2 (by assumption)) (Nat.le_refl _) (Nat.le_refl _) hc1) | (go_at_call 79; refine (hld _ (by first | exact (show _ ∧ _ by assumption).1 | exact (sdrew2 (show _ ∧ _ by assumption)).1)).mono ?_; rintro e w2 ⟨rfl, hc2⟩; have hS2 := pstep2 (show Below w.heap.size w _ ∧ Below W.heap.size W _ by first | assumption | exact sdrew2 (by assumption)) (Nat.le_refl _) (Nat.le_refl _) hc2))
    all_goals
      rename_i hS2
      have hBd := hB _ hS2.1
      have hKd := hK _ hS2.1
      have hx1 := hx _ hS2.2 1 _ rfl
      have hy4 := hy _ hS2.2 4 _ rfl
      have hy5 := hy _ hS2.2 5 _ rfl
      have h8 : IntKind.i64.wrap (8 * sz) = 8 * sz := by unfold Fits at hf; rcases hf with rfl | rfl | rfl | rfl <;> rfl
      by_cases he : er = 0
      · subst he
        rw [if_neg (by simp)] at hL0
        cases sg
        · rw [if_neg (by decide)] at hL0
          have hL := Lib.hid hL0
          clear hL0 hld hadr hr hpm
          go_wp2_with fail
          refine (hput n hlu _ hS2.1).mono ?_
          rintro e w3 ⟨rfl, hM3, hK3⟩
          go_wp2_with fail
          go_ret
          rw [hL.out]
          exact ⟨rfl, hM3, hKd.trans hK3 (fun _ _ h => h)⟩
        · rw [if_pos rfl] at hL0
          have hL := Lib.hid hL0
          clear hL0 hld hadr hr hpm
          go_wp2_with fail
          refine (hsg _).mono ?_
          rintro e w3 ⟨rfl, rfl⟩
          go_wp2_with fail
          refine (hput _ hsu _ hS2.1).mono ?_
          rintro e w4 ⟨rfl, hM3, hK3⟩
          go_wp2_with fail
          go_ret
          rw [hL.out]
          exact ⟨rfl, hM3, hKd.trans hK3 (fun _ _ h => h)⟩
      · rw [if_pos he] at hL0
        have hL := Lib.hid hL0
        clear hL0 hld hadr hr hpm
        go_wp2_with fail
        go_ret
        rw [hL.out]
        exact ⟨rfl, hBd, hKd⟩
end
end Go.Proofs.Ytncogaikiceidaa
end
