/- The law CodeCut, walked. No statement is proved here. -/
import Derived.Test.YtgbmeckhagklnaaZeros
namespace Go.Proofs.Ytgbmeckhagklnaa
open Go.RowKit
set_option linter.unusedSimpArgs false
set_option linter.unusedVariables false
set_option linter.unnecessarySimpa false
section
variable {P : Program} {ops : Array Oper} {rest : List Oper} {o : Oper} {a : Act} {Q : Exit → Act → World → Prop}
theorem wpList_append_zeros (hgd : o.guard = none) (s x : Operand)
    (ho : o.op = .call { callee := .builtin .append, args := #[s, x], argTypes := #[26, 3] }) (base : Nat) (i : TypeInfo) (hi : Try.prog.info? 5 = some i) (hz : i.zero = some (.int .u8 0)) (hsize : i.size = 1) (hby : i.bytes = 1)
    {w : World} (g n cap : Nat) (xs : List Value) (hs : a.eval s = .slice (some ⟨g, 0, none⟩) n cap) (hown : w.ownsRow base 5 1 (.slice (some ⟨g, 0, none⟩) n cap) n xs) (m : Nat) (hx : a.eval x = .int .i64 (m : Int)) (h0 : 0 < m) (hn : n + m ≤ 1000000) (hbase : base ≤ w.heap.size)
    (h : ∀ A' c' w1, w1.ownsRow base 5 1 (.slice A' (n + m) c') (n + m) (xs ++ List.replicate m (.int .u8 0)) → Below base w w1 → wpList Try.prog ops Q rest (a.put o.dst (.slice A' (n + m) c')) w1) : wpList Try.prog ops Q (o :: rest) a w := by
  refine wpList_plain hgd fun K hK => ?_
  obtain ⟨A', c', w1, hrun, h2, h3⟩ := own_zeros w base o.type i hi hz hsize hby g n cap xs hown m h0 hn hbase
  unfold Oper.wp execOp
  simp only [ho, resolve, invoke, builtin, Sem.run_bind, Sem.run_pure, Result.andThen_ok, List.map_toArray, List.map_cons, List.map_nil, hs, hx, hrun]
  exact hK _ _ (h A' c' w1 h2 h3)
end
theorem own_some {w : World} {base e size n c : Nat} {A : Option Addr} {xs : List Value} (h : w.ownsRow base e size (.slice A n c) n xs) (hn : 0 < n) : ∃ g, A = some ⟨g, 0, none⟩ ∧ base ≤ g ∧ g < w.heap.size := by
  rcases h.2 with ⟨hv, h0⟩ | ⟨g, cap, cur, hv, hb, hh, _⟩
  · omega
  · injection hv with hA
    exact ⟨g, hA, hb, (Array.getElem?_eq_some_iff.1 hh).1⟩
theorem tmod_nat (a n : Nat) : Int.tmod (a : Int) (n : Int) = ((a % n : Nat) : Int) := rfl
theorem bytesV_set {l : List Int} {k : Nat} (v : Int) : (bytesV l).set k (.int .u8 v) = bytesV (l.set k v) := by simp [bytesV, List.map_set]
theorem bytesV_zeros (l : List Int) (m : Nat) : bytesV l ++ List.replicate m (Value.int .u8 0) = bytesV (l ++ List.replicate m 0) := by simp [bytesV]
set_option maxRecDepth 100000 in
set_option maxHeartbeats 16000000 in
theorem codeCut_walk (l : List Insn) (hl : ∀ x ∈ l, x.Ok) (A : Option Addr) (c : Nat) (hc : l.length ≤ c) (hc' : c ≤ maxLen) (x : Nat) (hx : x ≤ 255) (y : Int) (hy : isByte y) (a : Nat) (ha : a ≤ 65535) (w : World)
    (h : SAt w w.heap.size 5 A l.length (insnsV l)) :
    Calls Try.prog 16 #[.slice A l.length c, .int .u8 x, .int .u8 y, .int .u16 a] w fun e w' => e = .returned (.bool true) ∧ Below w.heap.size w w' := by
  obtain ⟨i0, hinf, hz0, hz1, hz2⟩ := info_parts info5
  have hf := few_is l A c hc hc'
  have hm := h.few 520
  have hml : ∀ x ∈ l.take 520, x.Ok := fun x hx => hl x (List.mem_of_mem_take hx)
  have hmn : (l.take 520).length ≤ 520 := by simp; omega
  have hfew : ∀ w1, Below w.heap.size w w1 → Calls Try.prog 43 #[.slice A l.length c] w1 fun e w' => e = .returned (.slice A (l.take 520).length c) ∧ w' = w1 := fun w1 hb1 => hf w1 ((h.below hb1).more hb1.size)
  clear hf
  generalize l.take 520 = m at *
  clear h hl hc hc'
  go_enter Try.func16, Try.ntmps16
  go_wp2_with fail
  refine (shown07_any _).mono ?_
  rintro e w1 ⟨rfl, hb1⟩
  go_wp2_with fail
  refine (hfew _ hb1).mono ?_
  rintro e w1' ⟨rfl, rfl⟩
  have hen := encode_any m hml A c (by omega) w1' ((hm.below hb1).more hb1.size)
  go_wp2_with fail
  refine hen.mono ?_
  rintro e w2 ⟨P, pc, rfl, hps, hpc, hpm, hb2⟩
  clear hen
  have hb12 := hb1.trans (hb2.mono hb1.size)
  by_cases he : (checkM m).2 = 0
  · have hE : encM m = (encL m, 0, 0) := by unfold encM; rw [if_pos he]
    have hp := check_prog he
    have hreg := hp.all_regs
    have hby := encL_ok hml hreg
    have hl8 := encL_length m
    have h1 := hp.pos
    have hcut : ∀ k, k < (encL m).length → (decM ((encL m).set k (bits .xor .u8 ((encL m).getD k 0) y))).2.2 = 0 → ((decM ((encL m).set k (bits .xor .u8 ((encL m).getD k 0) y))).1 = m ↔ y = 0) := fun k hk hd => by
      have e : (encL m).getD k 0 = (encL m)[k] := by simp [List.getD_eq_getElem?_getD, hk]
      rw [e] at hd ⊢
      exact cut_law hml he hk hy hd
    have hget : ∀ k, k < (encL m).length → (bytesV (encL m))[k]? = some (.int .u8 ((encL m).getD k 0)) ∧ isByte ((encL m).getD k 0) := fun k hk => by
      have e : (encL m).getD k 0 = (encL m)[k] := by simp [List.getD_eq_getElem?_getD, hk]
      rw [e]
      exact ⟨by simp [bytesV, List.getElem?_eq_getElem hk], hby _ (List.getElem_mem hk)⟩
    rw [hE] at hps hpc ⊢
    simp only at hps hpc ⊢
    clear hE hpm hpc hp hreg he
    generalize hpe : encL m = p at *
    have HP := Lib.hid hpe
    clear hpe
    generalize hpl : p.length = pn at *
    have HL := Lib.hid hpl
    clear hpl
    have hpn : 8 ≤ pn := by omega
    have hpn2 : pn ≤ 4160 := by omega
    have H8 := Lib.hid hl8
    clear hl8
    have hown0 := own_new w2 w2.heap.size #[] 5 1 0 0 w2.heap.size rfl (Nat.le_refl _) (Nat.le_refl _) (by simp [maxLen]) rfl
    simp only [List.take_zero, Nat.zero_mul] at hown0
    have hbA := (Below.refl w2.heap.size w2).alloc (Nat.le_refl _) (.cells #[] 5)
    have hszA := hbA.size
    have hat := hps.alloc (Nat.le_refl _) (.cells #[] 5)
    go_wp2_with (at_builtin; refine wpList_append_sat rfl (.tmp 41) (.tmp 42) 26 rfl w2.heap.size 5 i0 (.int .u8 0) 1 1 Try.underlying26 hinf hz0 hz1 hz2 rfl (by decide) _ 0 0 _ rfl hown0 _ P pn pc _ rfl hat (bytes_one _) ?c2 ?c3 ?c4 ?c5)
    case c2 => simp only [maxLen]; omega
    case c3 => omega
    case c4 => exact hszA
    case c5 =>
      intro X xc w3 hown h3 hb3 h5
      clear h3 h5 hown0 hat
      try simp only [Nat.zero_add, List.nil_append] at hown
      try simp only [Nat.zero_add]
      obtain ⟨g1, rfl, hg1, hg1'⟩ := own_some hown (by omega)
      have hbB := hbA.trans hb3
      go_wp2_with (at_builtin; refine wpList_append_zeros rfl (.tmp 43) (.tmp 47) rfl w2.heap.size i0 hinf hz0 hz1 hz2 g1 pn xc _ rfl hown (x % 7 + 1) ?d1 (by omega) (by omega) ?d2 ?d3)
      case d1 => first | rfl | simp
      case d2 => exact hbB.size
      case d3 =>
        intro X2 xc2 w4 hown2 hb4
        clear hown
        rw [bytesV_zeros] at hown2
        have hbC := hbB.trans hb4
        have hlen2 : (p ++ List.replicate (x % 7 + 1) 0).length = pn + (x % 7 + 1) := by rw [List.length_append, HL.out, List.length_replicate]
        have hby2 : ∀ b ∈ p ++ List.replicate (x % 7 + 1) (0 : Int), isByte b := by
          intro b hb
          rcases List.mem_append.1 hb with hb | hb
          · exact hby b hb
          · rw [List.eq_of_mem_replicate hb]; exact ⟨by omega, by omega⟩
        have hde := decode_any (p ++ List.replicate (x % 7 + 1) 0) hby2 X2 xc2 (by rw [hlen2]; exact own_cap hown2) (own_max hown2) w4 (by rw [hlen2]; exact SAt.own hown2)
        rw [hlen2, decM_no (.inl (by rw [hlen2]; have := H8.out; omega))] at hde
        clear hown2 hby2 hlen2
        go_wp2_with fail
        refine Calls.mono hde ?_
        rintro e w5 ⟨D, dc, rfl, hds, hdc, hb5⟩
        clear hde hds hdc
        have hbD := hbC.trans (hb5.mono hbC.size)
        have hps5 := hps.below hbD
        have hown3 := own_new w5 w5.heap.size #[] 5 1 0 0 w2.heap.size rfl hbD.size (Nat.le_refl _) (by simp [maxLen]) rfl
        simp only [List.take_zero, Nat.zero_mul] at hown3
        have hbE := hbD.alloc hbD.size (.cells #[] 5)
        have hszE := hbE.size
        have hat5 := (hps5.more hbD.size).alloc (Nat.le_refl _) (.cells #[] 5)
        simp only [List.length_nil]
        go_wp2_with (at_builtin; refine wpList_append_sat rfl (.tmp 53) (.tmp 54) 26 rfl w2.heap.size 5 i0 (.int .u8 0) 1 1 Try.underlying26 hinf hz0 hz1 hz2 rfl (by decide) _ 0 0 _ rfl hown3 _ P pn pc _ rfl hat5 (bytes_one _) ?f2 ?f3 ?f4 ?f5)
        case f2 => simp only [maxLen]; omega
        case f3 => omega
        case f4 => exact hszE
        case f5 =>
          intro X3 xc3 w6 hown6 h3 hb6 h5
          clear h3 h5 hown3 hat5 hps5
          try simp only [Nat.zero_add, List.nil_append] at hown6
          try simp only [Nat.zero_add]
          obtain ⟨g3, rfl, hg3, hg3'⟩ := own_some hown6 (by omega)
          have hbF := hbE.trans hb6
          have hlt : a % pn < pn := Nat.mod_lt _ (by omega)
          have htm := tmod_nat a pn
          have hne : ¬ ((pn : Int) = 0) := by omega
          generalize hi : a % pn = k at *
          have hcell := hown6.cellAt k (by omega)
          have hfz := hown6.frozenAt k
          obtain ⟨hgk, hbk⟩ := hget k hlt
          rw [hgk] at hcell
          obtain ⟨hst, -⟩ := hown6.stored k (.int .u8 (bits .xor .u8 (p.getD k 0) y))
          rw [bytesV_set] at hst
          replace hcut := hcut k hlt
          have hxb := (xor_byte hbk hy).1
          have hbq : ∀ b ∈ p.set k (bits .xor .u8 (p.getD k 0) y), isByte b := by
            intro b hb
            rcases List.mem_or_eq_of_mem_set hb with h2 | h2
            · exact hby b h2
            · rw [h2]; exact hxb
          have hlq : (p.set k (bits .xor .u8 (p.getD k 0) y)).length = pn := by rw [List.length_set]; exact HL.out
          have hbG := hbF.setCell (p := ⟨g3, k, none⟩) hg3 (.int .u8 (bits .xor .u8 (p.getD k 0) y))
          generalize hpk : p.getD k 0 = pk at *
          generalize hxv : bits .xor .u8 pk y = xv at *
          generalize p.set k xv = q at *
          have hde2 := decode_any q hbq (some ⟨g3, 0, none⟩) xc3 (by rw [hlq]; exact own_cap hst) (own_max hst) (w6.setCell ⟨g3, k, none⟩ (.int .u8 xv)) (by rw [hlq]; exact SAt.own hst)
          rw [hlq] at hde2
          have hno := dec_no (b := q)
          clear hst hown6 hget hbq hgk
          generalize hW7 : w6.setCell ⟨g3, k, none⟩ (.int .u8 xv) = w7 at *
          have HW := Lib.hid hW7
          go_wp2_with fail
          refine hde2.mono ?_
          rintro e w8 ⟨D2, dc2, rfl, hds2, hdc2, hb8⟩
          clear hde2
          have hbH := hbG.trans (hb8.mono hbG.size)
          have hbI := hb12.trans (hbH.mono hb12.size)
          by_cases hd : (decM q).2.2 = 0
          · have hyn := hcut hd
            have hdl : (decM q).1.length ≤ 1000 := by
              unfold decM at *
              split
              · simp
              · split
                · rename_i h3 _
                  have := insns_len (b := q) (by omega)
                  simp only
                  omega
                · simp
            generalize decM q = r at *
            obtain ⟨r0, r1, r2⟩ := r
            simp only at hd hyn hdl hds2 hdc2 ⊢
            subst hd
            have hf8 := hfew w8 hbI
            have hsm := same_any r0 m D2 A dc2 c (by omega) (by omega) w8 hds2 ((hm.below hbI).more hbI.size)
            clear hfew hcut hno
            by_cases hy0 : y = 0
            · rw [decide_eq_true (hyn.2 hy0)] at hsm
              have hyB : (y == 0) = true := by simp [hy0]
              clear hy0 hyn
              go_wp2_with fail
              refine hf8.mono ?_
              rintro e w8' ⟨rfl, rfl⟩
              go_wp2_with fail
              refine hsm.mono ?_
              rintro e w9 ⟨rfl, hb9⟩
              have hbJ := hbI.trans (hb9.mono hbI.size)
              clear hsm hf8
              go_wp2_with fail
              go_ret
              exact ⟨rfl, hbJ⟩
            · rw [decide_eq_false (fun h => hy0 (hyn.1 h))] at hsm
              have hyB : (y == 0) = false := by simp [hy0]
              clear hy0 hyn
              go_wp2_with fail
              refine hf8.mono ?_
              rintro e w8' ⟨rfl, rfl⟩
              go_wp2_with fail
              refine hsm.mono ?_
              rintro e w9 ⟨rfl, hb9⟩
              have hbJ := hbI.trans (hb9.mono hbI.size)
              clear hsm hf8
              go_wp2_with fail
              go_ret
              exact ⟨rfl, hbJ⟩
          · have hnil := hno hd
            generalize decM q = r at *
            obtain ⟨r0, r1, r2⟩ := r
            simp only at hd hnil hds2 hdc2 ⊢
            subst hnil
            simp only [List.length_nil] at hds2 hdc2 ⊢
            clear hds2 hdc2 hcut hno
            go_wp2_with fail
            go_ret
            exact ⟨rfl, hbI⟩
  · have hE : encM m = ([], (checkM m).1, (checkM m).2) := by unfold encM; rw [if_neg he]
    rw [hE] at hps hpc ⊢
    simp only [List.length_nil] at hps hpc ⊢
    generalize checkM m = r at *
    obtain ⟨r0, r1⟩ := r
    simp only at he ⊢
    go_wp2_with fail
    go_ret
    exact ⟨by rw [show (r1 != 0) = true by simpa using he]; rfl, hb12⟩
end Go.Proofs.Ytgbmeckhagklnaa
