/- Decode, of the program. No statement is proved here. -/
import Derived.Test.YtgbmeckhagklnaaCheck
namespace Go.Proofs.Ytgbmeckhagklnaa
open Go.RowKit
set_option linter.unusedSimpArgs false
set_option linter.unusedVariables false
theorem info24 : (Try.prog.info? 24).map (fun i => (i.zero, i.size, i.bytes)) = some (some Insn.zero.val, 5, 12) := by kernel_rfl
theorem own_keep {w w' : World} {base e size n : Nat} {v : Value} {xs : List Value} (h : w.ownsRow base e size v n xs) (hb : Below w.heap.size w w') : w'.ownsRow base e size v n xs := by
  refine ⟨h.1, ?_⟩
  rcases h.2 with h0 | ⟨g', cap', cur, hv, hb', hh, r⟩
  · exact .inl h0
  · refine .inr ⟨g', cap', cur, hv, hb', ?_, r⟩
    rw [hb.block _ (Array.getElem?_eq_some_iff.1 hh).1, hh]
theorem take_part (l : List Int) (hl : ∀ b ∈ l, isByte b) (b o j c' : Nat) (hj : 8 * j + 8 ≤ l.length) (hc : 8 ≤ c') (w' : World) (h : SAt w' w'.heap.size 1 (some ⟨b, o, none⟩) l.length (bytesV l)) :
    Calls Try.prog 33 #[.slice (some ⟨b, o + 8 * j, none⟩) 8 c'] w' fun e w'' => e = .returned (.tuple #[(at' (insns l) j).val, .int .i64 0]) ∧ Below w'.heap.size w' w'' := by
  have hlen : ((l.drop (8 * j)).take 8).length = 8 := by rw [List.length_take, List.length_drop]; omega
  obtain ⟨b', o', e, hb', hp⟩ := h.part (i := 8 * j) (m := 8) (by omega) (by omega)
  simp only [Option.some.injEq, Addr.mk.injEq, and_true] at e
  obtain ⟨rfl, rfl⟩ := e
  have ht := take_any ((l.drop (8 * j)).take 8) (fun x hx => hl x (List.mem_of_mem_drop (List.mem_of_mem_take hx))) (some ⟨b, o + 8 * j, none⟩) c' (by omega) w' (by rw [hlen]; rw [bytesV, List.map_take, List.map_drop]; exact hp)
  obtain ⟨e1, e2⟩ := insns_at (j := j) (b := l) hj
  rw [hlen, ← e1, e2] at ht
  exact ht
/-- Behind Decode. -/
def DecOk (W : World) (r : List Insn × Int × Int) (e : Ending) (w' : World) : Prop :=
  ∃ A c, e = .returned (.tuple #[.slice A r.1.length c, .int .i64 r.2.1, .int .i64 r.2.2]) ∧ SAt w' w'.heap.size 5 A r.1.length (insnsV r.1) ∧ r.1.length ≤ c ∧ Below W.heap.size W w'
theorem decM_no {b : List Int} (h : ¬ b.length % 8 = 0 ∨ 4096 < b.length) : decM b = ([], 0, 70) := by unfold decM; rw [if_pos h]
theorem decM_on {b : List Int} (h8 : b.length % 8 = 0) (h : b.length ≤ 4096) : decM b = if (checkM (insns b)).2 = 0 then (insns b, 0, 0) else ([], (checkM (insns b)).1, (checkM (insns b)).2) := by
  unfold decM; rw [if_neg (by omega)]
set_option maxRecDepth 100000 in
set_option maxHeartbeats 4000000 in
theorem decode_any (l : List Int) (hl : ∀ b ∈ l, isByte b) (A : Option Addr) (c : Nat) (hc : l.length ≤ c) (hc' : c ≤ maxLen) (w : World) (h : SAt w w.heap.size 1 A l.length (bytesV l)) :
    Calls Try.prog 38 #[.slice A l.length c] w (DecOk w (decM l)) := by
  obtain ⟨i0, hinf, hz0, hz1, hz2⟩ := info_parts info24
  unfold maxLen at hc'
  by_cases h8 : l.length % 8 = 0
  · by_cases h4 : l.length ≤ 4096
    · have q8 : ((l.length : Int) % 8) = 0 := by omega
      have hil := insns_len h8
      have hok : ∀ x ∈ insns l, x.Ok := insns_ok (n := l.length / 8) (by omega) hl
      have HD := Lib.hid (decM_on h8 h4)
      go_enter Try.func38, Try.ntmps38
      go_wp2_with fail
      go_loopw [6, 5, 7, 8] (fun k v _ _ wr => ∃ (j : Nat) (B : Option Addr) (d : Nat), 8 * j ≤ l.length ∧ k = .int .i64 (8 * j : Nat) ∧ v = .slice B j d ∧ wr.ownsRow w.heap.size 24 5 (.slice B j d) j (insnsV ((insns l).take j)) ∧ Below w.heap.size w wr) (fun k _ _ _ _ => l.length - (intOf k).toNat)
      case atStart => exact ⟨0, _, _, by omega, rfl, rfl, World.ownsRow_nil _ _ _ _, Below.refl _ _⟩
      case round =>
        clear q8
        obtain ⟨j, B, d, hj, rfl, rfl, hown, hb⟩ := hrel
        by_cases hlt : 8 * j < l.length
        · obtain ⟨b, o, rfl, hbb, hcc⟩ := h.2 (by omega)
          have ht := take_part l hl b o j (c - 8 * j) (by omega) (by omega) _ ((h.below hb).more hb.size)
          go_wp2_with fail
          refine ht.mono ?_
          rintro e w1 ⟨rfl, hb1⟩
          have hs := take_step (l := insns l) (j := j) (by omega)
          have hv := insnsV_step (l := insns l) (j := j) (by omega)
          have hown1 := (own_keep hown hb1).alloc (.cells #[.int .u8 (at' (insns l) j).op, .int .u8 (at' (insns l) j).dst, .int .u8 (at' (insns l) j).src, .int .i16 (at' (insns l) j).off, .int .i32 (at' (insns l) j).imm] 24)
          have hbw1 : Below w.heap.size w w1 := hb.trans (hb1.mono hb.size)
          have hbw2 := hbw1.alloc hbw1.size (.cells #[.int .u8 (at' (insns l) j).op, .int .u8 (at' (insns l) j).dst, .int .u8 (at' (insns l) j).src, .int .i16 (at' (insns l) j).off, .int .i32 (at' (insns l) j).imm] 24)
          clear ht hown hcc
          have hsz1 := hbw1.size
          go_wp2_with (at_builtin; refine wpList_append_box rfl (.tmp 35) (.tmp 37) 47 rfl w.heap.size 24 i0 Insn.zero.val 5 12 Try.underlying47 hinf hz0 hz1 hz2 rfl (by decide) B j d 1 _ rfl rfl (by simp) hown1 rfl ?c1 ?c2 ?c3 ?c4 ?c5)
          case c1 =>
            first
            | exact ⟨rfl, rfl, rfl, rfl, rfl⟩
            | (intro u hu
               simp at hu
               rcases hu with rfl | rfl | rfl | rfl | rfl <;> rfl)
          case c2 => simp only [maxLen]; omega
          case c3 => omega
          case c4 => simp; omega
          case c5 =>
            intro B' d' w2 h2 h3 h4 h5
            clear h3 h5
            go_wp2
            go_roundw
            case rel =>
              refine ⟨j + 1, B', d', by omega, by go_num, rfl, ?_, hbw2.trans h4⟩
              rw [hv]
              exact h2
            case measure => simp [intOf]; omega
        · have hjn : j = (insns l).length := by omega
          subst hjn
          rw [List.take_length] at hown
          have hch := check_any (insns l) hok B d (by omega) _ (SAt.own hown)
          have hcap := own_cap hown
          have hsat := SAt.own hown
          clear hown
          go_wp2_with fail
          refine hch.mono ?_
          rintro e w3 ⟨rfl, hb3⟩
          generalize checkM (insns l) = r at *
          obtain ⟨r0, r1⟩ := r
          simp only at *
          have hb4 := hb.trans (hb3.mono hb.size)
          by_cases hr : r1 = 0
          · subst hr
            go_wp2_with fail
            rw [HD.out]
            exact bodyPost_ret (v := .tuple #[.slice B (insns l).length d, .int .i64 0, .int .i64 0]) (by simp [results, Try.results38, go_sem]) rfl ⟨B, d, rfl, (hsat.below hb3).more hb3.size, hcap, hb4⟩
          · go_wp2_with fail
            rw [HD.out, if_neg hr]
            exact bodyPost_ret (v := .tuple #[.slice none 0 0, .int .i64 r0, .int .i64 r1]) (by simp [results, Try.results38, go_sem]) rfl ⟨none, 0, rfl, SAt.nil_, Nat.le_refl _, hb4⟩
    · go_enter Try.func38, Try.ntmps38
      go_wp2_with fail
      rw [decM_no (.inr (by omega))]
      exact bodyPost_ret (v := .tuple #[.slice none 0 0, .int .i64 0, .int .i64 70]) (by simp [results, Try.results38, go_sem]) rfl ⟨none, 0, rfl, SAt.nil_, Nat.le_refl _, Below.refl _ _⟩
  · have q8 : ¬ ((l.length : Int) % 8) = 0 := by omega
    go_enter Try.func38, Try.ntmps38
    go_wp2_with fail
    rw [decM_no (.inl h8)]
    exact bodyPost_ret (v := .tuple #[.slice none 0 0, .int .i64 0, .int .i64 70]) (by simp [results, Try.results38, go_sem]) rfl ⟨none, 0, rfl, SAt.nil_, Nat.le_refl _, Below.refl _ _⟩
end Go.Proofs.Ytgbmeckhagklnaa
