/- Encode, of the program. No statement is proved here. -/
import Derived.Test.YtgbmeckhagklnaaLists
namespace Go.Proofs.Ytgbmeckhagklnaa
open Go.RowKit
set_option linter.unusedSimpArgs false
set_option linter.unusedVariables false
set_option linter.unnecessarySimpa false
theorem own_max {w : World} {base e size n c : Nat} {A : Option Addr} {xs : List Value} (h : w.ownsRow base e size (.slice A n c) n xs) : c ≤ maxLen := by
  rcases h.2 with ⟨hv, h0⟩ | ⟨g, cap, cur, hv, _, _, hnc, hcm, _⟩
  · injection hv with _ _ hc
    rw [hc]; simp [maxLen]
  · injection hv with _ _ hc
    rw [hc]; exact hcm
/-- Behind Encode. -/
def EncOk (W : World) (r : List Int × Int × Int) (e : Ending) (w' : World) : Prop :=
  ∃ A c, e = .returned (.tuple #[.slice A r.1.length c, .int .i64 r.2.1, .int .i64 r.2.2]) ∧ SAt w' w'.heap.size 1 A r.1.length (bytesV r.1) ∧ r.1.length ≤ c ∧ c ≤ maxLen ∧ Below W.heap.size W w'
theorem bytes_one (l : List Int) : ∀ u ∈ bytesV l, u.oneCell' = true := by
  intro u hu
  obtain ⟨x, _, rfl⟩ := List.mem_map.1 hu
  rfl
set_option maxRecDepth 100000 in
set_option maxHeartbeats 4000000 in
theorem encode_any (l : List Insn) (hl : ∀ x ∈ l, x.Ok) (A : Option Addr) (c : Nat) (hn : l.length ≤ 100000) (w : World) (h : SAt w w.heap.size 5 A l.length (insnsV l)) :
    Calls Try.prog 50 #[.slice A l.length c] w (EncOk w (encM l)) := by
  obtain ⟨i0, hinf, hz0, hz1, hz2⟩ := info_parts info5
  have hck := check_any l hl A c hn w h
  have HE := Lib.hid (show encM l = if (checkM l).2 = 0 then (encL l, 0, 0) else ([], (checkM l).1, (checkM l).2) from rfl)
  go_enter Try.func50, Try.ntmps50
  go_wp2_with fail
  refine hck.mono ?_
  rintro e w1 ⟨rfl, hb1⟩
  clear hck
  by_cases he : (checkM l).2 = 0
  · have hp := check_prog he
    rw [check_zero he] at HE ⊢
    simp only at HE ⊢
    have hreg := hp.all_regs
    have hsz1 := hb1.size
    go_wp2_with fail
    go_loopw [23, 9, 7, 10, 11] (fun k _ v _ _ wr => ∃ (j N : Nat) (B : Option Addr) (d : Nat), j ≤ l.length ∧ N = 8 * j ∧ k = .int .i64 j ∧ v = .slice B N d ∧ wr.ownsRow w.heap.size 5 1 (.slice B N d) N (bytesV (encL (l.take j))) ∧ Below w.heap.size w wr) (fun k _ _ _ _ _ => l.length - (intOf k).toNat)
    case atStart => exact ⟨0, 0, _, _, by omega, rfl, rfl, rfl, World.ownsRow_nil _ _ _ _, hb1⟩
    case round =>
      obtain ⟨j, N, B, d, hj, hN, rfl, rfl, hown, hb⟩ := hrel
      have HN := Lib.hid hN
      clear hN
      by_cases hlt : j < l.length
      · obtain ⟨b, o, rfl, hbb, c0, c1, c2, c3, c4⟩ := h.insn hlt
        have hxo := at_ok hl j
        have hxr := hreg (at' l j) (by rw [at_get hlt]; exact List.getElem_mem hlt)
        have hput := fun w => put_any (at' l j) hxo w
        rw [Insn.put_yes hxr] at hput
        have hs := encL_step hlt
        have hbw1 := hb.alloc hb.size (.cells #[.int .u8 (at' l j).op, .int .u8 (at' l j).dst, .int .u8 (at' l j).src, .int .i16 (at' l j).off, .int .i32 (at' l j).imm] 24)
        have hown1 := hown.alloc (.cells #[.int .u8 (at' l j).op, .int .u8 (at' l j).dst, .int .u8 (at' l j).src, .int .i16 (at' l j).off, .int .i32 (at' l j).imm] 24)
        clear hown
        go_wp2_with fail
        refine (hput _).mono ?_
        rintro e w2 ⟨A2, c2', rfl, hat2, hc2, hb2⟩
        clear hput
        have hown2 := own_keep hown1 hb2
        have hbw2 := hbw1.trans (hb2.mono hbw1.size)
        clear hown1
        go_wp2_with (at_builtin; refine wpList_append_sat rfl (.tmp 32) (.tmp 33) 26 rfl w.heap.size 5 i0 (.int .u8 0) 1 1 Try.underlying26 hinf hz0 hz1 hz2 rfl (by decide) B N d _ rfl hown2 _ A2 8 c2' _ rfl hat2 (bytes_one _) ?c2 ?c3 ?c4 ?c5)
        case c2 => have := HN.out; simp only [maxLen]; omega
        case c3 => have := HN.out; omega
        case c4 => exact hbw2.size
        case c5 =>
          intro B' d' w3 h2 h3 h4 h5
          clear h3 h5
          go_wp2
          go_roundw
          case rel =>
            refine ⟨j + 1, N + 8, B', d', by omega, by have := HN.out; omega, by go_num, rfl, ?_, hbw2.trans h4⟩
            rw [hs, bytesV, List.map_append]
            exact h2
          case measure => simp [intOf]; omega
      · obtain rfl : j = l.length := by omega
        rw [List.take_length] at hown
        have hcap := own_cap hown
        have hmax := own_max hown
        have hsat := SAt.own hown
        have hlen := encL_length l
        rw [← HN.out] at hlen
        clear hown
        go_wp2_with fail
        rw [HE.out]
        refine bodyPost_ret (v := .tuple #[.slice B N d, .int .i64 0, .int .i64 0]) (by simp [results, Try.results50, go_sem]) rfl ?_
        refine ⟨B, d, ?_, ?_, ?_, hmax, hb⟩
        · simp [hlen]
        · simp only [if_true]; rw [hlen]; exact hsat
        · simp only [if_true]; rw [hlen]; exact hcap
  · generalize checkM l = r at *
    obtain ⟨r0, r1⟩ := r
    simp only at *
    go_wp2_with fail
    rw [HE.out, if_neg he]
    exact bodyPost_ret (v := .tuple #[.slice none 0 0, .int .i64 r0, .int .i64 r1]) (by simp [results, Try.results50, go_sem]) rfl ⟨none, 0, rfl, SAt.nil_, Nat.le_refl _, by simp [maxLen], hb1⟩
end Go.Proofs.Ytgbmeckhagklnaa
