/- The law HopNone, walked. No statement is proved here. -/
import Derived.Test.YtgbmeckhagklnaaHopD
namespace Go.Proofs.Ytgbmeckhagklnaa
open Go.RowKit
set_option linter.unusedSimpArgs false
set_option linter.unusedVariables false
set_option linter.unnecessarySimpa false
theorem sem_five : (sem ⟨5, 0, 0, 0, 0⟩).1.kind = 9 := by decide +kernel
theorem sem_exit : (sem ⟨149, 0, 0, 0, 0⟩).1.kind = 12 := by decide +kernel
theorem none_cases (l : List Insn) (i : Nat) :
    decide (hopE l i = Edit.none) = true ∨
    (decide (hopE l i = Edit.none) = false ∧ decide (hopE l i = Edit.drop) = true ∧ (kindM l i = 9 ∨ kindM l i = 10)) ∨
    (decide (hopE l i = Edit.none) = false ∧ decide (hopE l i = Edit.drop) = false ∧ decide (hopE l i = ⟨2, ⟨5, 0, 0, 0, 0⟩, (hopE l i).to⟩) = true ∧ kindM l i = 9) ∨
    (decide (hopE l i = Edit.none) = false ∧ decide (hopE l i = Edit.drop) = false ∧ decide (hopE l i = ⟨2, ⟨5, 0, 0, 0, 0⟩, (hopE l i).to⟩) = false ∧ decide (hopE l i = ⟨2, ⟨149, 0, 0, 0, 0⟩, 0⟩) = true ∧ kindM l i = 9) ∨
    (decide (hopE l i = Edit.none) = false ∧ decide (hopE l i = Edit.drop) = false ∧ decide (hopE l i = ⟨2, ⟨5, 0, 0, 0, 0⟩, (hopE l i).to⟩) = false ∧ decide (hopE l i = ⟨2, ⟨149, 0, 0, 0, 0⟩, 0⟩) = false ∧ decide (hopE l i = ⟨2, at' l i, (hopE l i).to⟩) = true ∧ kindM l i = 10) := by
  rcases hopE_cases l i with h | ⟨h, hk⟩ | ⟨t, h, hk⟩ | ⟨h, hk⟩ | ⟨t, h, hk⟩
  · left; rw [h]; rfl
  · right; left; rw [h]; exact ⟨by decide, by decide, hk⟩
  · right; right; left
    rw [h]
    exact ⟨by simp [Edit.none], by simp [Edit.drop], by simp, hk⟩
  · right; right; right; left
    rw [h]
    exact ⟨by simp [Edit.none], by simp [Edit.drop], by simp, by simp, hk⟩
  · right; right; right; right
    rw [h]
    have n5 : at' l i ≠ ⟨5, 0, 0, 0, 0⟩ := by
      intro e
      have := sem_five
      unfold kindM at hk
      rw [e] at hk
      omega
    have n149 : at' l i ≠ ⟨149, 0, 0, 0, 0⟩ := by
      intro e
      have := sem_exit
      unfold kindM at hk
      rw [e] at hk
      omega
    exact ⟨by simp [Edit.none], by simp [Edit.drop], by simp [n5], by simp [n149], by simp, hk⟩
set_option maxRecDepth 100000 in
set_option maxHeartbeats 8000000 in
theorem hopNone_walk (l : List Insn) (hl : ∀ x ∈ l, x.Ok) (A : Option Addr) (c : Nat) (hc : l.length ≤ c) (hc' : c ≤ maxLen) (w : World) (h : SAt w w.heap.size 5 A l.length (insnsV l)) :
    Calls Try.prog 20 #[.slice A l.length c] w fun e w' => e = .returned (.bool true) ∧ Below w.heap.size w w' := by
  have hf := few21_is l A c hc hc'
  have hm := h.few 100
  have hml : ∀ x ∈ l.take 100, x.Ok := fun x hx => hl x (List.mem_of_mem_take hx)
  have hmn : (l.take 100).length ≤ 100 := by simp; omega
  replace hf := fun w1 (hb : Below w.heap.size w w1) => hf w1 ((h.below hb).more hb.size)
  generalize l.take 100 = m at *
  clear h hl hc hc'
  have h3 := fun w1 (hb : Below w.heap.size w w1) => edits_any m hml A c (by omega) w1 ((hm.below hb).more hb.size)
  have hat := fun j => editsM_at (l := m) (j := j)
  have hlen := editsM_len m
  generalize editsM m = es at *
  go_enter Try.func20, Try.ntmps20
  go_wp2_with fail
  refine (shown21_any _).mono ?_
  rintro e w1 ⟨rfl, hb1⟩
  go_wp2_with fail
  refine (hf _ hb1).mono ?_
  rintro e w1' ⟨rfl, rfl⟩
  clear hf
  go_wp2_with fail
  refine (h3 _ hb1).mono ?_
  rintro e w2 ⟨B, b, rfl, hsB, hcB, hmB, hb2⟩
  clear h3
  have hb12 := hb1.trans (hb2.mono hb1.size)
  go_wp2_with fail
  go_loopw [20] (fun k wr => ∃ (j : Nat), j ≤ es.length ∧ k = .int .i64 j ∧ Below w2.heap.size w2 wr) (fun k _ => es.length - (intOf k).toNat)
  case atStart => exact ⟨0, by omega, rfl, Below.refl _ _⟩
  case round =>
    obtain ⟨j, hj, rfl, hbr⟩ := hrel
    have hbw := hb12.trans (hbr.mono hb12.size)
    rcases Nat.lt_or_ge j es.length with hlt | hge
    · obtain ⟨he, hjm⟩ := hat j hlt
      obtain ⟨p, o, rfl, hp, c0, c1, c2, c3, c4, c5, c6⟩ := hsB.edit hlt
      obtain ⟨q, o', rfl, hq, d0, d1, d2, d3, d4⟩ := hm.insn hjm
      replace c0 := c0 _ hbr
      replace c1 := c1 _ hbr
      replace c2 := c2 _ hbr
      replace c3 := c3 _ hbr
      replace c4 := c4 _ hbr
      replace c5 := c5 _ hbr
      replace c6 := c6 _ hbr
      rw [he] at c0 c1 c2 c3 c4 c5 c6
      have hcs := none_cases m j
      have hsem := fun w => rsem_any (at' m j) (at_ok hml j) w
      have q0 := eq_edit (hopE m j) Edit.none
      have q1 := eq_edit (hopE m j) Edit.drop
      have q2 := eq_edit (hopE m j) ⟨2, ⟨5, 0, 0, 0, 0⟩, (hopE m j).to⟩
      have q3 := eq_edit (hopE m j) ⟨2, ⟨149, 0, 0, 0, 0⟩, 0⟩
      have q4 := eq_edit (hopE m j) ⟨2, at' m j, (hopE m j).to⟩
      have hkk : kindM m j = (sem (at' m j)).1.kind := rfl
      rw [hkk] at hcs
      clear he hkk hat
      generalize hopE m j = d at *
      generalize at' m j = x at *
      generalize sem x = r at *
      generalize hb0 : decide (d = Edit.none) = t0 at *
      generalize hb1 : decide (d = Edit.drop) = t1 at *
      generalize hb2 : decide (d = ⟨2, ⟨5, 0, 0, 0, 0⟩, d.to⟩) = t2 at *
      generalize hb3 : decide (d = ⟨2, ⟨149, 0, 0, 0, 0⟩, 0⟩) = t3 at *
      generalize hb4 : decide (d = ⟨2, x, d.to⟩) = t4 at *
      clear hb0 hb1 hb2 hb3 hb4
      obtain ⟨y0, ⟨y1, y2, y3, y4, y5⟩, y6⟩ := d
      obtain ⟨x1, x2, x3, x4, x5⟩ := x
      obtain ⟨⟨r0, r1, r2, r3, r4, r5⟩, rb⟩ := r
      simp only [Edit.val, Edit.none, Edit.drop, Insn.zero] at q0 q1 q2 q3 q4 hcs c0 c1 c2 c3 c4 c5 c6 d0 d1 d2 d3 d4 hsem
      have hjl : ¬ (m.length : Int) ≤ (j : Int) := by omega
      have HC := Lib.hid hcs
      clear hcs
      have hbV := hbr.alloc hbr.size (.cells #[.int .u8 y0, .int .u8 y1, .int .u8 y2, .int .u8 y3, .int .i16 y4, .int .i32 y5, .int .i64 y6] 71)
      have hh := heap_alloc_new wr (.cells #[.int .u8 y0, .int .u8 y1, .int .u8 y2, .int .u8 y3, .int .i16 y4, .int .i32 y5, .int .i64 y6] 71)
      obtain ⟨e0, e1, e2, e3, e4, e5, e6⟩ := box71 (B := wr.heap.size + 1) ⟨y0, ⟨y1, y2, y3, y4, y5⟩, y6⟩ (by omega) hh
      simp only at e0 e1 e2 e3 e4 e5 e6
      have hsz : wr.heap.size + 1 = (wr.alloc (.cells #[.int .u8 y0, .int .u8 y1, .int .u8 y2, .int .u8 y3, .int .i16 y4, .int .i32 y5, .int .i64 y6] 71)).heap.size := by simp
      have HS := Lib.hid hsz
      clear hh hsz
      go_wp2_with fail
      generalize hV : wr.alloc (.cells #[.int .u8 y0, .int .u8 y1, .int .u8 y2, .int .u8 y3, .int .i16 y4, .int .i32 y5, .int .i64 y6] 71) = V at *
      refine (hsem _).mono ?_
      rintro e w3 ⟨rfl, hb3⟩
      clear hsem
      have hb3' : Below (wr.heap.size + 1) V w3 := hb3.mono (by rw [HS.out]; exact Nat.le_refl _)
      have hb4' : Below (wr.heap.size + 1) V (w3.alloc (.cells #[.int .u8 r0, .int .u8 r1, .bool r2, .bool r3, .bool r4, .int .i64 r5] 44)) := hb3'.alloc (Nat.le_trans (by rw [HS.out]; exact Nat.le_refl _) hb3.size) _
      have hb23 := hbV.trans (hb3.mono hbV.size)
      have hb24 := hb23.alloc hb23.size (.cells #[.int .u8 r0, .int .u8 r1, .bool r2, .bool r3, .bool r4, .int .i64 r5] 44)
      have hbw4 := hb12.trans (hb24.mono hb12.size)
      replace e0 := e0 _ hb4'
      replace e1 := e1 _ hb4'
      replace e2 := e2 _ hb4'
      replace e3 := e3 _ hb4'
      replace e4 := e4 _ hb4'
      replace e5 := e5 _ hb4'
      replace e6 := e6 _ hb4'
      replace d0 := d0 _ hbw4
      replace d1 := d1 _ hbw4
      replace d2 := d2 _ hbw4
      replace d3 := d3 _ hbw4
      replace d4 := d4 _ hbw4
      obtain ⟨g0, g1, g2, g3, g4, g5⟩ := box44 (W := w3.alloc (.cells #[.int .u8 r0, .int .u8 r1, .bool r2, .bool r3, .bool r4, .int .i64 r5] 44)) (g := w3.heap.size) (B := w3.heap.size + 1) ⟨r0, r1, r2, r3, r4, r5⟩ (by omega) (heap_alloc_new _ _)
      have g0' := g0 _ (Below.refl _ _)
      simp only at g0'
      clear g0 g1 g2 g3 g4 g5
      have hsB' := hsB
      clear hsB hm hp hq c0 c1 c2 c3 c4 c5 c6
      have hj2 : (j : Int) < (m.length : Int) := by omega
      rcases HC.out with k0 | ⟨k0, k1, hk⟩ | ⟨k0, k1, k2, hk⟩ | ⟨k0, k1, k2, k3, hk⟩ | ⟨k0, k1, k2, k3, k4, hk⟩
      · subst k0
        clear HC
        go_wp2_with fail
        go_quiet (fail)
        go_wp2_with fail
        go_roundw
        case rel => exact ⟨j + 1, by omega, by go_num, below_drewN hb24 _⟩
        case measure => simp [intOf]; omega
      · subst k0 k1
        clear HC
        rcases hk with rfl | rfl
        · skip
          go_wp2_with fail
          go_quiet (fail)
          go_wp2_with fail
          go_roundw
          case rel => exact ⟨j + 1, by omega, by go_num, below_drewN hb24 _⟩
          case measure => simp [intOf]; omega
        · skip
          go_wp2_with fail
          go_quiet (fail)
          go_wp2_with fail
          go_roundw
          case rel => exact ⟨j + 1, by omega, by go_num, below_drewN hb24 _⟩
          case measure => simp [intOf]; omega
      · subst k0 k1 k2 hk
        clear HC
        go_wp2_with fail
        go_quiet (fail)
        go_wp2_with fail
        go_roundw
        case rel => exact ⟨j + 1, by omega, by go_num, below_drewN hb24 _⟩
        case measure => simp [intOf]; omega
      · subst k0 k1 k2 k3 hk
        clear HC
        go_wp2_with fail
        go_quiet (fail)
        go_wp2_with fail
        go_roundw
        case rel => exact ⟨j + 1, by omega, by go_num, below_drewN hb24 _⟩
        case measure => simp [intOf]; omega
      · subst k0 k1 k2 k3 k4 hk
        clear HC
        go_wp2_with fail
        go_quiet (fail)
        go_wp2_with fail
        go_roundw
        case rel => exact ⟨j + 1, by omega, by go_num, below_drewN hb24 _⟩
        case measure => simp [intOf]; omega
    · go_wp2_with fail
      go_ret
      exact ⟨rfl, hbw⟩
end Go.Proofs.Ytgbmeckhagklnaa
