/- The law InsnParts, walked. -/
import Derived.Test.YtgbmeckhagklnaaInsnBackW
import Derived.Test.YtgbmeckhagklnaaInsnEq
namespace Go.Proofs.Ytgbmeckhagklnaa
open Go.RowKit
theorem part_eq (l m : List Int) (hl : ∀ b ∈ l, isByte b) (hm : ∀ b ∈ m, isByte b) (p : Bool) (h : l = m ↔ p = true) : ((strOfNums l).toList == (strOfNums m).toList) = p := by
  rw [str_beq l m hl hm, Bool.eq_iff_iff]
  simpa using h
theorem bytes_iff (x z : Insn) (hx : x.Ok) (hz : z.Ok) (xd : x.dst ≤ 15) (xs : x.src ≤ 15) (zd : z.dst ≤ 15) (zs : z.src ≤ 15) : x.bytes = z.bytes ↔ decide (z = x) = true := by
  rw [decide_eq_true_eq]
  refine ⟨fun h => ?_, fun h => by rw [h]⟩
  have a := take_put x hx xd xs
  have b := take_put z hz zd zs
  rw [h, b] at a
  exact congrArg Prod.fst a
theorem str_same (l m : List Int) (h : l = m) : ((strOfNums l).toList == (strOfNums m).toList) = true := by rw [h]; exact beq_self_eq_true _
theorem conv_zero {w' : World} (A : Option Addr) (c : Nat) : (convert 26 9 (.slice A 0 c)).run Try.prog w' = .ok (.string (strOfNums [])) w' :=
  conv_bytes (B := 0) (w := w') [] SAt.nil_ (Below.refl _ _)
theorem SAt.to {w : World} {B n : Nat} {b o : Nat} {xs : List Value} (h : SAt w B 1 (some ⟨b, o, none⟩) n xs) {k : Nat} (hk : k ≤ n) : SAt w B 1 (some ⟨b, o + k, none⟩) (n - k) (xs.drop k) := by
  refine ⟨by rw [List.length_drop, h.1]; omega, fun hn => ?_⟩
  obtain ⟨b', o', e, hb, hc⟩ := h.2 (by omega)
  simp only [Option.some.injEq, Addr.mk.injEq, and_true] at e
  obtain ⟨rfl, rfl⟩ := e
  refine ⟨b, o + k, rfl, hb, fun j u hu => ?_⟩
  rw [Nat.add_assoc]
  exact hc (k + j) u (by rw [← hu, List.getElem?_drop])
theorem SAt.upto {w : World} {B n : Nat} {A : Option Addr} {xs : List Value} (h : SAt w B 1 A n xs) {k : Nat} (hk : k ≤ n) : SAt w B 1 A k (xs.take k) := by
  have := h.cut hk
  rwa [Nat.mul_one] at this
/-- The strings of a row's cuts, in every world that keeps the row. -/
theorem conv_upto {w : World} {B : Nat} {A : Option Addr} {n : Nat} (l : List Int) (h : SAt w B 1 A n (bytesV l)) (k : Nat) (hk : k ≤ n) : ∀ (c : Nat) (w' : World), Below B w w' → (convert 26 9 (.slice A k c)).run Try.prog w' = .ok (.string (strOfNums (l.take k))) w' := by
  intro c w' hb
  refine conv_bytes (w := w) (l.take k) ?_ hb
  have := h.upto hk
  rwa [bytesV, ← List.map_take] at this
theorem conv_to {w : World} {B : Nat} {b o n : Nat} (l : List Int) (h : SAt w B 1 (some ⟨b, o, none⟩) n (bytesV l)) (k : Nat) (hk : k ≤ n) : ∀ (c : Nat) (w' : World), Below B w w' → (convert 26 9 (.slice (some ⟨b, o + k, none⟩) (n - k) c)).run Try.prog w' = .ok (.string (strOfNums (l.drop k))) w' := by
  intro c w' hb
  refine conv_bytes (w := w) (l.drop k) ?_ hb
  have := h.to hk
  rwa [bytesV, ← List.map_drop] at this
set_option maxRecDepth 100000 in
set_option maxHeartbeats 4000000 in
theorem insnParts_walk (x y : Insn) (h : x.Ok) (h' : y.Ok) (w : World) : Calls Try.prog 3 #[x.val, y.val] w fun e w' => e = .returned (.bool true) ∧ Below w.heap.size w w' := by
  go_enter Try.func3, Try.ntmps3
  go_wp2_with fail
  have hb0 : Below w.heap.size w ((w.alloc (.cells #[.int .u8 x.op, .int .u8 x.dst, .int .u8 x.src, .int .i16 x.off, .int .i32 x.imm] 24)).alloc (.cells #[.int .u8 y.op, .int .u8 y.dst, .int .u8 y.src, .int .i16 y.off, .int .i32 y.imm] 24)) := ((Below.refl _ _).alloc (Nat.le_refl _) _).alloc (by simp) _
  obtain ⟨x0, x1, x2, x3, x4⟩ := box24 x (show w.heap.size < w.heap.size + 2 by omega) (heap_alloc2_old w _ (.cells #[.int .u8 y.op, .int .u8 y.dst, .int .u8 y.src, .int .i16 y.off, .int .i32 y.imm] 24))
  obtain ⟨y0, y1, y2, y3, y4⟩ := box24 y (show w.heap.size + 1 < w.heap.size + 2 by omega) (heap_alloc2_new w (.cells #[.int .u8 x.op, .int .u8 x.dst, .int .u8 x.src, .int .i16 x.off, .int .i32 x.imm] 24) _)
  have hsz : ((w.alloc (.cells #[.int .u8 x.op, .int .u8 x.dst, .int .u8 x.src, .int .i16 x.off, .int .i32 x.imm] 24)).alloc (.cells #[.int .u8 y.op, .int .u8 y.dst, .int .u8 y.src, .int .i16 y.off, .int .i32 y.imm] 24)).heap.size = w.heap.size + 2 := by simp
  generalize ((w.alloc (.cells #[.int .u8 x.op, .int .u8 x.dst, .int .u8 x.src, .int .i16 x.off, .int .i32 x.imm] 24)).alloc (.cells #[.int .u8 y.op, .int .u8 y.dst, .int .u8 y.src, .int .i16 y.off, .int .i32 y.imm] 24)) = W at *
  have hB : w.heap.size + 2 ≤ W.heap.size := by omega
  clear hsz
  refine (shown_insn _).mono ?_
  rintro e w1 ⟨rfl, c1⟩
  have hw1 : Below (w.heap.size + 2) W w1 := c1.mono hB
  clear c1
  go_wp2_with fail
  by_cases hk : x.dst ≤ 15 ∧ x.src ≤ 15
  · obtain ⟨hd, hs⟩ := hk
    refine (put_ok x h hd hs _).mono ?_
    rintro e w2 ⟨A, c, rfl, hown, c2⟩
    have hcap := own_cap hown
    obtain ⟨b, o, rfl, hbb, hcc⟩ := (SAt.own hown).2 (by omega)
    have hat := SAt.own hown
    have hw2 : Below (w.heap.size + 2) W w2 := below_step hw1 hB c2
    clear c2 hown hcc hbb
    go_wp2_with fail
    obtain ⟨p1, p2, p3, p4, p5, p6, p7, p8, p9, p10⟩ := id h
    obtain ⟨q1, q2, q3, q4, q5, q6, q7, q8, q9, q10⟩ := h'
    go_loopw [28] (fun k wr => ∃ j : Nat, j ≤ 5 ∧ k = .int .i64 j ∧ Below (w.heap.size + 2) W wr ∧ Below w2.heap.size w2 wr) (fun k _ => 5 - (intOf k).toNat)
    case atStart => exact ⟨0, by omega, rfl, hw2, Below.refl _ _⟩
    case round =>
      obtain ⟨j, hj, rfl, hrW, hr2⟩ := hrel
      rcases (show j = 0 ∨ j = 1 ∨ j = 2 ∨ j = 3 ∨ j = 4 ∨ j = 5 by omega) with rfl | rfl | rfl | rfl | rfl | rfl
      · have hzok : (⟨y.op, x.dst, x.src, x.off, x.imm⟩ : Insn).Ok := by constructor <;> (simp only; omega)
        go_wp2_with fail
        refine (put_ok ⟨y.op, x.dst, x.src, x.off, x.imm⟩ hzok (by simp only; omega) (by simp only; omega) _).mono ?_
        rintro e w3 ⟨A', c', rfl, hown', c3⟩
        have hcap' := own_cap hown'
        obtain ⟨b', o', rfl, _, _⟩ := (SAt.own hown').2 (by omega)
        have hat' := SAt.own hown'
        have hsz3 : (wr.alloc (.cells #[.int .u8 (y.op), .int .u8 (x.dst), .int .u8 (x.src), .int .i16 (x.off), .int .i32 (x.imm)] 24)).heap.size = wr.heap.size + 1 := by simp
        rw [hsz3] at c3
        clear hsz3
        have z0 := fun w' (hw : Below w3.heap.size w3 w') => (box24_at ⟨y.op, x.dst, x.src, x.off, x.imm⟩ wr w' (c3.trans (hw.mono (by have := c3.size; simp at this; omega)))).1
        have z1 := fun w' (hw : Below w3.heap.size w3 w') => (box24_at ⟨y.op, x.dst, x.src, x.off, x.imm⟩ wr w' (c3.trans (hw.mono (by have := c3.size; simp at this; omega)))).2.1
        have z2 := fun w' (hw : Below w3.heap.size w3 w') => (box24_at ⟨y.op, x.dst, x.src, x.off, x.imm⟩ wr w' (c3.trans (hw.mono (by have := c3.size; simp at this; omega)))).2.2.1
        have z3 := fun w' (hw : Below w3.heap.size w3 w') => (box24_at ⟨y.op, x.dst, x.src, x.off, x.imm⟩ wr w' (c3.trans (hw.mono (by have := c3.size; simp at this; omega)))).2.2.2.1
        have z4 := fun w' (hw : Below w3.heap.size w3 w') => (box24_at ⟨y.op, x.dst, x.src, x.off, x.imm⟩ wr w' (c3.trans (hw.mono (by have := c3.size; simp at this; omega)))).2.2.2.2
        have zeq := fun w' => eq_insn ⟨y.op, x.dst, x.src, x.off, x.imm⟩ x w'
        simp only at z0 z1 z2 z3 z4 zeq
        have hsw := hrW.size
        have hsw2 := hr2.size
        have hW3 : Below (w.heap.size + 2) W w3 := (hrW.alloc (by omega) _).trans (c3.mono (by omega))
        have h23 : Below w2.heap.size w2 w3 := (hr2.alloc hsw2 _).trans (c3.mono (by omega))
        have e1 := str_same (x.bytes.take 0) ((⟨y.op, x.dst, x.src, x.off, x.imm⟩ : Insn).bytes.take 0) rfl
        have e2 := str_same (x.bytes.drop 1) ((⟨y.op, x.dst, x.src, x.off, x.imm⟩ : Insn).bytes.drop 1) rfl
        have e3 := part_eq x.bytes (⟨y.op, x.dst, x.src, x.off, x.imm⟩ : Insn).bytes (bytes_isByte x h hd hs) (bytes_isByte _ hzok (by simp only; omega) (by simp only; omega)) (decide ((⟨y.op, x.dst, x.src, x.off, x.imm⟩ : Insn) = x)) (bytes_iff x _ h hzok hd hs (by simp only; omega) (by simp only; omega))
        have k1 := conv_upto _ hat 0 (by omega)
        have k1' := conv_upto _ hat' 0 (by omega)
        have k2 := conv_to _ hat 1 (by omega)
        have k2' := conv_to _ hat' 1 (by omega)
        have k3 := fun c'' w' (hw : Below w2.heap.size w2 w') => conv_bytes (w' := w') (c := c'') _ hat hw
        have k3' := fun c'' w' (hw : Below w3.heap.size w3 w') => conv_bytes (w' := w') (c := c'') _ hat' hw
        clear hown' c3 hat hat'
        have hrefl := Below.refl w3.heap.size w3
        have m1 : (0 : Int) ≤ (c : Int) := by omega
        have m2 : (0 : Int) ≤ (c' : Int) := by omega
        have n1 : ¬ c = 1 := by omega
        have n2 : ¬ c' = 1 := by omega
        simp only [Nat.reduceSub] at k2 k2'
        generalize decide ((⟨y.op, x.dst, x.src, x.off, x.imm⟩ : Insn) = x) = same at *
        generalize strOfNums (x.bytes.take 0) = s1 at *
        generalize strOfNums (x.bytes.drop 1) = s2 at *
        generalize strOfNums x.bytes = s3 at *
        generalize strOfNums ((⟨y.op, x.dst, x.src, x.off, x.imm⟩ : Insn).bytes.take 0) = t1 at *
        generalize strOfNums ((⟨y.op, x.dst, x.src, x.off, x.imm⟩ : Insn).bytes.drop 1) = t2 at *
        generalize strOfNums (⟨y.op, x.dst, x.src, x.off, x.imm⟩ : Insn).bytes = t3 at *
        go_wp2_with fail
        go_region_held3 (fun w' => Below (w.heap.size + 2) W w' ∧ Below w2.heap.size w2 w' ∧ Below w3.heap.size w3 w') (exact ⟨hW3.drew, h23.drew, hrefl.drew⟩) (first | fail)
        all_goals
          go_wp2_with fail
          go_roundw
          case rel => exact ⟨1, by omega, by go_num, hW3.drew, h23.drew⟩
          case measure => simp [intOf]
      · have hzok : (⟨x.op, y.dst % 16, x.src, x.off, x.imm⟩ : Insn).Ok := by constructor <;> (simp only; omega)
        go_wp2_with fail
        refine (put_ok ⟨x.op, y.dst % 16, x.src, x.off, x.imm⟩ hzok (by simp only; omega) (by simp only; omega) _).mono ?_
        rintro e w3 ⟨A', c', rfl, hown', c3⟩
        have hcap' := own_cap hown'
        obtain ⟨b', o', rfl, _, _⟩ := (SAt.own hown').2 (by omega)
        have hat' := SAt.own hown'
        have hsz3 : (wr.alloc (.cells #[.int .u8 (x.op), .int .u8 (y.dst % 16), .int .u8 (x.src), .int .i16 (x.off), .int .i32 (x.imm)] 24)).heap.size = wr.heap.size + 1 := by simp
        rw [hsz3] at c3
        clear hsz3
        have z0 := fun w' (hw : Below w3.heap.size w3 w') => (box24_at ⟨x.op, y.dst % 16, x.src, x.off, x.imm⟩ wr w' (c3.trans (hw.mono (by have := c3.size; simp at this; omega)))).1
        have z1 := fun w' (hw : Below w3.heap.size w3 w') => (box24_at ⟨x.op, y.dst % 16, x.src, x.off, x.imm⟩ wr w' (c3.trans (hw.mono (by have := c3.size; simp at this; omega)))).2.1
        have z2 := fun w' (hw : Below w3.heap.size w3 w') => (box24_at ⟨x.op, y.dst % 16, x.src, x.off, x.imm⟩ wr w' (c3.trans (hw.mono (by have := c3.size; simp at this; omega)))).2.2.1
        have z3 := fun w' (hw : Below w3.heap.size w3 w') => (box24_at ⟨x.op, y.dst % 16, x.src, x.off, x.imm⟩ wr w' (c3.trans (hw.mono (by have := c3.size; simp at this; omega)))).2.2.2.1
        have z4 := fun w' (hw : Below w3.heap.size w3 w') => (box24_at ⟨x.op, y.dst % 16, x.src, x.off, x.imm⟩ wr w' (c3.trans (hw.mono (by have := c3.size; simp at this; omega)))).2.2.2.2
        have zeq := fun w' => eq_insn ⟨x.op, y.dst % 16, x.src, x.off, x.imm⟩ x w'
        simp only at z0 z1 z2 z3 z4 zeq
        have hsw := hrW.size
        have hsw2 := hr2.size
        have hW3 : Below (w.heap.size + 2) W w3 := (hrW.alloc (by omega) _).trans (c3.mono (by omega))
        have h23 : Below w2.heap.size w2 w3 := (hr2.alloc hsw2 _).trans (c3.mono (by omega))
        have e1 := str_same (x.bytes.take 1) ((⟨x.op, y.dst % 16, x.src, x.off, x.imm⟩ : Insn).bytes.take 1) rfl
        have e2 := str_same (x.bytes.drop 2) ((⟨x.op, y.dst % 16, x.src, x.off, x.imm⟩ : Insn).bytes.drop 2) rfl
        have e3 := part_eq x.bytes (⟨x.op, y.dst % 16, x.src, x.off, x.imm⟩ : Insn).bytes (bytes_isByte x h hd hs) (bytes_isByte _ hzok (by simp only; omega) (by simp only; omega)) (decide ((⟨x.op, y.dst % 16, x.src, x.off, x.imm⟩ : Insn) = x)) (bytes_iff x _ h hzok hd hs (by simp only; omega) (by simp only; omega))
        have k1 := conv_upto _ hat 1 (by omega)
        have k1' := conv_upto _ hat' 1 (by omega)
        have k2 := conv_to _ hat 2 (by omega)
        have k2' := conv_to _ hat' 2 (by omega)
        have k3 := fun c'' w' (hw : Below w2.heap.size w2 w') => conv_bytes (w' := w') (c := c'') _ hat hw
        have k3' := fun c'' w' (hw : Below w3.heap.size w3 w') => conv_bytes (w' := w') (c := c'') _ hat' hw
        clear hown' c3 hat hat'
        have hrefl := Below.refl w3.heap.size w3
        have m1 : (1 : Int) ≤ (c : Int) := by omega
        have m2 : (1 : Int) ≤ (c' : Int) := by omega
        have n1 : ¬ c = 2 := by omega
        have n2 : ¬ c' = 2 := by omega
        simp only [Nat.reduceSub] at k2 k2'
        generalize decide ((⟨x.op, y.dst % 16, x.src, x.off, x.imm⟩ : Insn) = x) = same at *
        generalize strOfNums (x.bytes.take 1) = s1 at *
        generalize strOfNums (x.bytes.drop 2) = s2 at *
        generalize strOfNums x.bytes = s3 at *
        generalize strOfNums ((⟨x.op, y.dst % 16, x.src, x.off, x.imm⟩ : Insn).bytes.take 1) = t1 at *
        generalize strOfNums ((⟨x.op, y.dst % 16, x.src, x.off, x.imm⟩ : Insn).bytes.drop 2) = t2 at *
        generalize strOfNums (⟨x.op, y.dst % 16, x.src, x.off, x.imm⟩ : Insn).bytes = t3 at *
        go_wp2_with fail
        go_region_held3 (fun w' => Below (w.heap.size + 2) W w' ∧ Below w2.heap.size w2 w' ∧ Below w3.heap.size w3 w') (exact ⟨hW3.drew, h23.drew, hrefl.drew⟩) (first | fail)
        all_goals
          go_wp2_with fail
          go_roundw
          case rel => exact ⟨2, by omega, by go_num, hW3.drew, h23.drew⟩
          case measure => simp [intOf]
      · have hzok : (⟨x.op, x.dst, y.src % 16, x.off, x.imm⟩ : Insn).Ok := by constructor <;> (simp only; omega)
        go_wp2_with fail
        refine (put_ok ⟨x.op, x.dst, y.src % 16, x.off, x.imm⟩ hzok (by simp only; omega) (by simp only; omega) _).mono ?_
        rintro e w3 ⟨A', c', rfl, hown', c3⟩
        have hcap' := own_cap hown'
        obtain ⟨b', o', rfl, _, _⟩ := (SAt.own hown').2 (by omega)
        have hat' := SAt.own hown'
        have hsz3 : (wr.alloc (.cells #[.int .u8 (x.op), .int .u8 (x.dst), .int .u8 (y.src % 16), .int .i16 (x.off), .int .i32 (x.imm)] 24)).heap.size = wr.heap.size + 1 := by simp
        rw [hsz3] at c3
        clear hsz3
        have z0 := fun w' (hw : Below w3.heap.size w3 w') => (box24_at ⟨x.op, x.dst, y.src % 16, x.off, x.imm⟩ wr w' (c3.trans (hw.mono (by have := c3.size; simp at this; omega)))).1
        have z1 := fun w' (hw : Below w3.heap.size w3 w') => (box24_at ⟨x.op, x.dst, y.src % 16, x.off, x.imm⟩ wr w' (c3.trans (hw.mono (by have := c3.size; simp at this; omega)))).2.1
        have z2 := fun w' (hw : Below w3.heap.size w3 w') => (box24_at ⟨x.op, x.dst, y.src % 16, x.off, x.imm⟩ wr w' (c3.trans (hw.mono (by have := c3.size; simp at this; omega)))).2.2.1
        have z3 := fun w' (hw : Below w3.heap.size w3 w') => (box24_at ⟨x.op, x.dst, y.src % 16, x.off, x.imm⟩ wr w' (c3.trans (hw.mono (by have := c3.size; simp at this; omega)))).2.2.2.1
        have z4 := fun w' (hw : Below w3.heap.size w3 w') => (box24_at ⟨x.op, x.dst, y.src % 16, x.off, x.imm⟩ wr w' (c3.trans (hw.mono (by have := c3.size; simp at this; omega)))).2.2.2.2
        have zeq := fun w' => eq_insn ⟨x.op, x.dst, y.src % 16, x.off, x.imm⟩ x w'
        simp only at z0 z1 z2 z3 z4 zeq
        have hsw := hrW.size
        have hsw2 := hr2.size
        have hW3 : Below (w.heap.size + 2) W w3 := (hrW.alloc (by omega) _).trans (c3.mono (by omega))
        have h23 : Below w2.heap.size w2 w3 := (hr2.alloc hsw2 _).trans (c3.mono (by omega))
        have e1 := str_same (x.bytes.take 1) ((⟨x.op, x.dst, y.src % 16, x.off, x.imm⟩ : Insn).bytes.take 1) rfl
        have e2 := str_same (x.bytes.drop 2) ((⟨x.op, x.dst, y.src % 16, x.off, x.imm⟩ : Insn).bytes.drop 2) rfl
        have e3 := part_eq x.bytes (⟨x.op, x.dst, y.src % 16, x.off, x.imm⟩ : Insn).bytes (bytes_isByte x h hd hs) (bytes_isByte _ hzok (by simp only; omega) (by simp only; omega)) (decide ((⟨x.op, x.dst, y.src % 16, x.off, x.imm⟩ : Insn) = x)) (bytes_iff x _ h hzok hd hs (by simp only; omega) (by simp only; omega))
        have k1 := conv_upto _ hat 1 (by omega)
        have k1' := conv_upto _ hat' 1 (by omega)
        have k2 := conv_to _ hat 2 (by omega)
        have k2' := conv_to _ hat' 2 (by omega)
        have k3 := fun c'' w' (hw : Below w2.heap.size w2 w') => conv_bytes (w' := w') (c := c'') _ hat hw
        have k3' := fun c'' w' (hw : Below w3.heap.size w3 w') => conv_bytes (w' := w') (c := c'') _ hat' hw
        clear hown' c3 hat hat'
        have hrefl := Below.refl w3.heap.size w3
        have m1 : (1 : Int) ≤ (c : Int) := by omega
        have m2 : (1 : Int) ≤ (c' : Int) := by omega
        have n1 : ¬ c = 2 := by omega
        have n2 : ¬ c' = 2 := by omega
        simp only [Nat.reduceSub] at k2 k2'
        generalize decide ((⟨x.op, x.dst, y.src % 16, x.off, x.imm⟩ : Insn) = x) = same at *
        generalize strOfNums (x.bytes.take 1) = s1 at *
        generalize strOfNums (x.bytes.drop 2) = s2 at *
        generalize strOfNums x.bytes = s3 at *
        generalize strOfNums ((⟨x.op, x.dst, y.src % 16, x.off, x.imm⟩ : Insn).bytes.take 1) = t1 at *
        generalize strOfNums ((⟨x.op, x.dst, y.src % 16, x.off, x.imm⟩ : Insn).bytes.drop 2) = t2 at *
        generalize strOfNums (⟨x.op, x.dst, y.src % 16, x.off, x.imm⟩ : Insn).bytes = t3 at *
        go_wp2_with fail
        go_region_held3 (fun w' => Below (w.heap.size + 2) W w' ∧ Below w2.heap.size w2 w' ∧ Below w3.heap.size w3 w') (exact ⟨hW3.drew, h23.drew, hrefl.drew⟩) (first | fail)
        all_goals
          go_wp2_with fail
          go_roundw
          case rel => exact ⟨3, by omega, by go_num, hW3.drew, h23.drew⟩
          case measure => simp [intOf]
      · have hzok : (⟨x.op, x.dst, x.src, y.off, x.imm⟩ : Insn).Ok := by constructor <;> (simp only; omega)
        go_wp2_with fail
        refine (put_ok ⟨x.op, x.dst, x.src, y.off, x.imm⟩ hzok (by simp only; omega) (by simp only; omega) _).mono ?_
        rintro e w3 ⟨A', c', rfl, hown', c3⟩
        have hcap' := own_cap hown'
        obtain ⟨b', o', rfl, _, _⟩ := (SAt.own hown').2 (by omega)
        have hat' := SAt.own hown'
        have hsz3 : (wr.alloc (.cells #[.int .u8 (x.op), .int .u8 (x.dst), .int .u8 (x.src), .int .i16 (y.off), .int .i32 (x.imm)] 24)).heap.size = wr.heap.size + 1 := by simp
        rw [hsz3] at c3
        clear hsz3
        have z0 := fun w' (hw : Below w3.heap.size w3 w') => (box24_at ⟨x.op, x.dst, x.src, y.off, x.imm⟩ wr w' (c3.trans (hw.mono (by have := c3.size; simp at this; omega)))).1
        have z1 := fun w' (hw : Below w3.heap.size w3 w') => (box24_at ⟨x.op, x.dst, x.src, y.off, x.imm⟩ wr w' (c3.trans (hw.mono (by have := c3.size; simp at this; omega)))).2.1
        have z2 := fun w' (hw : Below w3.heap.size w3 w') => (box24_at ⟨x.op, x.dst, x.src, y.off, x.imm⟩ wr w' (c3.trans (hw.mono (by have := c3.size; simp at this; omega)))).2.2.1
        have z3 := fun w' (hw : Below w3.heap.size w3 w') => (box24_at ⟨x.op, x.dst, x.src, y.off, x.imm⟩ wr w' (c3.trans (hw.mono (by have := c3.size; simp at this; omega)))).2.2.2.1
        have z4 := fun w' (hw : Below w3.heap.size w3 w') => (box24_at ⟨x.op, x.dst, x.src, y.off, x.imm⟩ wr w' (c3.trans (hw.mono (by have := c3.size; simp at this; omega)))).2.2.2.2
        have zeq := fun w' => eq_insn ⟨x.op, x.dst, x.src, y.off, x.imm⟩ x w'
        simp only at z0 z1 z2 z3 z4 zeq
        have hsw := hrW.size
        have hsw2 := hr2.size
        have hW3 : Below (w.heap.size + 2) W w3 := (hrW.alloc (by omega) _).trans (c3.mono (by omega))
        have h23 : Below w2.heap.size w2 w3 := (hr2.alloc hsw2 _).trans (c3.mono (by omega))
        have e1 := str_same (x.bytes.take 2) ((⟨x.op, x.dst, x.src, y.off, x.imm⟩ : Insn).bytes.take 2) rfl
        have e2 := str_same (x.bytes.drop 4) ((⟨x.op, x.dst, x.src, y.off, x.imm⟩ : Insn).bytes.drop 4) rfl
        have e3 := part_eq x.bytes (⟨x.op, x.dst, x.src, y.off, x.imm⟩ : Insn).bytes (bytes_isByte x h hd hs) (bytes_isByte _ hzok (by simp only; omega) (by simp only; omega)) (decide ((⟨x.op, x.dst, x.src, y.off, x.imm⟩ : Insn) = x)) (bytes_iff x _ h hzok hd hs (by simp only; omega) (by simp only; omega))
        have k1 := conv_upto _ hat 2 (by omega)
        have k1' := conv_upto _ hat' 2 (by omega)
        have k2 := conv_to _ hat 4 (by omega)
        have k2' := conv_to _ hat' 4 (by omega)
        have k3 := fun c'' w' (hw : Below w2.heap.size w2 w') => conv_bytes (w' := w') (c := c'') _ hat hw
        have k3' := fun c'' w' (hw : Below w3.heap.size w3 w') => conv_bytes (w' := w') (c := c'') _ hat' hw
        clear hown' c3 hat hat'
        have hrefl := Below.refl w3.heap.size w3
        have m1 : (2 : Int) ≤ (c : Int) := by omega
        have m2 : (2 : Int) ≤ (c' : Int) := by omega
        have n1 : ¬ c = 4 := by omega
        have n2 : ¬ c' = 4 := by omega
        simp only [Nat.reduceSub] at k2 k2'
        generalize decide ((⟨x.op, x.dst, x.src, y.off, x.imm⟩ : Insn) = x) = same at *
        generalize strOfNums (x.bytes.take 2) = s1 at *
        generalize strOfNums (x.bytes.drop 4) = s2 at *
        generalize strOfNums x.bytes = s3 at *
        generalize strOfNums ((⟨x.op, x.dst, x.src, y.off, x.imm⟩ : Insn).bytes.take 2) = t1 at *
        generalize strOfNums ((⟨x.op, x.dst, x.src, y.off, x.imm⟩ : Insn).bytes.drop 4) = t2 at *
        generalize strOfNums (⟨x.op, x.dst, x.src, y.off, x.imm⟩ : Insn).bytes = t3 at *
        go_wp2_with fail
        go_region_held3 (fun w' => Below (w.heap.size + 2) W w' ∧ Below w2.heap.size w2 w' ∧ Below w3.heap.size w3 w') (exact ⟨hW3.drew, h23.drew, hrefl.drew⟩) (first | fail)
        all_goals
          go_wp2_with fail
          go_roundw
          case rel => exact ⟨4, by omega, by go_num, hW3.drew, h23.drew⟩
          case measure => simp [intOf]
      · have hzok : (⟨x.op, x.dst, x.src, x.off, y.imm⟩ : Insn).Ok := by constructor <;> (simp only; omega)
        go_wp2_with fail
        refine (put_ok ⟨x.op, x.dst, x.src, x.off, y.imm⟩ hzok (by simp only; omega) (by simp only; omega) _).mono ?_
        rintro e w3 ⟨A', c', rfl, hown', c3⟩
        have hcap' := own_cap hown'
        obtain ⟨b', o', rfl, _, _⟩ := (SAt.own hown').2 (by omega)
        have hat' := SAt.own hown'
        have hsz3 : (wr.alloc (.cells #[.int .u8 (x.op), .int .u8 (x.dst), .int .u8 (x.src), .int .i16 (x.off), .int .i32 (y.imm)] 24)).heap.size = wr.heap.size + 1 := by simp
        rw [hsz3] at c3
        clear hsz3
        have z0 := fun w' (hw : Below w3.heap.size w3 w') => (box24_at ⟨x.op, x.dst, x.src, x.off, y.imm⟩ wr w' (c3.trans (hw.mono (by have := c3.size; simp at this; omega)))).1
        have z1 := fun w' (hw : Below w3.heap.size w3 w') => (box24_at ⟨x.op, x.dst, x.src, x.off, y.imm⟩ wr w' (c3.trans (hw.mono (by have := c3.size; simp at this; omega)))).2.1
        have z2 := fun w' (hw : Below w3.heap.size w3 w') => (box24_at ⟨x.op, x.dst, x.src, x.off, y.imm⟩ wr w' (c3.trans (hw.mono (by have := c3.size; simp at this; omega)))).2.2.1
        have z3 := fun w' (hw : Below w3.heap.size w3 w') => (box24_at ⟨x.op, x.dst, x.src, x.off, y.imm⟩ wr w' (c3.trans (hw.mono (by have := c3.size; simp at this; omega)))).2.2.2.1
        have z4 := fun w' (hw : Below w3.heap.size w3 w') => (box24_at ⟨x.op, x.dst, x.src, x.off, y.imm⟩ wr w' (c3.trans (hw.mono (by have := c3.size; simp at this; omega)))).2.2.2.2
        have zeq := fun w' => eq_insn ⟨x.op, x.dst, x.src, x.off, y.imm⟩ x w'
        simp only at z0 z1 z2 z3 z4 zeq
        have hsw := hrW.size
        have hsw2 := hr2.size
        have hW3 : Below (w.heap.size + 2) W w3 := (hrW.alloc (by omega) _).trans (c3.mono (by omega))
        have h23 : Below w2.heap.size w2 w3 := (hr2.alloc hsw2 _).trans (c3.mono (by omega))
        have e1 := str_same (x.bytes.take 4) ((⟨x.op, x.dst, x.src, x.off, y.imm⟩ : Insn).bytes.take 4) rfl
        have e3 := part_eq x.bytes (⟨x.op, x.dst, x.src, x.off, y.imm⟩ : Insn).bytes (bytes_isByte x h hd hs) (bytes_isByte _ hzok (by simp only; omega) (by simp only; omega)) (decide ((⟨x.op, x.dst, x.src, x.off, y.imm⟩ : Insn) = x)) (bytes_iff x _ h hzok hd hs (by simp only; omega) (by simp only; omega))
        have k1 := conv_upto _ hat 4 (by omega)
        have k1' := conv_upto _ hat' 4 (by omega)
        have k3 := fun c'' w' (hw : Below w2.heap.size w2 w') => conv_bytes (w' := w') (c := c'') _ hat hw
        have k3' := fun c'' w' (hw : Below w3.heap.size w3 w') => conv_bytes (w' := w') (c := c'') _ hat' hw
        clear hown' c3 hat hat'
        have hrefl := Below.refl w3.heap.size w3
        have m1 : (4 : Int) ≤ (c : Int) := by omega
        have m2 : (4 : Int) ≤ (c' : Int) := by omega
        have n0 := fun A c w' => conv_zero (w' := w') A c
        generalize decide ((⟨x.op, x.dst, x.src, x.off, y.imm⟩ : Insn) = x) = same at *
        generalize strOfNums (x.bytes.take 4) = s1 at *
        generalize strOfNums x.bytes = s3 at *
        generalize strOfNums ((⟨x.op, x.dst, x.src, x.off, y.imm⟩ : Insn).bytes.take 4) = t1 at *
        generalize strOfNums (⟨x.op, x.dst, x.src, x.off, y.imm⟩ : Insn).bytes = t3 at *
        go_wp2_with fail
        go_region_held3 (fun w' => Below (w.heap.size + 2) W w' ∧ Below w2.heap.size w2 w' ∧ Below w3.heap.size w3 w') (exact ⟨hW3.drew, h23.drew, hrefl.drew⟩) (first | fail)
        all_goals
          go_wp2_with fail
          go_roundw
          case rel => exact ⟨5, by omega, by go_num, hW3.drew, h23.drew⟩
          case measure => simp [intOf]
      · go_wp2_with fail
        go_ret
        exact ⟨rfl, hb0.trans (hrW.mono (Nat.le_add_right _ 2))⟩
  · refine (put_bad x (by omega) _).mono ?_
    rintro e w2 ⟨rfl, c2⟩
    have hw2 : Below (w.heap.size + 2) W w2 := below_step hw1 hB c2
    clear c2
    go_wp2_with fail
    go_ret
    exact ⟨rfl, hb0.trans (hw2.mono (Nat.le_add_right _ 2))⟩
end Go.Proofs.Ytgbmeckhagklnaa
