/- append with a row of zeros. No statement is proved here. -/
import Derived.Test.YtgbmeckhagklnaaEncode
namespace Go.Proofs.Ytgbmeckhagklnaa
open Go.RowKit
set_option linter.unusedSimpArgs false
set_option linter.unusedVariables false
set_option linter.unnecessarySimpa false
theorem run_zeros_grow (P : Program) (w : World) (t u ty e : TypeId) (i : TypeInfo) (z : Value) (ht : P.underlying t = some (.slice e)) (hu : P.underlying u = some (.int .i64)) (hi : P.info? e = some i) (hz : i.zero = some z) (hzs : z.cells.size = i.size) (hsz : 0 < i.size)
    (b : Addr) (sLen sCap : Nat) (olds : List Value) (hlo : olds.length = sLen * i.size) (holds : ∀ j v, olds[j]? = some v → w.cell? (b.add j) = some v)
    (n : Nat) (h0 : 0 < n) (hg : sCap < sLen + n) (h63 : ((sLen + n : Nat) : Int) ≤ 9223372036854775807) (hfit : Builtin.nextslicecap (sLen + n) sCap * i.bytes ≤ 281474976710656) (h48 : n * i.bytes ≤ 281474976710656) :
    (Builtin.append_ #[t, u] ty #[.slice (some b) sLen sCap, .int .i64 n]).run P w =
      .ok (.slice (some ⟨w.heap.size, 0, none⟩) (sLen + n) (grownCap w (sLen + n) sCap e))
        (w.drew.alloc (.cells (olds.toArray ++ Builtin.zeroCells z.cells n ++ Builtin.zeroCells z.cells (grownCap w (sLen + n) sCap e - (sLen + n))) e)) := by
  have hn : ¬ (sLen + n ≤ sCap) := by omega
  have h63' : ¬ (9223372036854775807 < ((sLen : Int) + (n : Int))) := by omega
  have h48' : ¬ (281474976710656 < Builtin.nextslicecap (sLen + n) sCap * i.bytes) := by omega
  have hfo := run_firstCells_some (P := P) w.drew i.size sLen b sLen sCap olds hlo (by simpa using holds)
  have hwr : IntKind.i64.wrap (n : Int) = n := by rw [IntKind.wrap_i64]; omega
  have h1 : ¬ ((n : Int) < 0) := by omega
  have h2 : ¬ (281474976710656 < (n : Int) * (i.bytes : Int)) := by rw [← Int.natCast_mul]; omega
  have h3 : ¬ (n * i.size = 0) := Nat.mul_ne_zero (by omega) (by omega)
  have h5 : max (n : Int) 0 = n := by omega
  simp [Builtin.append_, run_underlying ht, run_underlying hu, sizeOf, typeInfo, zeroValue, hi, hz, Builtin.lenOf, asInt, asIntOf, hwr, h5, h1, h2, h3, hn, h63', h48', Question.forced, hfo, newRow, grownCap]
theorem run_zeros_room (P : Program) (w : World) (t u ty e : TypeId) (i : TypeInfo) (z : Value) (ht : P.underlying t = some (.slice e)) (hu : P.underlying u = some (.int .i64)) (hi : P.info? e = some i) (hz : i.zero = some z) (hzs : z.cells.size = i.size) (hsz : 0 < i.size)
    (g sLen sCap : Nat) (cur : Array Value) (hg : w.heap[g]? = some (.cells cur e (0, 0))) (n : Nat) (h0 : 0 < n) (h1' : ∀ v ∈ (Builtin.zeroCells z.cells n).toList, v.oneCell' = true)
    (hroom : sLen + n ≤ sCap) (h48 : n * i.bytes ≤ 281474976710656) (hn63 : n ≤ 9223372036854775807) (hfit : sLen * i.size + (Builtin.zeroCells z.cells n).toList.length ≤ cur.size) :
    (Builtin.append_ #[t, u] ty #[.slice (some ⟨g, 0, none⟩) sLen sCap, .int .i64 n]).run P w =
      .ok (.slice (some ⟨g, 0, none⟩) (sLen + n) sCap) (w.setRow g (cur.toList.take (sLen * i.size) ++ (Builtin.zeroCells z.cells n).toList ++ cur.toList.drop (sLen * i.size + (Builtin.zeroCells z.cells n).toList.length)).toArray) := by
  have hwr : IntKind.i64.wrap (n : Int) = n := by rw [IntKind.wrap_i64]; omega
  have h1 : ¬ ((n : Int) < 0) := by omega
  have h2 : ¬ (281474976710656 < (n : Int) * (i.bytes : Int)) := by rw [← Int.natCast_mul]; omega
  have h3 : ¬ (n * i.size = 0) := Nat.mul_ne_zero (by omega) (by omega)
  have h5 : max (n : Int) 0 = n := by omega
  have hst := run_storeCells_at P g (sLen * i.size) e (Builtin.zeroCells z.cells n).toList 0 cur w hg (by simpa using hfit) h1'
  simp only [Nat.add_zero] at hst
  simp [Builtin.append_, run_underlying ht, run_underlying hu, sizeOf, typeInfo, zeroValue, hi, hz, Builtin.lenOf, asInt, asIntOf, hwr, h5, h1, h2, h3, hroom, Addr.add_lit, hst]
theorem zero_list (z : Value) (n : Nat) : (Builtin.zeroCells #[z] n).toList = List.replicate n z := by
  unfold Builtin.zeroCells
  apply List.ext_getElem?
  intro k
  simp only [Array.toList_map, Array.toList_range]
  rcases Nat.lt_or_ge k n with hk | hk
  · rw [List.getElem?_map, List.getElem?_range (by simpa using hk), List.getElem?_replicate, if_pos hk]
    simp [Nat.mod_one]
  · rw [List.getElem?_eq_none (by simpa using hk), List.getElem?_eq_none (by simpa using hk)]
/-- 'append(v, make([]byte, m)...)', v a row of the call's own that is not empty. -/
theorem own_zeros (w : World) (base : Nat) (ty : TypeId) (i : TypeInfo) (hi : Try.prog.info? 5 = some i) (hz : i.zero = some (.int .u8 0)) (hsize : i.size = 1) (hby : i.bytes = 1)
    (g n cap : Nat) (xs : List Value) (hown : w.ownsRow base 5 1 (.slice (some ⟨g, 0, none⟩) n cap) n xs) (m : Nat) (h0 : 0 < m) (hn : n + m ≤ 1000000) (hbase : base ≤ w.heap.size) :
    ∃ A' c' w', (Builtin.append_ #[26, 3] ty #[.slice (some ⟨g, 0, none⟩) n cap, .int .i64 m]).run Try.prog w = .ok (.slice A' (n + m) c') w' ∧ w'.ownsRow base 5 1 (.slice A' (n + m) c') (n + m) (xs ++ List.replicate m (.int .u8 0)) ∧ Below base w w' := by
  have hlen : (xs ++ List.replicate m (Value.int .u8 0)).length = (n + m) * 1 := by rw [List.length_append, hown.1, List.length_replicate]; omega
  have holds : ∀ j u, xs[j]? = some u → w.cell? ((⟨g, 0, none⟩ : Addr).add j) = some u := hown.cells (g := g) rfl
  have hxs := hown.1
  rcases hown.2 with ⟨hv, _⟩ | ⟨g', cap', cur, hv, hbg, hg, hnc, hcm, hcs, htake⟩
  · cases hv
  · injection hv with hA hB hC
    injection hA with hA
    injection hA with hA
    subst hA hC
    have hzl := zero_list (.int .u8 0) m
    by_cases hroom : n + m ≤ cap
    · have hr := run_zeros_room Try.prog w 26 3 ty 5 i (.int .u8 0) Try.underlying26 Try.underlying3 hi hz (by rw [hsize]; rfl) (by omega) g n cap cur hg m h0 (by
          rw [show (Value.int IntKind.u8 0).cells = #[Value.int .u8 0] from rfl, hzl]
          intro v hv
          rw [List.eq_of_mem_replicate hv]; rfl) hroom (by rw [hby]; omega) (by omega) (by
          rw [show (Value.int IntKind.u8 0).cells = #[Value.int .u8 0] from rfl, hzl, hsize, List.length_replicate]; omega)
      rw [show (Value.int IntKind.u8 0).cells = #[Value.int .u8 0] from rfl, hzl, hsize, List.length_replicate] at hr
      refine ⟨_, _, _, hr, ⟨hlen, .inr ⟨g, cap, _, rfl, hbg, setRow_heap w g cur _ 5 _ hg, hroom, hcm, ?_, ?_⟩⟩, ?_⟩
      · simp only [List.size_toArray, List.length_append, List.length_take, List.length_drop, Array.length_toList, List.length_replicate]
        omega
      · rw [htake, ← hlen]
        exact List.take_left
      · exact ⟨rfl, rfl, rfl, by simp, fun k hk => setRow_other w g k _ (by omega)⟩
    · have hr := run_zeros_grow Try.prog w 26 3 ty 5 i (.int .u8 0) Try.underlying26 Try.underlying3 hi hz (by rw [hsize]; rfl) (by omega) ⟨g, 0, none⟩ n cap xs (by rw [hsize]; exact hxs) holds m h0 (by omega) (by omega) (growslice_fits (by omega) (by rw [hby]; omega)) (by rw [hby]; omega)
      have hge := grownCap_ge w (n + m) cap 5
      have hcm' : grownCap w (n + m) cap 5 ≤ maxLen := grownCap_le_maxLen w (n + m) cap 5 (by simp only [maxLen]; omega)
      refine ⟨_, _, _, hr, ⟨hlen, .inr ⟨w.heap.size, _, _, rfl, hbase, heap_alloc_new w.drew _, hge, hcm', ?_, ?_⟩⟩, ?_⟩
      · rw [show (Value.int IntKind.u8 0).cells = #[Value.int .u8 0] from rfl]
        simp only [Array.size_append, List.size_toArray, size_zeroCells, hxs]
        have e1 : [Value.int IntKind.u8 0].length = 1 := rfl
        rw [e1]
        omega
      · rw [show (Value.int IntKind.u8 0).cells = #[Value.int .u8 0] from rfl]
        simp only [Array.toList_append, hzl]
        rw [← hlen]
        exact List.take_left
      · exact ((Below.refl base w).drew).alloc (by simpa using hbase) _
end Go.Proofs.Ytgbmeckhagklnaa
