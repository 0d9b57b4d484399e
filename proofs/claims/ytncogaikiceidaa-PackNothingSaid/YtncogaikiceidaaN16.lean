/- Sig, Draw, table, Right. No statement is proved here. -/
import Derived.Test.YtncogaikiceidaaN4
namespace Go.Proofs.Ytncogaikiceidaa
set_option maxRecDepth 100000
open Go.RowKit
set_option linter.unusedSimpArgs false
set_option linter.unusedVariables false
set_option linter.unnecessarySimpa false
section
/-- What layer 10's Sig hands back. -/
def SigOk (w : World) (id : Int) (e : Ending) (w' : World) : Prop :=
  Below w.heap.size w w' ∧ match sigM id with
  | none => e = .returned (.tuple #[.agg #[.slice none 0 0, .int .u8 0, .bool false, .int .u64 0], .bool false])
  | some g => ∃ A c tl, e = .returned (.tuple #[.agg #[.slice A g.told.length c, .int .u8 tl, .bool g.draws, .int .u64 g.most], .bool true]) ∧ w'.ownsRow w.heap.size 5 1 (.slice A g.told.length c) g.told.length (bytesV g.told)
theorem rsig_1 (w : World) : Calls Try.prog 83 #[.int .i64 1] w (SigOk w 1) := by
  unfold SigOk
  have hs : sigM 1 = some ⟨[1, 2], false, 0⟩ := by simp [sigM]
  rw [hs]
  have hb := below_boxes1 w (.cells #[.slice none 0 0, .int .u8 0, .bool false, .int .u64 0] 146)
  go_enter Try.func83, Try.ntmps83
  go_wp2_with fail
  refine bodyPost_ret (v := .tuple #[.agg #[.slice (some ⟨w.heap.size + 1, 0, none⟩) 2 2, .int .u8 2, .bool false, .int .u64 0], .bool true]) (by simp [results, Try.results83, go_sem]) rfl ⟨?_, ?_⟩
  · exact (below_boxes1 _ _).alloc (by simp) _
  · exact ⟨_, _, _, rfl, own_new (w.alloc _) (w.heap.size + 1) #[.int .u8 1, .int .u8 2] 5 1 2 2 w.heap.size (by simp) (Nat.le_succ _) (Nat.le_refl _) (by decide) rfl⟩
theorem rsig_2 (w : World) : Calls Try.prog 83 #[.int .i64 2] w (SigOk w 2) := by
  unfold SigOk
  have hs : sigM 2 = some ⟨[1, 2, 3, 4], false, 18446744073709551615⟩ := by simp [sigM]
  rw [hs]
  have hb := below_boxes1 w (.cells #[.slice none 0 0, .int .u8 0, .bool false, .int .u64 0] 146)
  go_enter Try.func83, Try.ntmps83
  go_wp2_with fail
  refine bodyPost_ret (v := .tuple #[.agg #[.slice (some ⟨w.heap.size + 1, 0, none⟩) 4 4, .int .u8 1, .bool false, .int .u64 18446744073709551615], .bool true]) (by simp [results, Try.results83, go_sem]) rfl ⟨?_, ?_⟩
  · exact (below_boxes1 _ _).alloc (by simp) _
  · exact ⟨_, _, _, rfl, own_new (w.alloc _) (w.heap.size + 1) #[.int .u8 1, .int .u8 2, .int .u8 3, .int .u8 4] 5 1 4 4 w.heap.size (by simp) (Nat.le_succ _) (Nat.le_refl _) (by decide) rfl⟩
theorem rsig_3 (w : World) : Calls Try.prog 83 #[.int .i64 3] w (SigOk w 3) := by
  unfold SigOk
  have hs : sigM 3 = some ⟨[1, 2], false, 18446744073709551615⟩ := by simp [sigM]
  rw [hs]
  have hb := below_boxes1 w (.cells #[.slice none 0 0, .int .u8 0, .bool false, .int .u64 0] 146)
  go_enter Try.func83, Try.ntmps83
  go_wp2_with fail
  refine bodyPost_ret (v := .tuple #[.agg #[.slice (some ⟨w.heap.size + 1, 0, none⟩) 2 2, .int .u8 1, .bool false, .int .u64 18446744073709551615], .bool true]) (by simp [results, Try.results83, go_sem]) rfl ⟨?_, ?_⟩
  · exact (below_boxes1 _ _).alloc (by simp) _
  · exact ⟨_, _, _, rfl, own_new (w.alloc _) (w.heap.size + 1) #[.int .u8 1, .int .u8 2] 5 1 2 2 w.heap.size (by simp) (Nat.le_succ _) (Nat.le_refl _) (by decide) rfl⟩
theorem rsig_5 (w : World) : Calls Try.prog 83 #[.int .i64 5] w (SigOk w 5) := by
  unfold SigOk
  have hs : sigM 5 = some ⟨[], true, 18446744073709551615⟩ := by simp [sigM]
  rw [hs]
  have hb := below_boxes1 w (.cells #[.slice none 0 0, .int .u8 0, .bool false, .int .u64 0] 146)
  go_enter Try.func83, Try.ntmps83
  go_wp2_with fail
  refine bodyPost_ret (v := .tuple #[.agg #[.slice none 0 0, .int .u8 1, .bool true, .int .u64 18446744073709551615], .bool true]) (by simp [results, Try.results83, go_sem]) rfl ⟨?_, ?_⟩
  · exact below_boxes1 _ _
  · exact ⟨_, _, _, rfl, World.ownsRow_nil _ _ _ _⟩
theorem rsig_6 (w : World) : Calls Try.prog 83 #[.int .i64 6] w (SigOk w 6) := by
  unfold SigOk
  have hs : sigM 6 = some ⟨[4, 4], false, 0⟩ := by simp [sigM]
  rw [hs]
  have hb := below_boxes1 w (.cells #[.slice none 0 0, .int .u8 0, .bool false, .int .u64 0] 146)
  go_enter Try.func83, Try.ntmps83
  go_wp2_with fail
  refine bodyPost_ret (v := .tuple #[.agg #[.slice (some ⟨w.heap.size + 1, 0, none⟩) 2 2, .int .u8 1, .bool false, .int .u64 0], .bool true]) (by simp [results, Try.results83, go_sem]) rfl ⟨?_, ?_⟩
  · exact (below_boxes1 _ _).alloc (by simp) _
  · exact ⟨_, _, _, rfl, own_new (w.alloc _) (w.heap.size + 1) #[.int .u8 4, .int .u8 4] 5 1 2 2 w.heap.size (by simp) (Nat.le_succ _) (Nat.le_refl _) (by decide) rfl⟩
theorem rsig_7 (w : World) : Calls Try.prog 83 #[.int .i64 7] w (SigOk w 7) := by
  unfold SigOk
  have hs : sigM 7 = some ⟨[], true, 4294967295⟩ := by simp [sigM]
  rw [hs]
  have hb := below_boxes1 w (.cells #[.slice none 0 0, .int .u8 0, .bool false, .int .u64 0] 146)
  go_enter Try.func83, Try.ntmps83
  go_wp2_with fail
  refine bodyPost_ret (v := .tuple #[.agg #[.slice none 0 0, .int .u8 1, .bool true, .int .u64 4294967295], .bool true]) (by simp [results, Try.results83, go_sem]) rfl ⟨?_, ?_⟩
  · exact below_boxes1 _ _
  · exact ⟨_, _, _, rfl, World.ownsRow_nil _ _ _ _⟩
theorem rsig_8 (w : World) : Calls Try.prog 83 #[.int .i64 8] w (SigOk w 8) := by
  unfold SigOk
  have hs : sigM 8 = some ⟨[], true, 63⟩ := by simp [sigM]
  rw [hs]
  have hb := below_boxes1 w (.cells #[.slice none 0 0, .int .u8 0, .bool false, .int .u64 0] 146)
  go_enter Try.func83, Try.ntmps83
  go_wp2_with fail
  refine bodyPost_ret (v := .tuple #[.agg #[.slice none 0 0, .int .u8 1, .bool true, .int .u64 63], .bool true]) (by simp [results, Try.results83, go_sem]) rfl ⟨?_, ?_⟩
  · exact below_boxes1 _ _
  · exact ⟨_, _, _, rfl, World.ownsRow_nil _ _ _ _⟩
theorem rsig_u (id : Int) (h1 : ¬ id = 1) (h2 : ¬ id = 2) (h3 : ¬ id = 3) (h5 : ¬ id = 5) (h6 : ¬ id = 6) (h7 : ¬ id = 7) (h8 : ¬ id = 8) (w : World) : Calls Try.prog 83 #[.int .i64 id] w (SigOk w id) := by
  unfold SigOk
  have hs : sigM id = none := by simp [sigM, h1, h2, h3, h5, h6, h7, h8]
  rw [hs]
  go_enter Try.func83, Try.ntmps83
  go_wp2_with fail
  refine bodyPost_ret (v := .tuple #[.agg #[.slice none 0 0, .int .u8 0, .bool false, .int .u64 0], .bool false]) (by simp [results, Try.results83, go_sem]) rfl ⟨?_, rfl⟩
  exact below_boxes1 _ _
theorem rsig10 (id : Int) (w : World) : Calls Try.prog 83 #[.int .i64 id] w (SigOk w id) := by
  by_cases h1 : id = 1
  · subst h1; exact rsig_1 w
  by_cases h2 : id = 2
  · subst h2; exact rsig_2 w
  by_cases h3 : id = 3
  · subst h3; exact rsig_3 w
  by_cases h5 : id = 5
  · subst h5; exact rsig_5 w
  by_cases h6 : id = 6
  · subst h6; exact rsig_6 w
  by_cases h7 : id = 7
  · subst h7; exact rsig_7 w
  by_cases h8 : id = 8
  · subst h8; exact rsig_8 w
  exact rsig_u id h1 h2 h3 h5 h6 h7 h8 w
end
section
theorem info53 : (Try.prog.info? 53).map (fun i => (i.zero, i.size, i.bytes)) = some (some (.int .u64 0), 1, 8) := by kernel_rfl
theorem map_ones (l : List Int) : ∀ u ∈ l.map (Value.int .u64), u.oneCell' = true := by
  intro u hu
  simp only [List.mem_map] at hu
  obtain ⟨b, -, rfl⟩ := hu
  rfl
theorem sig_draws {id : Int} {g : SigM} (h : sigM id = some g) (hd : g.draws = true) : g.most = 18446744073709551615 ∨ g.most = 4294967295 ∨ g.most = 63 := by
  unfold sigM at h
  repeat' (split at h; · cases h; first | (cases hd; done) | exact .inl rfl | exact .inr (.inl rfl) | exact .inr (.inr rfl))
  cases h
set_option maxHeartbeats 1000000 in
theorem rdraw10_nil (id : Int) (g : SigM) (hg : sigM id = some g) (hd : g.draws = true) (A : Option Addr) (c : Nat) (w : World) :
    Calls Try.prog 87 #[.int .i64 id, .slice A 0 c] w fun e w' => Below w.heap.size w w' ∧ e = .returned (.tuple #[.int .u64 0, .slice none 0 0, .int .i64 100]) := by
  have hs := rsig10 id w
  unfold SigOk at hs
  rw [hg] at hs
  simp only [hd] at hs
  go_enter Try.func87, Try.ntmps87
  go_wp2_with fail
  refine hs.mono ?_
  rintro e w1 ⟨hb, A1, c1, tl, rfl, -⟩
  have hb2 := hb.alloc hb.size (.cells #[.slice A1 g.told.length c1, .int .u8 tl, .bool true, .int .u64 g.most] 146)
  go_wp2_with fail
  refine bodyPost_ret (v := .tuple #[.int .u64 0, .slice none 0 0, .int .i64 100]) (by simp [results, Try.results87, go_sem]) rfl ⟨hb2, rfl⟩
set_option maxHeartbeats 1000000 in
theorem rdraw10_a1 (id : Int) (g : SigM) (hg : sigM id = some g) (hd : g.draws = true) (n : Int) (r : List Int) (hn : U64 n) (hfew : r.length ≤ 1000) (gd c : Nat) (w : World) (h0 : w.cell? ⟨gd, 0, none⟩ = some (.int .u64 n)) (hlt0 : gd < w.heap.size) (hcap : r.length + 1 ≤ c) (hat : ∀ w', Below w.heap.size w w' → SAt w' w.heap.size 1 (some ⟨gd, 0, none⟩) r.length (r.map (Value.int .u64))) (hm : g.most = 18446744073709551615) (hc : c = 1) :
    Calls Try.prog 87 #[.int .i64 id, .slice (some ⟨gd, 0, none⟩) (r.length + 1) c] w fun e w' => Below w.heap.size w w' ∧ ∃ v, e = .returned (.tuple #[.int .u64 n, v, .int .i64 0]) ∧ w'.ownsRow w.heap.size 53 1 v r.length (r.map (Value.int .u64)) := by
  obtain ⟨hn0, hn1⟩ := hn
  obtain ⟨i0, hi0, hz0, hz1, hz2⟩ := info_parts info53
  have hs := rsig10 id w
  have hcc : 1 ≤ c := by omega
  have hcci : (1 : Int) ≤ (c : Int) := by omega
  have hri : (1 : Int) ≤ ((r.length : Nat) : Int) + 1 := by omega
  have hrj : ((r.length + 1 : Nat) : Int) ≠ 0 := by omega
  obtain ⟨tol, dr, mo⟩ := g
  simp only at *
  subst hm
  subst hd
  unfold SigOk at hs
  rw [hg] at hs
  go_enter Try.func87, Try.ntmps87
  go_wp2_with fail
  refine hs.mono ?_
  rintro e w1 ⟨hb, A1, c1, tl, rfl, -⟩
  have hb2 := hb.alloc hb.size (.cells #[.slice A1 tol.length c1, .int .u8 tl, .bool true, .int .u64 18446744073709551615] 146)
  have hx3 := boxc (heap_alloc_new w1 (.cells #[.slice A1 tol.length c1, .int .u8 tl, .bool true, .int .u64 18446744073709551615] 146)) (k := 3) (u := .int .u64 18446744073709551615) rfl _ (Below.refl _ _)
  have hx2 := boxc (heap_alloc_new w1 (.cells #[.slice A1 tol.length c1, .int .u8 tl, .bool true, .int .u64 18446744073709551615] 146)) (k := 2) (u := .bool true) rfl _ (Below.refl _ _)
  have hc0 := (hb2.cell (p := ⟨gd, 0, none⟩) hlt0).trans h0
  clear hs hg
  generalize hW : w1.alloc (.cells #[.slice A1 tol.length c1, .int .u8 tl, .bool true, .int .u64 18446744073709551615] 146) = W at *
  go_wp2_with fail
  go_loopw [9] (fun q wr => q = .int .u64 n ∧ wr = W) (fun q _ => 0)
  case atStart => exact ⟨rfl, rfl⟩
  case round =>
    obtain ⟨rfl, rfl⟩ := hrel
    go_upto_region 9 with fail
    have hown0 : (wr.alloc (.cells #[] 53)).ownsRow w.heap.size 53 1 (.slice (some ⟨wr.heap.size, 0, none⟩) 0 0) 0 [] := own_new wr wr.heap.size #[] 53 1 0 0 w.heap.size rfl hb2.size (Nat.le_refl _) (by decide) rfl
    have hat1 := hat _ (hb2.alloc hb2.size (.cells #[] 53))
    go_wp2_with (at_builtin; refine wpList_append_sat rfl (.tmp 43) (.tmp 45) 26 rfl w.heap.size 53 i0 (.int .u64 0) 1 8 Try.underlying26 hi0 hz0 hz1 hz2 rfl (by decide) _ 0 0 _ rfl hown0 w.heap.size (some ⟨gd, 0, none⟩) r.length _ _ rfl hat1 (map_ones _) ?c2 ?c3 ?c4 ?c5)
    case c2 => simp only [maxLen]; omega
    case c3 => omega
    case c4 => simp; exact Nat.le_succ_of_le hb2.size
    case c5 =>
      intro A' c' w5 ho5 _ hb5 _
      have hb6 := (hb2.alloc hb2.size (.cells #[] 53)).trans hb5
      have HO := Lib.hid ho5
      clear ho5 hown0 hat1 hat hb5
      go_wp2_with fail
      refine bodyPost_ret (v := .tuple #[.int .u64 n, .slice A' (0 + r.length) c', .int .i64 0]) (by simp [results, Try.results87, go_sem]) rfl ⟨hb6, _, rfl, by simpa using HO.out⟩
set_option maxHeartbeats 1000000 in
theorem rdraw10_a2 (id : Int) (g : SigM) (hg : sigM id = some g) (hd : g.draws = true) (n : Int) (r : List Int) (hn : U64 n) (hfew : r.length ≤ 1000) (gd c : Nat) (w : World) (h0 : w.cell? ⟨gd, 0, none⟩ = some (.int .u64 n)) (hlt0 : gd < w.heap.size) (hcap : r.length + 1 ≤ c) (hat : ∀ w', Below w.heap.size w w' → SAt w' w.heap.size 1 (some ⟨gd, 1, none⟩) r.length (r.map (Value.int .u64))) (hm : g.most = 18446744073709551615) (hc : ¬ c = 1) :
    Calls Try.prog 87 #[.int .i64 id, .slice (some ⟨gd, 0, none⟩) (r.length + 1) c] w fun e w' => Below w.heap.size w w' ∧ ∃ v, e = .returned (.tuple #[.int .u64 n, v, .int .i64 0]) ∧ w'.ownsRow w.heap.size 53 1 v r.length (r.map (Value.int .u64)) := by
  obtain ⟨hn0, hn1⟩ := hn
  obtain ⟨i0, hi0, hz0, hz1, hz2⟩ := info_parts info53
  have hs := rsig10 id w
  have hcc : 1 ≤ c := by omega
  have hcci : (1 : Int) ≤ (c : Int) := by omega
  have hri : (1 : Int) ≤ ((r.length : Nat) : Int) + 1 := by omega
  have hrj : ((r.length + 1 : Nat) : Int) ≠ 0 := by omega
  obtain ⟨tol, dr, mo⟩ := g
  simp only at *
  subst hm
  subst hd
  unfold SigOk at hs
  rw [hg] at hs
  go_enter Try.func87, Try.ntmps87
  go_wp2_with fail
  refine hs.mono ?_
  rintro e w1 ⟨hb, A1, c1, tl, rfl, -⟩
  have hb2 := hb.alloc hb.size (.cells #[.slice A1 tol.length c1, .int .u8 tl, .bool true, .int .u64 18446744073709551615] 146)
  have hx3 := boxc (heap_alloc_new w1 (.cells #[.slice A1 tol.length c1, .int .u8 tl, .bool true, .int .u64 18446744073709551615] 146)) (k := 3) (u := .int .u64 18446744073709551615) rfl _ (Below.refl _ _)
  have hx2 := boxc (heap_alloc_new w1 (.cells #[.slice A1 tol.length c1, .int .u8 tl, .bool true, .int .u64 18446744073709551615] 146)) (k := 2) (u := .bool true) rfl _ (Below.refl _ _)
  have hc0 := (hb2.cell (p := ⟨gd, 0, none⟩) hlt0).trans h0
  clear hs hg
  generalize hW : w1.alloc (.cells #[.slice A1 tol.length c1, .int .u8 tl, .bool true, .int .u64 18446744073709551615] 146) = W at *
  go_wp2_with fail
  go_loopw [9] (fun q wr => q = .int .u64 n ∧ wr = W) (fun q _ => 0)
  case atStart => exact ⟨rfl, rfl⟩
  case round =>
    obtain ⟨rfl, rfl⟩ := hrel
    go_upto_region 9 with fail
    have hown0 : (wr.alloc (.cells #[] 53)).ownsRow w.heap.size 53 1 (.slice (some ⟨wr.heap.size, 0, none⟩) 0 0) 0 [] := own_new wr wr.heap.size #[] 53 1 0 0 w.heap.size rfl hb2.size (Nat.le_refl _) (by decide) rfl
    have hat1 := hat _ (hb2.alloc hb2.size (.cells #[] 53))
    go_wp2_with (at_builtin; refine wpList_append_sat rfl (.tmp 43) (.tmp 45) 26 rfl w.heap.size 53 i0 (.int .u64 0) 1 8 Try.underlying26 hi0 hz0 hz1 hz2 rfl (by decide) _ 0 0 _ rfl hown0 w.heap.size (some ⟨gd, 1, none⟩) r.length _ _ rfl hat1 (map_ones _) ?c2 ?c3 ?c4 ?c5)
    case c2 => simp only [maxLen]; omega
    case c3 => omega
    case c4 => simp; exact Nat.le_succ_of_le hb2.size
    case c5 =>
      intro A' c' w5 ho5 _ hb5 _
      have hb6 := (hb2.alloc hb2.size (.cells #[] 53)).trans hb5
      have HO := Lib.hid ho5
      clear ho5 hown0 hat1 hat hb5
      go_wp2_with fail
      refine bodyPost_ret (v := .tuple #[.int .u64 n, .slice A' (0 + r.length) c', .int .i64 0]) (by simp [results, Try.results87, go_sem]) rfl ⟨hb6, _, rfl, by simpa using HO.out⟩
set_option maxHeartbeats 1000000 in
theorem rdraw10_b1 (id : Int) (g : SigM) (hg : sigM id = some g) (hd : g.draws = true) (n : Int) (r : List Int) (hn : U64 n) (hfew : r.length ≤ 1000) (gd c : Nat) (w : World) (h0 : w.cell? ⟨gd, 0, none⟩ = some (.int .u64 n)) (hlt0 : gd < w.heap.size) (hcap : r.length + 1 ≤ c) (hat : ∀ w', Below w.heap.size w w' → SAt w' w.heap.size 1 (some ⟨gd, 0, none⟩) r.length (r.map (Value.int .u64))) (hm : ¬ g.most = 18446744073709551615) (hlt : ¬ g.most < n) (hc : c = 1) :
    Calls Try.prog 87 #[.int .i64 id, .slice (some ⟨gd, 0, none⟩) (r.length + 1) c] w fun e w' => Below w.heap.size w w' ∧ ∃ v, e = .returned (.tuple #[.int .u64 n, v, .int .i64 0]) ∧ w'.ownsRow w.heap.size 53 1 v r.length (r.map (Value.int .u64)) := by
  obtain ⟨hn0, hn1⟩ := hn
  obtain ⟨i0, hi0, hz0, hz1, hz2⟩ := info_parts info53
  have hs := rsig10 id w
  have hcc : 1 ≤ c := by omega
  have hcci : (1 : Int) ≤ (c : Int) := by omega
  have hri : (1 : Int) ≤ ((r.length : Nat) : Int) + 1 := by omega
  have hrj : ((r.length + 1 : Nat) : Int) ≠ 0 := by omega
  obtain ⟨tol, dr, mo⟩ := g
  simp only at *
  subst hd
  have hmb : (mo != 18446744073709551615) = true := by simpa using hm
  unfold SigOk at hs
  rw [hg] at hs
  go_enter Try.func87, Try.ntmps87
  go_wp2_with fail
  refine hs.mono ?_
  rintro e w1 ⟨hb, A1, c1, tl, rfl, -⟩
  have hb2 := hb.alloc hb.size (.cells #[.slice A1 tol.length c1, .int .u8 tl, .bool true, .int .u64 mo] 146)
  have hx3 := boxc (heap_alloc_new w1 (.cells #[.slice A1 tol.length c1, .int .u8 tl, .bool true, .int .u64 mo] 146)) (k := 3) (u := .int .u64 mo) rfl _ (Below.refl _ _)
  have hx2 := boxc (heap_alloc_new w1 (.cells #[.slice A1 tol.length c1, .int .u8 tl, .bool true, .int .u64 mo] 146)) (k := 2) (u := .bool true) rfl _ (Below.refl _ _)
  have hc0 := (hb2.cell (p := ⟨gd, 0, none⟩) hlt0).trans h0
  clear hs hg
  generalize hW : w1.alloc (.cells #[.slice A1 tol.length c1, .int .u8 tl, .bool true, .int .u64 mo] 146) = W at *
  go_wp2_with fail
  go_loopw [9] (fun q wr => q = .int .u64 n ∧ wr = W) (fun q _ => 0)
  case atStart => exact ⟨rfl, rfl⟩
  case round =>
    obtain ⟨rfl, rfl⟩ := hrel
    go_upto_region 9 with fail
    have hown0 : (wr.alloc (.cells #[] 53)).ownsRow w.heap.size 53 1 (.slice (some ⟨wr.heap.size, 0, none⟩) 0 0) 0 [] := own_new wr wr.heap.size #[] 53 1 0 0 w.heap.size rfl hb2.size (Nat.le_refl _) (by decide) rfl
    have hat1 := hat _ (hb2.alloc hb2.size (.cells #[] 53))
    go_wp2_with (at_builtin; refine wpList_append_sat rfl (.tmp 43) (.tmp 45) 26 rfl w.heap.size 53 i0 (.int .u64 0) 1 8 Try.underlying26 hi0 hz0 hz1 hz2 rfl (by decide) _ 0 0 _ rfl hown0 w.heap.size (some ⟨gd, 0, none⟩) r.length _ _ rfl hat1 (map_ones _) ?c2 ?c3 ?c4 ?c5)
    case c2 => simp only [maxLen]; omega
    case c3 => omega
    case c4 => simp; exact Nat.le_succ_of_le hb2.size
    case c5 =>
      intro A' c' w5 ho5 _ hb5 _
      have hb6 := (hb2.alloc hb2.size (.cells #[] 53)).trans hb5
      have HO := Lib.hid ho5
      clear ho5 hown0 hat1 hat hb5
      go_wp2_with fail
      refine bodyPost_ret (v := .tuple #[.int .u64 n, .slice A' (0 + r.length) c', .int .i64 0]) (by simp [results, Try.results87, go_sem]) rfl ⟨hb6, _, rfl, by simpa using HO.out⟩
set_option maxHeartbeats 1000000 in
theorem rdraw10_b2 (id : Int) (g : SigM) (hg : sigM id = some g) (hd : g.draws = true) (n : Int) (r : List Int) (hn : U64 n) (hfew : r.length ≤ 1000) (gd c : Nat) (w : World) (h0 : w.cell? ⟨gd, 0, none⟩ = some (.int .u64 n)) (hlt0 : gd < w.heap.size) (hcap : r.length + 1 ≤ c) (hat : ∀ w', Below w.heap.size w w' → SAt w' w.heap.size 1 (some ⟨gd, 1, none⟩) r.length (r.map (Value.int .u64))) (hm : ¬ g.most = 18446744073709551615) (hlt : ¬ g.most < n) (hc : ¬ c = 1) :
    Calls Try.prog 87 #[.int .i64 id, .slice (some ⟨gd, 0, none⟩) (r.length + 1) c] w fun e w' => Below w.heap.size w w' ∧ ∃ v, e = .returned (.tuple #[.int .u64 n, v, .int .i64 0]) ∧ w'.ownsRow w.heap.size 53 1 v r.length (r.map (Value.int .u64)) := by
  obtain ⟨hn0, hn1⟩ := hn
  obtain ⟨i0, hi0, hz0, hz1, hz2⟩ := info_parts info53
  have hs := rsig10 id w
  have hcc : 1 ≤ c := by omega
  have hcci : (1 : Int) ≤ (c : Int) := by omega
  have hri : (1 : Int) ≤ ((r.length : Nat) : Int) + 1 := by omega
  have hrj : ((r.length + 1 : Nat) : Int) ≠ 0 := by omega
  obtain ⟨tol, dr, mo⟩ := g
  simp only at *
  subst hd
  have hmb : (mo != 18446744073709551615) = true := by simpa using hm
  unfold SigOk at hs
  rw [hg] at hs
  go_enter Try.func87, Try.ntmps87
  go_wp2_with fail
  refine hs.mono ?_
  rintro e w1 ⟨hb, A1, c1, tl, rfl, -⟩
  have hb2 := hb.alloc hb.size (.cells #[.slice A1 tol.length c1, .int .u8 tl, .bool true, .int .u64 mo] 146)
  have hx3 := boxc (heap_alloc_new w1 (.cells #[.slice A1 tol.length c1, .int .u8 tl, .bool true, .int .u64 mo] 146)) (k := 3) (u := .int .u64 mo) rfl _ (Below.refl _ _)
  have hx2 := boxc (heap_alloc_new w1 (.cells #[.slice A1 tol.length c1, .int .u8 tl, .bool true, .int .u64 mo] 146)) (k := 2) (u := .bool true) rfl _ (Below.refl _ _)
  have hc0 := (hb2.cell (p := ⟨gd, 0, none⟩) hlt0).trans h0
  clear hs hg
  generalize hW : w1.alloc (.cells #[.slice A1 tol.length c1, .int .u8 tl, .bool true, .int .u64 mo] 146) = W at *
  go_wp2_with fail
  go_loopw [9] (fun q wr => q = .int .u64 n ∧ wr = W) (fun q _ => 0)
  case atStart => exact ⟨rfl, rfl⟩
  case round =>
    obtain ⟨rfl, rfl⟩ := hrel
    go_upto_region 9 with fail
    have hown0 : (wr.alloc (.cells #[] 53)).ownsRow w.heap.size 53 1 (.slice (some ⟨wr.heap.size, 0, none⟩) 0 0) 0 [] := own_new wr wr.heap.size #[] 53 1 0 0 w.heap.size rfl hb2.size (Nat.le_refl _) (by decide) rfl
    have hat1 := hat _ (hb2.alloc hb2.size (.cells #[] 53))
    go_wp2_with (at_builtin; refine wpList_append_sat rfl (.tmp 43) (.tmp 45) 26 rfl w.heap.size 53 i0 (.int .u64 0) 1 8 Try.underlying26 hi0 hz0 hz1 hz2 rfl (by decide) _ 0 0 _ rfl hown0 w.heap.size (some ⟨gd, 1, none⟩) r.length _ _ rfl hat1 (map_ones _) ?c2 ?c3 ?c4 ?c5)
    case c2 => simp only [maxLen]; omega
    case c3 => omega
    case c4 => simp; exact Nat.le_succ_of_le hb2.size
    case c5 =>
      intro A' c' w5 ho5 _ hb5 _
      have hb6 := (hb2.alloc hb2.size (.cells #[] 53)).trans hb5
      have HO := Lib.hid ho5
      clear ho5 hown0 hat1 hat hb5
      go_wp2_with fail
      refine bodyPost_ret (v := .tuple #[.int .u64 n, .slice A' (0 + r.length) c', .int .i64 0]) (by simp [results, Try.results87, go_sem]) rfl ⟨hb6, _, rfl, by simpa using HO.out⟩
set_option maxHeartbeats 1000000 in
theorem rdraw10_c1 (id : Int) (g : SigM) (hg : sigM id = some g) (hd : g.draws = true) (n : Int) (r : List Int) (hn : U64 n) (hfew : r.length ≤ 1000) (gd c : Nat) (w : World) (h0 : w.cell? ⟨gd, 0, none⟩ = some (.int .u64 n)) (hlt0 : gd < w.heap.size) (hcap : r.length + 1 ≤ c) (hat : ∀ w', Below w.heap.size w w' → SAt w' w.heap.size 1 (some ⟨gd, 0, none⟩) r.length (r.map (Value.int .u64))) (hm : g.most = 4294967295 ∨ g.most = 63) (hlt : g.most < n) (hc : c = 1) :
    Calls Try.prog 87 #[.int .i64 id, .slice (some ⟨gd, 0, none⟩) (r.length + 1) c] w fun e w' => Below w.heap.size w w' ∧ ∃ v, e = .returned (.tuple #[.int .u64 (n % (g.most + 1)), v, .int .i64 0]) ∧ w'.ownsRow w.heap.size 53 1 v r.length (r.map (Value.int .u64)) := by
  obtain ⟨hn0, hn1⟩ := hn
  obtain ⟨i0, hi0, hz0, hz1, hz2⟩ := info_parts info53
  have hs := rsig10 id w
  have hcc : 1 ≤ c := by omega
  have hcci : (1 : Int) ≤ (c : Int) := by omega
  have hri : (1 : Int) ≤ ((r.length : Nat) : Int) + 1 := by omega
  have hrj : ((r.length + 1 : Nat) : Int) ≠ 0 := by omega
  obtain ⟨tol, dr, mo⟩ := g
  simp only at *
  subst hd
  have hmn : ¬ mo = 18446744073709551615 := by omega
  have hmb : (mo != 18446744073709551615) = true := by simpa using hmn
  have hwr : IntKind.u64.wrap (mo + 1) = mo + 1 := by rw [IntKind.wrap_u64]; omega
  have hnz : (mo + 1 == 0) = false := by simp; omega
  have hnz2 : ¬ mo + 1 = 0 := by omega
  have hm0 : 0 ≤ mo := by omega
  have hmd : ¬ mo < n % (mo + 1) := by
    have := Int.emod_lt_of_pos n (show 0 < mo + 1 by omega)
    omega
  have hmd2 : n.tmod (mo + 1) = n % (mo + 1) := Int.tmod_eq_emod_of_nonneg hn0
  have hwr2 : IntKind.u64.wrap (n % (mo + 1)) = n % (mo + 1) := by
    have h1 := Int.emod_lt_of_pos n (show 0 < mo + 1 by omega)
    have h2 := Int.emod_nonneg n (show mo + 1 ≠ 0 by omega)
    rw [IntKind.wrap_u64]; omega
  unfold SigOk at hs
  rw [hg] at hs
  go_enter Try.func87, Try.ntmps87
  go_wp2_with fail
  refine hs.mono ?_
  rintro e w1 ⟨hb, A1, c1, tl, rfl, -⟩
  have hb2 := hb.alloc hb.size (.cells #[.slice A1 tol.length c1, .int .u8 tl, .bool true, .int .u64 mo] 146)
  have hx3 := boxc (heap_alloc_new w1 (.cells #[.slice A1 tol.length c1, .int .u8 tl, .bool true, .int .u64 mo] 146)) (k := 3) (u := .int .u64 mo) rfl _ (Below.refl _ _)
  have hx2 := boxc (heap_alloc_new w1 (.cells #[.slice A1 tol.length c1, .int .u8 tl, .bool true, .int .u64 mo] 146)) (k := 2) (u := .bool true) rfl _ (Below.refl _ _)
  have hc0 := (hb2.cell (p := ⟨gd, 0, none⟩) hlt0).trans h0
  clear hs hg
  generalize hW : w1.alloc (.cells #[.slice A1 tol.length c1, .int .u8 tl, .bool true, .int .u64 mo] 146) = W at *
  go_wp2_with fail
  go_loopw [9] (fun q wr => (q = .int .u64 n ∨ q = .int .u64 (n % (mo + 1))) ∧ wr = W) (fun q _ => (intOf q).toNat)
  case atStart => exact ⟨.inl rfl, rfl⟩
  case round =>
    obtain ⟨hq, rfl⟩ := hrel
    rcases hq with rfl | rfl
    · go_wp2_with fail
      go_roundw
      case rel => exact ⟨.inr (by simp [hmd2, hwr2, hwr]), trivial⟩
      all_goals
        have h1 := Int.emod_lt_of_pos n (show 0 < mo + 1 by omega)
        have h2 := Int.emod_nonneg n (show mo + 1 ≠ 0 by omega)
        simp [intOf, hmd2, hwr2, hwr]
        omega
    · go_upto_region 9 with fail
      have hown0 : (wr.alloc (.cells #[] 53)).ownsRow w.heap.size 53 1 (.slice (some ⟨wr.heap.size, 0, none⟩) 0 0) 0 [] := own_new wr wr.heap.size #[] 53 1 0 0 w.heap.size rfl hb2.size (Nat.le_refl _) (by decide) rfl
      have hat1 := hat _ (hb2.alloc hb2.size (.cells #[] 53))
      go_wp2_with (at_builtin; refine wpList_append_sat rfl (.tmp 43) (.tmp 45) 26 rfl w.heap.size 53 i0 (.int .u64 0) 1 8 Try.underlying26 hi0 hz0 hz1 hz2 rfl (by decide) _ 0 0 _ rfl hown0 w.heap.size (some ⟨gd, 0, none⟩) r.length _ _ rfl hat1 (map_ones _) ?c2 ?c3 ?c4 ?c5)
      case c2 => simp only [maxLen]; omega
      case c3 => omega
      case c4 => simp; exact Nat.le_succ_of_le hb2.size
      case c5 =>
        intro A' c' w5 ho5 _ hb5 _
        have hb6 := (hb2.alloc hb2.size (.cells #[] 53)).trans hb5
        have HO := Lib.hid ho5
        clear ho5 hown0 hat1 hat hb5
        go_wp2_with fail
        refine bodyPost_ret (v := .tuple #[.int .u64 (n % (mo + 1)), .slice A' (0 + r.length) c', .int .i64 0]) (by simp [results, Try.results87, go_sem]) rfl ⟨hb6, _, rfl, by simpa using HO.out⟩
set_option maxHeartbeats 1000000 in
theorem rdraw10_c2 (id : Int) (g : SigM) (hg : sigM id = some g) (hd : g.draws = true) (n : Int) (r : List Int) (hn : U64 n) (hfew : r.length ≤ 1000) (gd c : Nat) (w : World) (h0 : w.cell? ⟨gd, 0, none⟩ = some (.int .u64 n)) (hlt0 : gd < w.heap.size) (hcap : r.length + 1 ≤ c) (hat : ∀ w', Below w.heap.size w w' → SAt w' w.heap.size 1 (some ⟨gd, 1, none⟩) r.length (r.map (Value.int .u64))) (hm : g.most = 4294967295 ∨ g.most = 63) (hlt : g.most < n) (hc : ¬ c = 1) :
    Calls Try.prog 87 #[.int .i64 id, .slice (some ⟨gd, 0, none⟩) (r.length + 1) c] w fun e w' => Below w.heap.size w w' ∧ ∃ v, e = .returned (.tuple #[.int .u64 (n % (g.most + 1)), v, .int .i64 0]) ∧ w'.ownsRow w.heap.size 53 1 v r.length (r.map (Value.int .u64)) := by
  obtain ⟨hn0, hn1⟩ := hn
  obtain ⟨i0, hi0, hz0, hz1, hz2⟩ := info_parts info53
  have hs := rsig10 id w
  have hcc : 1 ≤ c := by omega
  have hcci : (1 : Int) ≤ (c : Int) := by omega
  have hri : (1 : Int) ≤ ((r.length : Nat) : Int) + 1 := by omega
  have hrj : ((r.length + 1 : Nat) : Int) ≠ 0 := by omega
  obtain ⟨tol, dr, mo⟩ := g
  simp only at *
  subst hd
  have hmn : ¬ mo = 18446744073709551615 := by omega
  have hmb : (mo != 18446744073709551615) = true := by simpa using hmn
  have hwr : IntKind.u64.wrap (mo + 1) = mo + 1 := by rw [IntKind.wrap_u64]; omega
  have hnz : (mo + 1 == 0) = false := by simp; omega
  have hnz2 : ¬ mo + 1 = 0 := by omega
  have hm0 : 0 ≤ mo := by omega
  have hmd : ¬ mo < n % (mo + 1) := by
    have := Int.emod_lt_of_pos n (show 0 < mo + 1 by omega)
    omega
  have hmd2 : n.tmod (mo + 1) = n % (mo + 1) := Int.tmod_eq_emod_of_nonneg hn0
  have hwr2 : IntKind.u64.wrap (n % (mo + 1)) = n % (mo + 1) := by
    have h1 := Int.emod_lt_of_pos n (show 0 < mo + 1 by omega)
    have h2 := Int.emod_nonneg n (show mo + 1 ≠ 0 by omega)
    rw [IntKind.wrap_u64]; omega
  unfold SigOk at hs
  rw [hg] at hs
  go_enter Try.func87, Try.ntmps87
  go_wp2_with fail
  refine hs.mono ?_
  rintro e w1 ⟨hb, A1, c1, tl, rfl, -⟩
  have hb2 := hb.alloc hb.size (.cells #[.slice A1 tol.length c1, .int .u8 tl, .bool true, .int .u64 mo] 146)
  have hx3 := boxc (heap_alloc_new w1 (.cells #[.slice A1 tol.length c1, .int .u8 tl, .bool true, .int .u64 mo] 146)) (k := 3) (u := .int .u64 mo) rfl _ (Below.refl _ _)
  have hx2 := boxc (heap_alloc_new w1 (.cells #[.slice A1 tol.length c1, .int .u8 tl, .bool true, .int .u64 mo] 146)) (k := 2) (u := .bool true) rfl _ (Below.refl _ _)
  have hc0 := (hb2.cell (p := ⟨gd, 0, none⟩) hlt0).trans h0
  clear hs hg
  generalize hW : w1.alloc (.cells #[.slice A1 tol.length c1, .int .u8 tl, .bool true, .int .u64 mo] 146) = W at *
  go_wp2_with fail
  go_loopw [9] (fun q wr => (q = .int .u64 n ∨ q = .int .u64 (n % (mo + 1))) ∧ wr = W) (fun q _ => (intOf q).toNat)
  case atStart => exact ⟨.inl rfl, rfl⟩
  case round =>
    obtain ⟨hq, rfl⟩ := hrel
    rcases hq with rfl | rfl
    · go_wp2_with fail
      go_roundw
      case rel => exact ⟨.inr (by simp [hmd2, hwr2, hwr]), trivial⟩
      all_goals
        have h1 := Int.emod_lt_of_pos n (show 0 < mo + 1 by omega)
        have h2 := Int.emod_nonneg n (show mo + 1 ≠ 0 by omega)
        simp [intOf, hmd2, hwr2, hwr]
        omega
    · go_upto_region 9 with fail
      have hown0 : (wr.alloc (.cells #[] 53)).ownsRow w.heap.size 53 1 (.slice (some ⟨wr.heap.size, 0, none⟩) 0 0) 0 [] := own_new wr wr.heap.size #[] 53 1 0 0 w.heap.size rfl hb2.size (Nat.le_refl _) (by decide) rfl
      have hat1 := hat _ (hb2.alloc hb2.size (.cells #[] 53))
      go_wp2_with (at_builtin; refine wpList_append_sat rfl (.tmp 43) (.tmp 45) 26 rfl w.heap.size 53 i0 (.int .u64 0) 1 8 Try.underlying26 hi0 hz0 hz1 hz2 rfl (by decide) _ 0 0 _ rfl hown0 w.heap.size (some ⟨gd, 1, none⟩) r.length _ _ rfl hat1 (map_ones _) ?c2 ?c3 ?c4 ?c5)
      case c2 => simp only [maxLen]; omega
      case c3 => omega
      case c4 => simp; exact Nat.le_succ_of_le hb2.size
      case c5 =>
        intro A' c' w5 ho5 _ hb5 _
        have hb6 := (hb2.alloc hb2.size (.cells #[] 53)).trans hb5
        have HO := Lib.hid ho5
        clear ho5 hown0 hat1 hat hb5
        go_wp2_with fail
        refine bodyPost_ret (v := .tuple #[.int .u64 (n % (mo + 1)), .slice A' (0 + r.length) c', .int .i64 0]) (by simp [results, Try.results87, go_sem]) rfl ⟨hb6, _, rfl, by simpa using HO.out⟩
theorem rdraw10 (id : Int) (g : SigM) (hg : sigM id = some g) (hd : g.draws = true) {own : Own} {ro : Role} {w : World} (l : List Int) (hU : ∀ n ∈ l, U64 n) (hfew : l.length ≤ 1000) (A : Option Addr) (c : Nat) (h : RowIn own ro w 53 1 (.slice A l.length c) l.length (l.map (Value.int .u64))) :
    Calls Try.prog 87 #[.int .i64 id, .slice A l.length c] w fun e w' => Below w.heap.size w w' ∧ ∃ v, e = .returned (.tuple #[.int .u64 (drawM g.most l).1, v, .int .i64 (drawM g.most l).2.2]) ∧ w'.ownsRow w.heap.size 53 1 v (drawM g.most l).2.1.length ((drawM g.most l).2.1.map (Value.int .u64)) := by
  cases l with
  | nil =>
    refine (rdraw10_nil id g hg hd A c w).mono ?_
    rintro e w' ⟨hb, rfl⟩
    exact ⟨hb, _, rfl, World.ownsRow_nil _ _ _ _⟩
  | cons n r =>
    have hcap := own_cap h.row
    obtain ⟨gd, c', hv, hgd, -, hc⟩ := h.get (by simp)
    simp only [Value.slice.injEq, List.length_cons] at hv
    obtain ⟨rfl, -, rfl⟩ := hv
    simp only [List.length_cons] at hcap hfew ⊢
    have h0 : w.cell? ⟨gd, 0, none⟩ = some (.int .u64 n) := hc 0 _ rfl
    have hn := hU n (by simp)
    have hat0 : ∀ w', Below w.heap.size w w' → SAt w' w.heap.size 1 (some ⟨gd, 1, none⟩) r.length (r.map (Value.int .u64)) := fun w' hb =>
      ⟨by simp, fun _ => ⟨gd, 1, rfl, hgd, fun j u hu => (hb.cell (p := ⟨gd, 1 + j, none⟩) hgd).trans (hc _ _ (by rw [Nat.add_comm]; simpa using hu))⟩⟩
    have hm := sig_draws hg hd
    have hM : drawM g.most (n :: r) = (if g.most ≠ 18446744073709551615 ∧ g.most < n then n % (g.most + 1) else n, r, 0) := rfl
    rw [hM]
    simp only
    by_cases hc1 : c = 1
    · have hr : r = [] := List.eq_nil_of_length_eq_zero (by omega)
      have hat1 : ∀ w', Below w.heap.size w w' → SAt w' w.heap.size 1 (some ⟨gd, 0, none⟩) r.length (r.map (Value.int .u64)) := fun w' _ => by
        subst hr; exact ⟨rfl, fun h => absurd h (by simp)⟩
      by_cases ha : g.most = 18446744073709551615
      · rw [if_neg (by omega)]
        exact rdraw10_a1 id g hg hd n r hn (by omega) gd c w h0 hgd hcap hat1 ha hc1
      · by_cases hlt : g.most < n
        · rw [if_pos ⟨ha, hlt⟩]
          exact rdraw10_c1 id g hg hd n r hn (by omega) gd c w h0 hgd hcap hat1 (by omega) hlt hc1
        · rw [if_neg (by omega)]
          exact rdraw10_b1 id g hg hd n r hn (by omega) gd c w h0 hgd hcap hat1 ha hlt hc1
    · by_cases ha : g.most = 18446744073709551615
      · rw [if_neg (by omega)]
        exact rdraw10_a2 id g hg hd n r hn (by omega) gd c w h0 hgd hcap hat0 ha hc1
      · by_cases hlt : g.most < n
        · rw [if_pos ⟨ha, hlt⟩]
          exact rdraw10_c2 id g hg hd n r hn (by omega) gd c w h0 hgd hcap hat0 (by omega) hlt hc1
        · rw [if_neg (by omega)]
          exact rdraw10_b2 id g hg hd n r hn (by omega) gd c w h0 hgd hcap hat0 ha hlt hc1
end
section
theorem defsV_length : ∀ (l : List DefM), (defsV l).length = l.length * 4
  | [] => rfl
  | a :: l => by rw [defsV, List.length_append, defsV_length l]; simp [defV]; omega
theorem defsV_get : ∀ (l : List DefM) (k : Nat) (hk : k < l.length) (j : Nat), j < 4 → (defsV l)[k * 4 + j]? = (defV l[k])[j]?
  | a :: l, 0, _, j, hj => by
    rw [defsV, List.getElem?_append_left (by simp [defV]; omega)]; simp
  | a :: l, k + 1, hk, j, hj => by
    rw [defsV, List.getElem?_append_right (by simp [defV]; omega), show (k + 1) * 4 + j - (defV a).length = k * 4 + j by simp [defV]; omega, defsV_get l k (by simpa using hk) j hj]
    simp
theorem defs_at {w : World} {B n : Nat} {A : Option Addr} {l : List DefM} (h : SAt w B 4 A l.length (defsV l)) {k : Nat} (hk : k < l.length) : ∃ b o, A = some ⟨b, o, none⟩ ∧ b < B ∧
    w.cell? ⟨b, o + k * 4, none⟩ = some (.bool l[k].hash) ∧ w.cell? ⟨b, o + k * 4 + 1, none⟩ = some (.int .i64 l[k].key) ∧ w.cell? ⟨b, o + k * 4 + 2, none⟩ = some (.int .i64 l[k].val) ∧ w.cell? ⟨b, o + k * 4 + 3, none⟩ = some (.int .i64 l[k].max) := by
  obtain ⟨b, o, e, hb, hc⟩ := h.2 (by omega)
  have hg := fun j (hj : j < 4) u (hu : (defV l[k])[j]? = some u) => hc (k * 4 + j) u (by rw [defsV_get l k hk j hj]; exact hu)
  refine ⟨b, o, e, hb, hg 0 (by omega) _ rfl, ?_, ?_, ?_⟩
  · have := hg 1 (by omega) _ rfl; rwa [← Nat.add_assoc] at this
  · have := hg 2 (by omega) _ rfl; rwa [← Nat.add_assoc] at this
  · have := hg 3 (by omega) _ rfl; rwa [← Nat.add_assoc] at this
set_option maxHeartbeats 1000000 in
theorem rright9 (l : List DefM) (A : Option Addr) (c : Nat) (w : World) (h : SAt w w.heap.size 4 A l.length (defsV l)) (hn : l.length ≤ 1000000) :
    Calls Try.prog 34 #[.slice A l.length c] w fun e w' => e = .returned (.bool (defsOk l)) ∧ Below w.heap.size w w' := by
  have hrf := Below.refl w.heap.size w
  have hat := fun w' (hb : Below w.heap.size w w') (k : Nat) (hk : k < l.length) => defs_at (n := 0) (h.below hb) hk
  go_enter Try.func34, Try.ntmps34
  go_wp2_with fail
  go_loopw [3] (fun q wr => ∃ j : Nat, j ≤ l.length ∧ q = .int .i64 j ∧ (∀ i, (hi : i < l.length) → i < j → defOk l[i] = true) ∧ Below w.heap.size w wr) (fun q _ => l.length - (intOf q).toNat)
  case atStart => exact ⟨0, by omega, rfl, fun i _ h => absurd h (by omega), hrf⟩
  case round =>
    obtain ⟨j, hj, rfl, hok, hb⟩ := hrel
    rcases Nat.lt_or_ge j l.length with hlt | hge
    · obtain ⟨b, o, rfl, hbw, c0, c1, c2, c3⟩ := hat _ hb j hlt
      have hji : (j : Int) < (l.length : Int) := by omega
      have hbX := hb.alloc hb.size (.cells #[.bool l[j].hash, .int .i64 l[j].key, .int .i64 l[j].val, .int .i64 l[j].max] 100)
      have HF := Lib.hid (show defOk l[j] = false → defsOk l = false from fun hd => by
        unfold defsOk
        rw [show l.all defOk = false from by rw [List.all_eq_false]; exact ⟨l[j], List.getElem_mem hlt, by rw [hd]; decide⟩]; rfl)
      have HN := Lib.hid (show defOk l[j] = true → ∀ i, (hi : i < l.length) → i < j + 1 → defOk l[i] = true from fun hd i hi h => by
        rcases Nat.lt_or_ge i j with h2 | h2
        · exact hok i hi h2
        · obtain rfl : i = j := by omega
          exact hd)
      have HD := Lib.hid (show defOk l[j] = ((if l[j].hash then 1 ≤ l[j].key && l[j].key ≤ 16 else l[j].key == 4) && 8 ≤ l[j].val && l[j].val ≤ 64 && l[j].val % 8 == 0 && 1 ≤ l[j].max && l[j].max ≤ 16) from rfl)
      clear hok hat h
      generalize hdd : defOk l[j] = D at *
      generalize l[j].hash = d0 at *
      generalize l[j].key = d1 at *
      generalize l[j].val = d2 at *
      generalize l[j].max = d3 at *
      clear hdd
      cases d0
      · have HD2 := Lib.hid (show D = (d1 == 4 && decide (8 ≤ d2) && decide (d2 ≤ 64) && d2 % 8 == 0 && decide (1 ≤ d3) && decide (d3 ≤ 16)) from by rw [HD.out]; rfl)
        go_wp2_with fail
        all_goals first
          | (go_ret
             refine ⟨?_, hb.alloc hb.size _⟩
             rw [HF.out (by rw [HD2.out]; apply Bool.eq_false_iff.2; intro h; simp only [Bool.and_eq_true, decide_eq_true_eq, beq_iff_eq] at h; omega)]
             rfl)
          | (refine ⟨⟨j + 1, by omega, by go_num, HN.out (by rw [HD2.out]; simp only [Bool.and_eq_true, decide_eq_true_eq, beq_iff_eq]; omega), hb.alloc hb.size _⟩, ?_⟩
             simp [intOf]; omega)
      · have HD2 := Lib.hid (show D = (decide (1 ≤ d1) && decide (d1 ≤ 16) && decide (8 ≤ d2) && decide (d2 ≤ 64) && d2 % 8 == 0 && decide (1 ≤ d3) && decide (d3 ≤ 16)) from by rw [HD.out]; rfl)
        go_wp2_with fail
        all_goals first
          | (go_ret
             refine ⟨?_, hb.alloc hb.size _⟩
             rw [HF.out (by rw [HD2.out]; apply Bool.eq_false_iff.2; intro h; simp only [Bool.and_eq_true, decide_eq_true_eq, beq_iff_eq] at h; omega)]
             rfl)
          | (refine ⟨⟨j + 1, by omega, by go_num, HN.out (by rw [HD2.out]; simp only [Bool.and_eq_true, decide_eq_true_eq, beq_iff_eq]; omega), hb.alloc hb.size _⟩, ?_⟩
             simp [intOf]; omega)
    · have hji : ¬ (j : Int) < (l.length : Int) := by omega
      have hall : l.all defOk = true := by
        rw [List.all_eq_true]
        intro d hd
        obtain ⟨i, hi, rfl⟩ := List.getElem_of_mem hd
        exact hok i hi (by omega)
      have HR := Lib.hid (show defsOk l = decide ((l.length : Int) ≤ 8) from by
        unfold defsOk; rw [hall, Bool.true_and]; exact decide_eq_decide.2 (by omega))
      clear hok hat hall
      go_wp2_with fail
      go_ret
      exact ⟨by rw [HR.out]; rfl, hb⟩
end
section
theorem rword11 (i : Nat) (hi : i ≤ 1000) (w : World) : Calls Try.prog 66 #[.int .i64 i] w fun e w' => e = .returned (.int .u64 (wordM i)) ∧ w' = w := by
  have ha := fun w => rat8 3 i (by decide) (by decide) (by omega) (by omega) w
  go_enter Try.func66, Try.ntmps66
  go_wp2_with fail
  refine (ha _).mono ?_
  rintro e w1 ⟨rfl, rfl⟩
  go_wp2_with fail
  go_ret
  exact ⟨rfl, rfl⟩
theorem table_next (n : Int) (j k : Nat) : idxM ((List.range' j (k + 1)).map wordM) n j = if wordM j = n then (j : Int) else idxM ((List.range' (j + 1) k).map wordM) n (j + 1) := by
  rw [List.range'_succ, List.map_cons, idxM]
theorem rtable11 {own : Own} {w : World} {pM : Nat} {g : Gh} {l : List Insn} {defs : List DefM} {m : MchM} (h : MchIn own w pM g l defs m) (hd : defs.length ≤ 1000) (n : Int) :
    Calls Try.prog 92 #[.pointer (some ⟨pM, 0, none⟩), .int .u64 n] w fun e w' => e = .returned (.int .i64 (tableM n defs.length)) ∧ Below w.heap.size w w' := by
  obtain ⟨cd, hD, -⟩ := h.maps
  have hc : ∀ w', Below w.heap.size w w' → w'.cell? ⟨pM, 25, none⟩ = some (.slice g.AD defs.length cd) := fun w' hb => by
    have := (h.blk.below hb).cell (mch_hi h.lr h.ls 2)
    rw [this]; simp [hD]
  have hT : tableM n defs.length = idxM ((List.range' 0 defs.length).map wordM) n 0 := by unfold tableM; rw [List.range_eq_range']
  have hrf := Below.refl w.heap.size w
  clear h hD
  generalize tableM n defs.length = T at *
  generalize defs.length = N at *
  go_enter Try.func92, Try.ntmps92
  go_wp2_with fail
  go_loopw [5] (fun q wr => ∃ j : Nat, j ≤ N ∧ q = .int .i64 j ∧ T = idxM ((List.range' j (N - j)).map wordM) n j ∧ wr = w) (fun q _ => N - (intOf q).toNat)
  case atStart => exact ⟨0, by omega, rfl, hT, rfl⟩
  case round =>
    obtain ⟨j, hj, rfl, he, rfl⟩ := hrel
    have z := hc _ hrf
    rcases Nat.lt_or_ge j N with hlt | hge
    · rw [show N - j = (N - (j + 1)) + 1 by omega, table_next] at he
      have hji : (j : Int) < (N : Int) := by omega
      have hw := fun w => rword11 j (by omega) w
      have HE := Lib.hid he
      clear he hT
      by_cases hx : wordM j = n
      · generalize wordM j = q at *
        go_wp2_with fail
        refine (hw _).mono ?_
        rintro e w2 ⟨rfl, rfl⟩
        go_wp2_with fail
        go_ret
        exact ⟨by rw [HE.out, if_pos hx]; rfl, hrf⟩
      · have hxb : (wordM j == n) = false := by simpa using hx
        generalize wordM j = q at *
        go_wp2_with fail
        refine (hw _).mono ?_
        rintro e w2 ⟨rfl, rfl⟩
        go_wp2_with fail
        go_roundw
        case rel => exact ⟨j + 1, by omega, by go_num, by rw [HE.out, if_neg hx], trivial⟩
        all_goals (simp [intOf]; omega)
    · have he2 : T = -1 := by rw [he, show N - j = 0 by omega]; rfl
      have HE := Lib.hid he2
      have hji : ¬ (j : Int) < (N : Int) := by omega
      clear he he2 hT
      go_wp2_with fail
      go_ret
      exact ⟨by rw [HE.out]; rfl, hrf⟩
end
end Go.Proofs.Ytncogaikiceidaa
