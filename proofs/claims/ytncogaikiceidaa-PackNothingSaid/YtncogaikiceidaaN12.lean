/- Put, but for its last arm. No statement is proved here. -/
import Derived.Test.YtncogaikiceidaaN4
import Derived.BigQuiet
import Derived.StillTailTactics
section
namespace Go.Proofs.Ytncogaikiceidaa
set_option maxRecDepth 100000
open Go.RowKit
set_option linter.unusedSimpArgs false
set_option linter.unusedVariables false
set_option linter.unnecessarySimpa false
section
/-- What a change of tables and memory hands on. -/
def TurnOk (own : Own) (w : World) (pt pm : Nat) (v : Value) (r : List AreaM × List MapM × Int × Int) (e : Ending) (w' : World) : Prop :=
  e = .returned (.tuple #[.int .u64 r.2.2.1, .int .i64 r.2.2.2]) ∧ ∃ own' vm' sl' ks', (∀ b, b < w.heap.size → own' b = own b) ∧ TabIn own' w' pt pm v ks' r.2.1 ∧ MemIn own' w' pm vm' sl' r.1 ∧ Kept own.memTab w w'
theorem mapAt_cells {own : Own} {w : World} {pt pm : Nat} {v : Value} {ks : Nat → Value} {t : List MapM} (h : TabIn own w pt pm v ks t) {k : Nat} (hk : k < t.length) : ∃ g c, v = .slice (some ⟨g, 0, none⟩) t.length c ∧
    ∀ w', Below w.heap.size w w' → w'.cell? ⟨pt, 0, none⟩ = some (.pointer (some ⟨pm, 0, none⟩)) ∧ w'.cell? ⟨pt, 1, none⟩ = some (.slice (some ⟨g, 0, none⟩) t.length c) ∧ w'.cell? ⟨g, k * 6, none⟩ = some (.bool t[k].d.hash) ∧ w'.cell? ⟨g, k * 6 + 1, none⟩ = some (.int .i64 t[k].d.key) ∧ w'.cell? ⟨g, k * 6 + 2, none⟩ = some (.int .i64 t[k].d.val) ∧ w'.cell? ⟨g, k * 6 + 3, none⟩ = some (.int .i64 t[k].d.max) ∧ w'.cell? ⟨g, k * 6 + 4, none⟩ = some (ks k) ∧ w'.cell? ⟨g, k * 6 + 5, none⟩ = some (.int .i64 t[k].made) := by
  obtain ⟨g, c, rfl, hg, -, hc⟩ := h.at_ hk
  exact ⟨g, c, rfl, fun w' hb => ⟨(h.below hb).blk.cell rfl, (h.below hb).blk.cell rfl, (hb.cell (p := ⟨g, k * 6, none⟩) hg).trans (hc 0 _ rfl), (hb.cell (p := ⟨g, k * 6 + 1, none⟩) hg).trans (hc 1 _ rfl), (hb.cell (p := ⟨g, k * 6 + 2, none⟩) hg).trans (hc 2 _ rfl), (hb.cell (p := ⟨g, k * 6 + 3, none⟩) hg).trans (hc 3 _ rfl), (hb.cell (p := ⟨g, k * 6 + 4, none⟩) hg).trans (hc 4 _ rfl), (hb.cell (p := ⟨g, k * 6 + 5, none⟩) hg).trans (hc 5 _ rfl)⟩⟩
theorem put_eq (mem : List AreaM) (t : List MapM) (k : Nat) (key val : List Int) (flags : Int) (hk : k < t.length) (hmy : mayM t k key = true) (hvl : (val.length : Int) = t[k].d.val) : putM mem t k key val flags =
    if 2 < flags then (mem, t, minusM 22, 0)
    else if findK t[k].l key < 0 ∧ t[k].d.hash = false then (mem, t, minusM 7, 0)
    else if 0 ≤ findK t[k].l key ∧ flags = 1 then (mem, t, minusM 17, 0)
    else if 0 ≤ findK t[k].l key then (fillM mem k (findK t[k].l key) 0 val, t, 0, 0)
    else if flags = 2 then (mem, t, minusM 2, 0)
    else if t[k].d.max ≤ t[k].l.length then (mem, t, minusM 7, 0)
    else if 1024 ≤ t[k].made then (mem, t, minusM 12, 0)
    else if (makeM mem (slotArea k t[k].made) val false false).2 ≠ 0 then (mem, t, minusM 12, 0)
    else ((makeM mem (slotArea k t[k].made) val false false).1, t.set k { t[k] with l := t[k].l.take (putPos t[k].l key) ++ [⟨key, t[k].made⟩] ++ t[k].l.drop (putPos t[k].l key), made := t[k].made + 1 }, 0, 0) := by
  unfold putM
  rw [if_neg (by rw [hmy, Int.toNat_natCast, mapAt_get hk]; simp [hvl])]
  simp only [Int.toNat_natCast, mapAt_get hk]
set_option maxHeartbeats 1000000 in
theorem rput91 {own : Own} {w : World} {pt pm : Nat} {v vm : Value} {ks : Nat → Value} {sl : Nat → Value × Value} {mem : List AreaM} {t : List MapM} (h : TabIn own w pt pm v ks t) (hm : MemIn own w pm vm sl mem) (hn : mem.length ≤ 1000000)
    (k : Nat) (hk : k < t.length) (key val : List Int) (flags : Int) (hmy : mayM t k key = true) (hvl : (val.length : Int) = t[k].d.val) (hkey : BytesOk key) (B : Nat) (hB : B ≤ w.heap.size) (A A2 : Option Addr) (c c2 : Nat) (hat : SAt w B 1 A key.length (bytesV key)) (f1 : 2 < flags) :
    Calls Try.prog 16 #[.pointer (some ⟨pt, 0, none⟩), .int .i64 k, .slice A key.length c, .slice A2 val.length c2, .int .u64 flags] w (TurnOk own w pt pm v (putM mem t k key val flags)) := by
  have hT := fun w' (hb : Below w.heap.size w w') => h.below hb
  have hM := fun w' (hb : Below w.heap.size w w') => hm.below hb
  have hmay := fun w' (hb : Below w.heap.size w w') => rmay9 (h.below hb) k key A c
  rw [hmy] at hmay
  have hfi := fun w' (hb : Below w.heap.size w w') => rfind9 (h.below hb) k hk key hkey B (Nat.le_trans hB hb.size) A c (hat.below (hb.mono hB))
  have hR0 := put_eq mem t k key val flags hk hmy hvl
  obtain ⟨g, cv, rfl, hcs⟩ := mapAt_cells h hk
  obtain ⟨Ak, ck, hks⟩ := (h.keys k hk).slice
  rw [hks] at hcs
  have hfw := h.few
  have hki : (k : Int) < (t.length : Int) := by omega
  have hrf := Below.refl w.heap.size w
  have hvb : ((val.length : Int) != t[k].d.val) = false := by simpa using hvl
  unfold TurnOk
  rw [hR0]
  rw [if_pos f1]
  clear hR0 h hat
  generalize t[k].d.hash = dh at *
  generalize t[k].d.key = dk at *
  generalize t[k].d.val = dv at *
  generalize t[k].d.max = dm at *
  generalize t[k].made = md at *
  generalize t[k].l.length = nl at *
  generalize findK t[k].l key = s at *
  go_enter Try.func16, Try.ntmps16
  go_wp2_with fail
  refine (hmay _ hrf).mono ?_
  rintro e w1 ⟨rfl, rfl⟩
  obtain ⟨z0, z1, z2, z3, z4, z5, z6, z7⟩ := hcs _ hrf
  go_wp2_with fail
  refine (hfi _ hrf).mono ?_
  rintro e w2 ⟨rfl, hb2⟩
  clear z0 z1 z2 z3 z4 z5 z6 z7
  obtain ⟨z0, z1, z2, z3, z4, z5, z6, z7⟩ := hcs _ hb2
  have hbW := hb2.alloc hb2.size (.cells #[.bool dh, .int .i64 dk, .int .i64 dv, .int .i64 dm, .slice Ak nl ck, .int .i64 md] 103)
  go_wp2_with fail
  refine (rminus9 22 (by decide) (by decide) _).mono ?_
  rintro e w3 ⟨rfl, rfl⟩
  go_wp2_with fail
  go_ret2
  exact ⟨rfl, own, vm, sl, ks, fun _ _ => rfl, hT _ hbW, hM _ hbW, Kept.of hbW (Nat.le_refl _)⟩
set_option maxHeartbeats 1000000 in
theorem rput92 {own : Own} {w : World} {pt pm : Nat} {v vm : Value} {ks : Nat → Value} {sl : Nat → Value × Value} {mem : List AreaM} {t : List MapM} (h : TabIn own w pt pm v ks t) (hm : MemIn own w pm vm sl mem) (hn : mem.length ≤ 1000000)
    (k : Nat) (hk : k < t.length) (key val : List Int) (flags : Int) (hmy : mayM t k key = true) (hvl : (val.length : Int) = t[k].d.val) (hkey : BytesOk key) (B : Nat) (hB : B ≤ w.heap.size) (A A2 : Option Addr) (c c2 : Nat) (hat : SAt w B 1 A key.length (bytesV key)) (f1 : ¬ 2 < flags) (f2 : findK t[k].l key < 0) (f3 : t[k].d.hash = false) :
    Calls Try.prog 16 #[.pointer (some ⟨pt, 0, none⟩), .int .i64 k, .slice A key.length c, .slice A2 val.length c2, .int .u64 flags] w (TurnOk own w pt pm v (putM mem t k key val flags)) := by
  have hT := fun w' (hb : Below w.heap.size w w') => h.below hb
  have hM := fun w' (hb : Below w.heap.size w w') => hm.below hb
  have hmay := fun w' (hb : Below w.heap.size w w') => rmay9 (h.below hb) k key A c
  rw [hmy] at hmay
  have hfi := fun w' (hb : Below w.heap.size w w') => rfind9 (h.below hb) k hk key hkey B (Nat.le_trans hB hb.size) A c (hat.below (hb.mono hB))
  have hR0 := put_eq mem t k key val flags hk hmy hvl
  obtain ⟨g, cv, rfl, hcs⟩ := mapAt_cells h hk
  obtain ⟨Ak, ck, hks⟩ := (h.keys k hk).slice
  rw [hks] at hcs
  have hfw := h.few
  have hki : (k : Int) < (t.length : Int) := by omega
  have hrf := Below.refl w.heap.size w
  have hvb : ((val.length : Int) != t[k].d.val) = false := by simpa using hvl
  unfold TurnOk
  rw [hR0]
  rw [if_neg f1, if_pos ⟨f2, f3⟩]
  clear hR0 h hat
  generalize t[k].d.hash = dh at *
  generalize t[k].d.key = dk at *
  generalize t[k].d.val = dv at *
  generalize t[k].d.max = dm at *
  generalize t[k].made = md at *
  generalize t[k].l.length = nl at *
  generalize findK t[k].l key = s at *
  subst f3
  go_enter Try.func16, Try.ntmps16
  go_wp2_with fail
  refine (hmay _ hrf).mono ?_
  rintro e w1 ⟨rfl, rfl⟩
  obtain ⟨z0, z1, z2, z3, z4, z5, z6, z7⟩ := hcs _ hrf
  go_wp2_with fail
  refine (hfi _ hrf).mono ?_
  rintro e w2 ⟨rfl, hb2⟩
  clear z0 z1 z2 z3 z4 z5 z6 z7
  obtain ⟨z0, z1, z2, z3, z4, z5, z6, z7⟩ := hcs _ hb2
  have hbW := hb2.alloc hb2.size (.cells #[.bool false, .int .i64 dk, .int .i64 dv, .int .i64 dm, .slice Ak nl ck, .int .i64 md] 103)
  go_wp2_with fail
  refine (rminus9 7 (by decide) (by decide) _).mono ?_
  rintro e w3 ⟨rfl, rfl⟩
  go_wp2_with fail
  go_ret2
  exact ⟨rfl, own, vm, sl, ks, fun _ _ => rfl, hT _ hbW, hM _ hbW, Kept.of hbW (Nat.le_refl _)⟩
set_option maxHeartbeats 1000000 in
theorem rput93 {own : Own} {w : World} {pt pm : Nat} {v vm : Value} {ks : Nat → Value} {sl : Nat → Value × Value} {mem : List AreaM} {t : List MapM} (h : TabIn own w pt pm v ks t) (hm : MemIn own w pm vm sl mem) (hn : mem.length ≤ 1000000)
    (k : Nat) (hk : k < t.length) (key val : List Int) (flags : Int) (hmy : mayM t k key = true) (hvl : (val.length : Int) = t[k].d.val) (hkey : BytesOk key) (B : Nat) (hB : B ≤ w.heap.size) (A A2 : Option Addr) (c c2 : Nat) (hat : SAt w B 1 A key.length (bytesV key)) (f1 : flags = 1) (f2 : 0 ≤ findK t[k].l key) :
    Calls Try.prog 16 #[.pointer (some ⟨pt, 0, none⟩), .int .i64 k, .slice A key.length c, .slice A2 val.length c2, .int .u64 flags] w (TurnOk own w pt pm v (putM mem t k key val flags)) := by
  have hT := fun w' (hb : Below w.heap.size w w') => h.below hb
  have hM := fun w' (hb : Below w.heap.size w w') => hm.below hb
  have hmay := fun w' (hb : Below w.heap.size w w') => rmay9 (h.below hb) k key A c
  rw [hmy] at hmay
  have hfi := fun w' (hb : Below w.heap.size w w') => rfind9 (h.below hb) k hk key hkey B (Nat.le_trans hB hb.size) A c (hat.below (hb.mono hB))
  have hR0 := put_eq mem t k key val flags hk hmy hvl
  obtain ⟨g, cv, rfl, hcs⟩ := mapAt_cells h hk
  obtain ⟨Ak, ck, hks⟩ := (h.keys k hk).slice
  rw [hks] at hcs
  have hfw := h.few
  have hki : (k : Int) < (t.length : Int) := by omega
  have hrf := Below.refl w.heap.size w
  have hvb : ((val.length : Int) != t[k].d.val) = false := by simpa using hvl
  unfold TurnOk
  rw [hR0]
  subst f1; rw [if_neg (by decide), if_neg (by omega), if_pos ⟨f2, rfl⟩]
  have f2b : ¬ findK t[k].l key < 0 := by omega
  clear hR0 h hat
  generalize t[k].d.hash = dh at *
  generalize t[k].d.key = dk at *
  generalize t[k].d.val = dv at *
  generalize t[k].d.max = dm at *
  generalize t[k].made = md at *
  generalize t[k].l.length = nl at *
  generalize findK t[k].l key = s at *
  go_enter Try.func16, Try.ntmps16
  go_wp2_with fail
  refine (hmay _ hrf).mono ?_
  rintro e w1 ⟨rfl, rfl⟩
  obtain ⟨z0, z1, z2, z3, z4, z5, z6, z7⟩ := hcs _ hrf
  go_wp2_with fail
  refine (hfi _ hrf).mono ?_
  rintro e w2 ⟨rfl, hb2⟩
  clear z0 z1 z2 z3 z4 z5 z6 z7
  obtain ⟨z0, z1, z2, z3, z4, z5, z6, z7⟩ := hcs _ hb2
  have hbW := hb2.alloc hb2.size (.cells #[.bool dh, .int .i64 dk, .int .i64 dv, .int .i64 dm, .slice Ak nl ck, .int .i64 md] 103)
  go_wp2_with fail
  refine (rminus9 17 (by decide) (by decide) _).mono ?_
  rintro e w3 ⟨rfl, rfl⟩
  go_wp2_with fail
  go_ret2
  exact ⟨rfl, own, vm, sl, ks, fun _ _ => rfl, hT _ hbW, hM _ hbW, Kept.of hbW (Nat.le_refl _)⟩
set_option maxHeartbeats 1000000 in
theorem rput95 {own : Own} {w : World} {pt pm : Nat} {v vm : Value} {ks : Nat → Value} {sl : Nat → Value × Value} {mem : List AreaM} {t : List MapM} (h : TabIn own w pt pm v ks t) (hm : MemIn own w pm vm sl mem) (hn : mem.length ≤ 1000000)
    (k : Nat) (hk : k < t.length) (key val : List Int) (flags : Int) (hmy : mayM t k key = true) (hvl : (val.length : Int) = t[k].d.val) (hkey : BytesOk key) (B : Nat) (hB : B ≤ w.heap.size) (A A2 : Option Addr) (c c2 : Nat) (hat : SAt w B 1 A key.length (bytesV key)) (f1 : flags = 2) (f2 : findK t[k].l key < 0) (f3 : t[k].d.hash = true) :
    Calls Try.prog 16 #[.pointer (some ⟨pt, 0, none⟩), .int .i64 k, .slice A key.length c, .slice A2 val.length c2, .int .u64 flags] w (TurnOk own w pt pm v (putM mem t k key val flags)) := by
  have hT := fun w' (hb : Below w.heap.size w w') => h.below hb
  have hM := fun w' (hb : Below w.heap.size w w') => hm.below hb
  have hmay := fun w' (hb : Below w.heap.size w w') => rmay9 (h.below hb) k key A c
  rw [hmy] at hmay
  have hfi := fun w' (hb : Below w.heap.size w w') => rfind9 (h.below hb) k hk key hkey B (Nat.le_trans hB hb.size) A c (hat.below (hb.mono hB))
  have hR0 := put_eq mem t k key val flags hk hmy hvl
  obtain ⟨g, cv, rfl, hcs⟩ := mapAt_cells h hk
  obtain ⟨Ak, ck, hks⟩ := (h.keys k hk).slice
  rw [hks] at hcs
  have hfw := h.few
  have hki : (k : Int) < (t.length : Int) := by omega
  have hrf := Below.refl w.heap.size w
  have hvb : ((val.length : Int) != t[k].d.val) = false := by simpa using hvl
  unfold TurnOk
  rw [hR0]
  subst f1; rw [if_neg (by decide), if_neg (by rw [f3]; simp), if_neg (by omega), if_neg (by omega), if_pos rfl]
  have f2b : ¬ 0 ≤ findK t[k].l key := by omega
  clear hR0 h hat
  generalize t[k].d.hash = dh at *
  generalize t[k].d.key = dk at *
  generalize t[k].d.val = dv at *
  generalize t[k].d.max = dm at *
  generalize t[k].made = md at *
  generalize t[k].l.length = nl at *
  generalize findK t[k].l key = s at *
  subst f3
  go_enter Try.func16, Try.ntmps16
  go_wp2_with fail
  refine (hmay _ hrf).mono ?_
  rintro e w1 ⟨rfl, rfl⟩
  obtain ⟨z0, z1, z2, z3, z4, z5, z6, z7⟩ := hcs _ hrf
  go_wp2_with fail
  refine (hfi _ hrf).mono ?_
  rintro e w2 ⟨rfl, hb2⟩
  clear z0 z1 z2 z3 z4 z5 z6 z7
  obtain ⟨z0, z1, z2, z3, z4, z5, z6, z7⟩ := hcs _ hb2
  have hbW := hb2.alloc hb2.size (.cells #[.bool true, .int .i64 dk, .int .i64 dv, .int .i64 dm, .slice Ak nl ck, .int .i64 md] 103)
  go_wp2_with fail
  refine (rminus9 2 (by decide) (by decide) _).mono ?_
  rintro e w3 ⟨rfl, rfl⟩
  go_wp2_with fail
  go_ret2
  exact ⟨rfl, own, vm, sl, ks, fun _ _ => rfl, hT _ hbW, hM _ hbW, Kept.of hbW (Nat.le_refl _)⟩
set_option maxHeartbeats 1000000 in
theorem rput96 {own : Own} {w : World} {pt pm : Nat} {v vm : Value} {ks : Nat → Value} {sl : Nat → Value × Value} {mem : List AreaM} {t : List MapM} (h : TabIn own w pt pm v ks t) (hm : MemIn own w pm vm sl mem) (hn : mem.length ≤ 1000000)
    (k : Nat) (hk : k < t.length) (key val : List Int) (flags : Int) (hmy : mayM t k key = true) (hvl : (val.length : Int) = t[k].d.val) (hkey : BytesOk key) (B : Nat) (hB : B ≤ w.heap.size) (A A2 : Option Addr) (c c2 : Nat) (hat : SAt w B 1 A key.length (bytesV key)) (f1 : ¬ 2 < flags) (f1b : ¬ flags = 2) (f2 : findK t[k].l key < 0) (f3 : t[k].d.hash = true) (f4 : t[k].d.max ≤ t[k].l.length) :
    Calls Try.prog 16 #[.pointer (some ⟨pt, 0, none⟩), .int .i64 k, .slice A key.length c, .slice A2 val.length c2, .int .u64 flags] w (TurnOk own w pt pm v (putM mem t k key val flags)) := by
  have hT := fun w' (hb : Below w.heap.size w w') => h.below hb
  have hM := fun w' (hb : Below w.heap.size w w') => hm.below hb
  have hmay := fun w' (hb : Below w.heap.size w w') => rmay9 (h.below hb) k key A c
  rw [hmy] at hmay
  have hfi := fun w' (hb : Below w.heap.size w w') => rfind9 (h.below hb) k hk key hkey B (Nat.le_trans hB hb.size) A c (hat.below (hb.mono hB))
  have hR0 := put_eq mem t k key val flags hk hmy hvl
  obtain ⟨g, cv, rfl, hcs⟩ := mapAt_cells h hk
  obtain ⟨Ak, ck, hks⟩ := (h.keys k hk).slice
  rw [hks] at hcs
  have hfw := h.few
  have hki : (k : Int) < (t.length : Int) := by omega
  have hrf := Below.refl w.heap.size w
  have hvb : ((val.length : Int) != t[k].d.val) = false := by simpa using hvl
  unfold TurnOk
  rw [hR0]
  rw [if_neg f1, if_neg (by rw [f3]; simp), if_neg (by omega), if_neg (by omega), if_neg f1b, if_pos f4]
  have f2b : ¬ 0 ≤ findK t[k].l key := by omega
  have f1c : (flags == 2) = false := by simpa using f1b
  clear hR0 h hat
  generalize t[k].d.hash = dh at *
  generalize t[k].d.key = dk at *
  generalize t[k].d.val = dv at *
  generalize t[k].d.max = dm at *
  generalize t[k].made = md at *
  generalize t[k].l.length = nl at *
  generalize findK t[k].l key = s at *
  subst f3
  go_enter Try.func16, Try.ntmps16
  go_wp2_with fail
  refine (hmay _ hrf).mono ?_
  rintro e w1 ⟨rfl, rfl⟩
  obtain ⟨z0, z1, z2, z3, z4, z5, z6, z7⟩ := hcs _ hrf
  go_wp2_with fail
  refine (hfi _ hrf).mono ?_
  rintro e w2 ⟨rfl, hb2⟩
  clear z0 z1 z2 z3 z4 z5 z6 z7
  obtain ⟨z0, z1, z2, z3, z4, z5, z6, z7⟩ := hcs _ hb2
  have hbW := hb2.alloc hb2.size (.cells #[.bool true, .int .i64 dk, .int .i64 dv, .int .i64 dm, .slice Ak nl ck, .int .i64 md] 103)
  go_wp2_with fail
  refine (rminus9 7 (by decide) (by decide) _).mono ?_
  rintro e w3 ⟨rfl, rfl⟩
  go_wp2_with fail
  go_ret2
  exact ⟨rfl, own, vm, sl, ks, fun _ _ => rfl, hT _ hbW, hM _ hbW, Kept.of hbW (Nat.le_refl _)⟩
set_option maxHeartbeats 1000000 in
theorem rput97 {own : Own} {w : World} {pt pm : Nat} {v vm : Value} {ks : Nat → Value} {sl : Nat → Value × Value} {mem : List AreaM} {t : List MapM} (h : TabIn own w pt pm v ks t) (hm : MemIn own w pm vm sl mem) (hn : mem.length ≤ 1000000)
    (k : Nat) (hk : k < t.length) (key val : List Int) (flags : Int) (hmy : mayM t k key = true) (hvl : (val.length : Int) = t[k].d.val) (hkey : BytesOk key) (B : Nat) (hB : B ≤ w.heap.size) (A A2 : Option Addr) (c c2 : Nat) (hat : SAt w B 1 A key.length (bytesV key)) (f1 : ¬ 2 < flags) (f1b : ¬ flags = 2) (f2 : findK t[k].l key < 0) (f3 : t[k].d.hash = true) (f4 : ¬ t[k].d.max ≤ t[k].l.length) (f5 : 1024 ≤ t[k].made) :
    Calls Try.prog 16 #[.pointer (some ⟨pt, 0, none⟩), .int .i64 k, .slice A key.length c, .slice A2 val.length c2, .int .u64 flags] w (TurnOk own w pt pm v (putM mem t k key val flags)) := by
  have hT := fun w' (hb : Below w.heap.size w w') => h.below hb
  have hM := fun w' (hb : Below w.heap.size w w') => hm.below hb
  have hmay := fun w' (hb : Below w.heap.size w w') => rmay9 (h.below hb) k key A c
  rw [hmy] at hmay
  have hfi := fun w' (hb : Below w.heap.size w w') => rfind9 (h.below hb) k hk key hkey B (Nat.le_trans hB hb.size) A c (hat.below (hb.mono hB))
  have hR0 := put_eq mem t k key val flags hk hmy hvl
  obtain ⟨g, cv, rfl, hcs⟩ := mapAt_cells h hk
  obtain ⟨Ak, ck, hks⟩ := (h.keys k hk).slice
  rw [hks] at hcs
  have hfw := h.few
  have hki : (k : Int) < (t.length : Int) := by omega
  have hrf := Below.refl w.heap.size w
  have hvb : ((val.length : Int) != t[k].d.val) = false := by simpa using hvl
  unfold TurnOk
  rw [hR0]
  rw [if_neg f1, if_neg (by rw [f3]; simp), if_neg (by omega), if_neg (by omega), if_neg f1b, if_neg f4, if_pos f5]
  have f2b : ¬ 0 ≤ findK t[k].l key := by omega
  have f1c : (flags == 2) = false := by simpa using f1b
  clear hR0 h hat
  generalize t[k].d.hash = dh at *
  generalize t[k].d.key = dk at *
  generalize t[k].d.val = dv at *
  generalize t[k].d.max = dm at *
  generalize t[k].made = md at *
  generalize t[k].l.length = nl at *
  generalize findK t[k].l key = s at *
  subst f3
  go_enter Try.func16, Try.ntmps16
  go_wp2_with fail
  refine (hmay _ hrf).mono ?_
  rintro e w1 ⟨rfl, rfl⟩
  obtain ⟨z0, z1, z2, z3, z4, z5, z6, z7⟩ := hcs _ hrf
  go_wp2_with fail
  refine (hfi _ hrf).mono ?_
  rintro e w2 ⟨rfl, hb2⟩
  clear z0 z1 z2 z3 z4 z5 z6 z7
  obtain ⟨z0, z1, z2, z3, z4, z5, z6, z7⟩ := hcs _ hb2
  have hbW := hb2.alloc hb2.size (.cells #[.bool true, .int .i64 dk, .int .i64 dv, .int .i64 dm, .slice Ak nl ck, .int .i64 md] 103)
  go_wp2_with fail
  refine (rminus9 12 (by decide) (by decide) _).mono ?_
  rintro e w3 ⟨rfl, rfl⟩
  go_wp2_with fail
  go_ret2
  exact ⟨rfl, own, vm, sl, ks, fun _ _ => rfl, hT _ hbW, hM _ hbW, Kept.of hbW (Nat.le_refl _)⟩
end
section
theorem makeM_fail {mem : List AreaM} {a : Int} {b : List Int} {x y : Bool} (h : (makeM mem a b x y).2 ≠ 0) : (makeM mem a b x y).1 = mem := by
  by_cases h1 : a < 1 ∨ 2147483648 ≤ a ∨ 0 ≤ idxM (mem.map AreaM.id) a 0
  · unfold makeM; rw [if_pos h1]
  · by_cases h2 : 1024 < b.length
    · unfold makeM; rw [if_neg h1, if_pos h2]
    · unfold makeM at h; rw [if_neg h1, if_neg h2] at h; exact absurd rfl h
theorem TabIn.slot9 {own : Own} {w : World} {pt pm : Nat} {v : Value} {ks : Nat → Value} {t : List MapM} (h : TabIn own w pt pm v ks t) {k : Nat} (hk : k < t.length) (key : List Int) : findK t[k].l key = -1 ∨ (0 ≤ findK t[k].l key ∧ findK t[k].l key < 1024) := by
  rcases findK_in (l := t[k].l) (key := key) with e | ⟨y, hy, e⟩
  · exact .inl e
  · rw [e]; exact .inr ((h.ok _ (List.getElem_mem hk)).slot y hy)
theorem defOk_val {d : DefM} (h : defOk d = true) : 8 ≤ d.val ∧ d.val ≤ 64 ∧ 1 ≤ d.max ∧ d.max ≤ 16 := by
  unfold defOk at h
  simp only [Bool.and_eq_true, decide_eq_true_eq] at h
  omega
theorem defOk_key {d : DefM} (h : defOk d = true) : 1 ≤ d.key ∧ d.key ≤ 16 := by
  unfold defOk at h
  simp only [Bool.and_eq_true, decide_eq_true_eq] at h
  obtain ⟨⟨⟨⟨⟨h, -⟩, -⟩, -⟩, -⟩, -⟩ := h
  split at h
  · simp only [Bool.and_eq_true, decide_eq_true_eq] at h; exact h
  · simp only [beq_iff_eq] at h; omega
set_option maxHeartbeats 1000000 in
theorem rput94 {own : Own} {w : World} {pt pm : Nat} {v vm : Value} {ks : Nat → Value} {sl : Nat → Value × Value} {mem : List AreaM} {t : List MapM} (h : TabIn own w pt pm v ks t) (hm : MemIn own w pm vm sl mem) (hn : mem.length ≤ 1000000)
    (k : Nat) (hk : k < t.length) (key val : List Int) (flags : Int) (hmy : mayM t k key = true) (hvl : (val.length : Int) = t[k].d.val) (hkey : BytesOk key) (B : Nat) (hB : B ≤ w.heap.size) (A A2 : Option Addr) (c c2 : Nat) (hat : SAt w B 1 A key.length (bytesV key)) (f1 : ¬ 2 < flags) (f1b : ¬ flags = 1) (f2 : 0 ≤ findK t[k].l key) (hval : BytesOk val) (hat2 : SAt w B 1 A2 val.length (bytesV val)) (hA2 : ∀ b o, A2 = some ⟨b, o, none⟩ → ¬ own.memTab b) :
    Calls Try.prog 16 #[.pointer (some ⟨pt, 0, none⟩), .int .i64 k, .slice A key.length c, .slice A2 val.length c2, .int .u64 flags] w (TurnOk own w pt pm v (putM mem t k key val flags)) := by
  have hT := fun w' (hb : Below w.heap.size w w') => h.below hb
  have hM := fun w' (hb : Below w.heap.size w w') => hm.below hb
  have hmay := fun w' (hb : Below w.heap.size w w') => rmay9 (h.below hb) k key A c
  rw [hmy] at hmay
  have hfi := fun w' (hb : Below w.heap.size w w') => rfind9 (h.below hb) k hk key hkey B (Nat.le_trans hB hb.size) A c (hat.below (hb.mono hB))
  have hR0 := put_eq mem t k key val flags hk hmy hvl
  obtain ⟨g, cv, rfl, hcs⟩ := mapAt_cells h hk
  obtain ⟨Ak, ck, hks⟩ := (h.keys k hk).slice
  rw [hks] at hcs
  have hfw := h.few
  have hki : (k : Int) < (t.length : Int) := by omega
  have hrf := Below.refl w.heap.size w
  have hvb : ((val.length : Int) != t[k].d.val) = false := by simpa using hvl
  unfold TurnOk
  rw [hR0]
  rw [if_neg f1, if_neg (by omega), if_neg (by omega), if_pos f2]
  have f2b : ¬ findK t[k].l key < 0 := by omega
  have f1c : (flags == 1) = false := by simpa using f1b
  have hs2 : findK t[k].l key ≤ 1024 := by rcases h.slot9 hk key with e | e <;> omega
  have hv64 : val.length ≤ 64 := by have := (defOk_val (h.ok _ (List.getElem_mem hk)).d).2.1; omega
  have hfill := fun w' (hb : Below w.heap.size w w') => rfill9 (h.below hb) (hm.below hb) hn k (findK t[k].l key) (by omega) (by omega) f2 hs2 val hval hv64 B (Nat.le_trans hB hb.size) A2 c2 (hat2.below (hb.mono hB)) (fun b o e => fun h => hA2 b o e (Own.areas_memTab h))
  have hTk := fun w' (hk : Kept own.areas w w') => h.kept hk (fun _ _ => rfl) (fun b r hb hr => Own.areas_not hb hr)
  clear hR0 h hat
  generalize t[k].d.hash = dh at *
  generalize t[k].d.key = dk at *
  generalize t[k].d.val = dv at *
  generalize t[k].d.max = dm at *
  generalize t[k].made = md at *
  generalize t[k].l.length = nl at *
  generalize findK t[k].l key = s at *
  go_enter Try.func16, Try.ntmps16
  go_wp2_with fail
  refine (hmay _ hrf).mono ?_
  rintro e w1 ⟨rfl, rfl⟩
  obtain ⟨z0, z1, z2, z3, z4, z5, z6, z7⟩ := hcs _ hrf
  go_wp2_with fail
  refine (hfi _ hrf).mono ?_
  rintro e w2 ⟨rfl, hb2⟩
  clear z0 z1 z2 z3 z4 z5 z6 z7
  obtain ⟨z0, z1, z2, z3, z4, z5, z6, z7⟩ := hcs _ hb2
  have hbW := hb2.alloc hb2.size (.cells #[.bool dh, .int .i64 dk, .int .i64 dv, .int .i64 dm, .slice Ak nl ck, .int .i64 md] 103)
  go_wp2_with fail
  refine (hfill _ hbW).mono ?_
  rintro e w3 ⟨rfl, hM3, hk3⟩
  have hk := (Kept.of (X := own.areas) hbW (Nat.le_refl _)).trans hk3 (fun _ _ h => h)
  go_wp2_with fail
  go_ret2
  exact ⟨rfl, own, vm, sl, ks, fun _ _ => rfl, hTk _ hk, hM3, (Kept.refl (X := own.memTab)).trans hk (fun _ _ h => Own.areas_memTab h)⟩
set_option maxHeartbeats 1000000 in
theorem rput98 {own : Own} {w : World} {pt pm : Nat} {v vm : Value} {ks : Nat → Value} {sl : Nat → Value × Value} {mem : List AreaM} {t : List MapM} (h : TabIn own w pt pm v ks t) (hm : MemIn own w pm vm sl mem) (hn : mem.length ≤ 1000000)
    (k : Nat) (hk : k < t.length) (key val : List Int) (flags : Int) (hmy : mayM t k key = true) (hvl : (val.length : Int) = t[k].d.val) (hkey : BytesOk key) (B : Nat) (hB : B ≤ w.heap.size) (A A2 : Option Addr) (c c2 : Nat) (hat : SAt w B 1 A key.length (bytesV key)) (hfar : ∀ b, w.heap.size ≤ b → own b = none) (f1 : ¬ 2 < flags) (f1b : ¬ flags = 2) (f2 : findK t[k].l key < 0) (f3 : t[k].d.hash = true) (f4 : ¬ t[k].d.max ≤ t[k].l.length) (f5 : ¬ 1024 ≤ t[k].made) (hval : BytesOk val) (hat2 : SAt w B 1 A2 val.length (bytesV val)) (hA2 : ∀ b o, A2 = some ⟨b, o, none⟩ → ¬ own.memTab b) (f6 : (makeM mem (slotArea k t[k].made) val false false).2 ≠ 0) :
    Calls Try.prog 16 #[.pointer (some ⟨pt, 0, none⟩), .int .i64 k, .slice A key.length c, .slice A2 val.length c2, .int .u64 flags] w (TurnOk own w pt pm v (putM mem t k key val flags)) := by
  have hT := fun w' (hb : Below w.heap.size w w') => h.below hb
  have hM := fun w' (hb : Below w.heap.size w w') => hm.below hb
  have hmay := fun w' (hb : Below w.heap.size w w') => rmay9 (h.below hb) k key A c
  rw [hmy] at hmay
  have hfi := fun w' (hb : Below w.heap.size w w') => rfind9 (h.below hb) k hk key hkey B (Nat.le_trans hB hb.size) A c (hat.below (hb.mono hB))
  have hR0 := put_eq mem t k key val flags hk hmy hvl
  obtain ⟨g, cv, rfl, hcs⟩ := mapAt_cells h hk
  obtain ⟨Ak, ck, hks⟩ := (h.keys k hk).slice
  rw [hks] at hcs
  have hfw := h.few
  have hki : (k : Int) < (t.length : Int) := by omega
  have hrf := Below.refl w.heap.size w
  have hvb : ((val.length : Int) != t[k].d.val) = false := by simpa using hvl
  unfold TurnOk
  rw [hR0]
  rw [if_neg f1, if_neg (by rw [f3]; simp), if_neg (by omega), if_neg (by omega), if_neg f1b, if_neg f4, if_neg f5, if_pos f6]
  have f2b : ¬ 0 ≤ findK t[k].l key := by omega
  have f1c : (flags == 2) = false := by simpa using f1b
  have hmd0 := (h.ok _ (List.getElem_mem hk)).made0
  have hv64 : val.length ≤ 64 := by have := (defOk_val (h.ok _ (List.getElem_mem hk)).d).2.1; omega
  have hsl := fun w' => rslot9 k t[k].made (by omega) (by omega) hmd0 (by omega) w'
  have hsb : 1 ≤ slotArea k t[k].made ∧ slotArea k t[k].made < 2147483648 := by simp only [slotArea]; omega
  have hmk := fun w' (hb : Below w.heap.size w w') => rmake8 (hm.below hb) hn (slotArea k t[k].made) hsb.1 hsb.2 A2 c2 val hval (by omega) false false B (Nat.le_trans hB hb.size) (hat2.below (hb.mono hB))
  have hTk := fun w' (own' : Own) (ho : ∀ b, b < w.heap.size → own' b = own b) (hk : Kept (fun b => own b = some .mem ∨ own b = some .areas) w w') => h.kept hk ho (fun b r hb hr => by rintro (e | e) <;> rw [hb] at e <;> cases e <;> exact hr)
  generalize slotArea k t[k].made = sa at *
  generalize hMK : makeM mem sa val false false = MK at *
  clear hR0 h hat
  generalize t[k].d.hash = dh at *
  generalize t[k].d.key = dk at *
  generalize t[k].d.val = dv at *
  generalize t[k].d.max = dm at *
  generalize t[k].made = md at *
  generalize t[k].l.length = nl at *
  generalize findK t[k].l key = s at *
  subst f3
  go_enter Try.func16, Try.ntmps16
  go_wp2_with fail
  refine (hmay _ hrf).mono ?_
  rintro e w1 ⟨rfl, rfl⟩
  obtain ⟨z0, z1, z2, z3, z4, z5, z6, z7⟩ := hcs _ hrf
  go_wp2_with fail
  refine (hfi _ hrf).mono ?_
  rintro e w2 ⟨rfl, hb2⟩
  clear z0 z1 z2 z3 z4 z5 z6 z7
  obtain ⟨z0, z1, z2, z3, z4, z5, z6, z7⟩ := hcs _ hb2
  have hbW := hb2.alloc hb2.size (.cells #[.bool true, .int .i64 dk, .int .i64 dv, .int .i64 dm, .slice Ak nl ck, .int .i64 md] 103)
  have hXf : own w2.heap.size = none := hfar _ hb2.size
  have hXlt : w2.heap.size < (w2.alloc (.cells #[.bool true, .int .i64 dk, .int .i64 dv, .int .i64 dm, .slice Ak nl ck, .int .i64 md] 103)).heap.size := by simp
  have hXc4 := boxc (heap_alloc_new w2 (.cells #[.bool true, .int .i64 dk, .int .i64 dv, .int .i64 dm, .slice Ak nl ck, .int .i64 md] 103)) (k := 4) (u := .slice Ak nl ck) rfl
  have hXc5 := boxc (heap_alloc_new w2 (.cells #[.bool true, .int .i64 dk, .int .i64 dv, .int .i64 dm, .slice Ak nl ck, .int .i64 md] 103)) (k := 5) (u := .int .i64 md) rfl
  generalize hX : w2.heap.size = X at *
  go_upto_region 20 with fail
  generalize hW : w2.alloc (.cells #[.bool true, .int .i64 dk, .int .i64 dv, .int .i64 dm, .slice Ak nl ck, .int .i64 md] 103) = W at *
  clear hW
  have hbt := hbW.drew
  have hrW := (Below.refl W.heap.size W).drew
  have y5 := hXc5 _ hrW
  obtain ⟨z0, z1, z2, z3, z4, z5, z6, z7⟩ := hcs _ hbt
  clear hb2
  refine wp_region_still_tail 9 (by kernel_rfl) (by kernel_rfl) ?_
  simp only [List.take_succ_cons, List.take_zero, List.drop_succ_cons, List.drop_zero]
  change wpStill _ _ W.drew _ _ _
  repeat (first | still_step | still_call (hsl _))
  refine wpStill_nil ?_
  change wpList _ _ _ _ _ W.drew
  clear z0 z1 z2 z3 z4 z5 z6 z7 y5
  have hVX : X < W.drew.heap.size := hXlt
  generalize hVe : W.drew = V at *
  go_wp2_with fail
  refine (hmk _ hbt).mono ?_
  rintro e w3 ⟨rfl, own', v', sl', ho, hM3, hk3⟩
  have hk3w : Kept (fun b => own b = some .mem ∨ own b = some .areas) w1 w3 := (Kept.of hbt (Nat.le_refl _)).trans hk3 (fun _ _ h => h)
  have how : ∀ b, b < w1.heap.size → own' b = own b := fun b hb => ho b (Nat.lt_of_lt_of_le hb hbt.size)
  have hT3 := hTk _ own' how hk3w
  have hmem : MK.1 = mem := by rw [← hMK]; exact makeM_fail (by rw [hMK]; exact f6)
  rw [hmem] at hM3
  have hK := (Kept.refl (X := own.memTab)).trans hk3w (fun _ _ h => by rcases h with e | e; exact ⟨_, e, .inl trivial⟩; exact ⟨_, e, .inl trivial⟩)
  have hF := Lib.hid (And.intro how (And.intro hT3 (And.intro hM3 hK)))
  have f6b : (MK.2 == 0) = false := by simpa using f6
  have f6c : ¬ MK.2 = 0 := f6
  clear hMK f6 hT3 hM3 hK how hk3w hk3 hmem hmk
  go_wp2_with fail
  refine (rminus9 12 (by decide) (by decide) _).mono ?_
  rintro e w4 ⟨rfl, rfl⟩
  go_wp2_with fail
  go_ret2
  obtain ⟨g1, g2, g3, g4⟩ := hF.out
  exact ⟨rfl, own', v', sl', ks, g1, g2, g3, g4⟩
end
section
theorem mapsV_at {ks ks' : Nat → Value} : ∀ (l : List MapM) (i : Nat), (∀ q, i ≤ q → ks' q = ks q) → mapsV ks' l i = mapsV ks l i
  | [], _, _ => rfl
  | a :: l, i, h => by rw [mapsV, mapsV, h i (Nat.le_refl _), mapsV_at l (i + 1) (fun q hq => h q (by omega))]
theorem mapsV_set {ks ks' : Nat → Value} : ∀ (l : List MapM) (i k j : Nat) (u : Value) (x' : MapM) (hk : k < l.length), j < 6 → (∀ q, q ≠ i + k → ks' q = ks q) → (mapCells l[k] (ks (i + k))).set j u = mapCells x' (ks' (i + k)) → (mapsV ks l i).set (k * 6 + j) u = mapsV ks' (l.set k x') i
  | a :: l, i, 0, j, u, x', _, hj, h1, h2 => by
    rw [List.set_cons_zero, mapsV, mapsV, List.set_append_left _ _ (by simp [mapCells]; omega), mapsV_at l (i + 1) (fun q hq => h1 q (by omega))]
    simp only [Nat.add_zero, List.getElem_cons_zero] at h2
    rw [Nat.zero_mul, Nat.zero_add, h2]
  | a :: l, i, k + 1, j, u, x', hk, hj, h1, h2 => by
    rw [List.set_cons_succ, mapsV, mapsV, List.set_append_right _ _ (by simp [mapCells]; omega), h1 i (by omega), show (k + 1) * 6 + j - (mapCells a (ks i)).length = k * 6 + j by simp [mapCells]; omega]
    rw [mapsV_set (ks' := ks') l (i + 1) k j u x' (by simpa using hk) hj (fun q hq => h1 q (by omega)) (by
      rw [show i + 1 + k = i + (k + 1) by omega]; simpa using h2)]
theorem TabIn.set1 {own : Own} {w : World} {pt pm : Nat} {v : Value} {ks ks' : Nat → Value} {t : List MapM} (h : TabIn own w pt pm v ks t) {k : Nat} (hk : k < t.length) {g c : Nat} (hv : v = .slice (some ⟨g, 0, none⟩) t.length c) (j : Nat) (hj : j < 6) (u : Value) (x' : MapM) (hx' : x'.Ok)
    (h1 : ∀ q, q ≠ k → ks' q = ks q) (h2 : (mapCells t[k] (ks k)).set j u = mapCells x' (ks' k)) (h3 : RowIn own (.keys k) w 106 2 (ks' k) x'.l.length (keysV x'.l)) :
    TabIn own (w.setCell ⟨g, k * 6 + j, none⟩ u) pt pm v ks' (t.set k x') ∧ Kept (fun b => b = g) w (w.setCell ⟨g, k * 6 + j, none⟩ u) := by
  have hset : Kept (fun b => b = g) w (w.setCell ⟨g, k * 6 + j, none⟩ u) := Kept.refl.set rfl
  have hgr : own g = some .maps := by
    have := h.row.role g (by rw [hv]; rfl)
    exact this
  have hx : ∀ b r, own b = some r → r ≠ .maps → ¬ b = g := fun b r hb hr e => by subst e; rw [hgr] at hb; cases hb; exact hr rfl
  refine ⟨⟨h.role, h.blk.kept hset (hx pt _ h.role (by decide)), ⟨?_, h.row.role⟩, by rw [List.length_set]; exact h.few, ?_, ?_⟩, hset⟩
  · have hr := h.row.row
    subst hv
    rw [← mapsV_set t 0 k j u x' hk hj (by simpa using h1) (by simpa using h2), List.length_set]
    exact (hr.stored (k * 6 + j) u).1
  · intro y hy
    rcases List.mem_or_eq_of_mem_set hy with hq | rfl
    · exact h.ok y hq
    · exact hx'
  · intro i hi
    rw [List.length_set] at hi
    by_cases e : i = k
    · subst e
      rw [List.getElem_set_self]
      exact h3.kept hset (fun _ _ => rfl) (fun b hb => hx b _ hb (by simp))
    · rw [List.getElem_set_ne (by omega), h1 i e]
      exact (h.keys i hi).kept hset (fun _ _ => rfl) (fun b hb => hx b _ hb (by simp))
theorem info106 : (Try.prog.info? 106).map (fun i => (i.zero, i.size, i.bytes)) = some (some (.agg #[.string ByteArray.empty, .int .i64 0]), 2, 24) := by kernel_rfl
theorem keysV_append : ∀ (l r : List KeyM), keysV (l ++ r) = keysV l ++ keysV r
  | [], _ => rfl
  | x :: l, r => by rw [List.cons_append, keysV, keysV, keysV_append l r]; rfl
theorem keysV_ones (l : List KeyM) : ∀ u ∈ keysV l, u.oneCell' = true := by
  induction l with
  | nil => intro u hu; cases hu
  | cons x l ih =>
    intro u hu
    simp only [keysV, List.mem_cons] at hu
    rcases hu with rfl | rfl | hu
    iterate 2
      · rfl
    · exact ih u hu
theorem keysV_drop : ∀ (l : List KeyM) (p j : Nat), (keysV (l.drop p))[j]? = (keysV l)[p * 2 + j]?
  | l, 0, j => by simp
  | [], p + 1, j => by simp [keysV]
  | x :: l, p + 1, j => by
    rw [List.drop_succ_cons, keysV_drop l p j, keysV, show (p + 1) * 2 + j = (p * 2 + j) + 1 + 1 by omega, List.getElem?_cons_succ, List.getElem?_cons_succ]
theorem keysV_take : ∀ (l : List KeyM) (p j : Nat), j < (keysV (l.take p)).length → (keysV (l.take p))[j]? = (keysV l)[j]?
  | l, 0, j, h => by simp [keysV] at h
  | [], p + 1, j, h => by simp [keysV] at h
  | x :: l, p + 1, j, h => by
    rw [List.take_succ_cons, keysV, keysV]
    match j with
    | 0 => rfl
    | 1 => rfl
    | j + 2 =>
      rw [List.getElem?_cons_succ, List.getElem?_cons_succ, List.getElem?_cons_succ, List.getElem?_cons_succ]
      refine keysV_take l p j ?_
      rw [List.take_succ_cons, keysV] at h
      simpa using h
end
section
theorem slice_cases {own : Own} {r : Role} {w : World} {t size n : Nat} {v : Value} {xs : List Value} (h : RowIn own r w t size v n xs) : (v = .slice none 0 0 ∧ n = 0) ∨ ∃ g c, v = .slice (some ⟨g, 0, none⟩) n c ∧ n ≤ c := by
  rcases h.row.2 with ⟨hv, h0⟩ | ⟨g, cap, cur, hv, _, _, hnc, _⟩
  · exact .inl ⟨hv, h0⟩
  · exact .inr ⟨g, cap, hv, hnc⟩
end
section
theorem own_sat {w : World} {base e size n c : Nat} {A : Option Addr} {xs : List Value} (h : w.ownsRow base e size (.slice A n c) n xs) : SAt w w.heap.size size A n xs := by
  refine ⟨h.1, fun hn => ?_⟩
  rcases h.2 with ⟨-, h0⟩ | ⟨g, cap, cur, hv, _, _, _, _⟩
  · omega
  · simp only [Value.slice.injEq] at hv
    obtain ⟨rfl, -, rfl⟩ := hv
    refine ⟨g, 0, rfl, (h.lt g rfl).2, fun j u hu => ?_⟩
    have := h.cells (g := g) rfl j u hu
    rwa [addr_add] at this
end
end Go.Proofs.Ytncogaikiceidaa
end
section
namespace Go.Proofs.Ytncogaikiceidaa
open Go.RowKit
set_option linter.unusedSimpArgs false
set_option linter.unusedVariables false
set_option linter.unnecessarySimpa false
section
theorem filter_take {α : Type} (p : α → Bool) (l : List α) (j : Nat) (h : j < l.length) : (l.take (j + 1)).filter p = (l.take j).filter p ++ (if p l[j] = true then [l[j]] else []) := by
  rw [List.take_succ_eq_append_getElem h, List.filter_append]
  cases hp : p l[j] <;> simp [hp]
theorem drop_eq (t : List MapM) (k : Nat) (key : List Int) (hk : k < t.length) (hmy : mayM t k key = true) : dropM t k key =
    if t[k].d.hash = false then (t, minusM 22, 0)
    else if (t[k].l.filter fun y => ! decide (y.k = key)).length = t[k].l.length then (t, minusM 2, 0)
    else (t.set k { t[k] with l := t[k].l.filter fun y => ! decide (y.k = key) }, 0, 0) := by
  unfold dropM
  rw [if_neg (by rw [hmy]; simp)]
  simp only [Int.toNat_natCast, mapAt_get hk]
set_option maxRecDepth 100000 in
set_option maxHeartbeats 2000000 in
theorem rdrop9 {own : Own} {w : World} {pt pm : Nat} {v : Value} {ks : Nat → Value} {t : List MapM} (h : TabIn own w pt pm v ks t) (i : Int) (key : List Int) (hkey : BytesOk key) (B : Nat) (hB : B ≤ w.heap.size) (A : Option Addr) (c : Nat) (hat : SAt w B 1 A key.length (bytesV key)) :
    Calls Try.prog 86 #[.pointer (some ⟨pt, 0, none⟩), .int .i64 i, .slice A key.length c] w fun e w' => e = .returned (.tuple #[.int .u64 (dropM t i key).2.1, .int .i64 (dropM t i key).2.2]) ∧ ∃ own' ks', (∀ b, b < w.heap.size → own' b = own b) ∧ TabIn own' w' pt pm v ks' (dropM t i key).1 ∧ Kept (fun b => own b = some .maps) w w' := by
  have hT := fun w' (hb : Below w.heap.size w w') => h.below hb
  have hK := fun w' (hb : Below w.heap.size w w') => Kept.of (X := fun b => own b = some .maps) hb (Nat.le_refl _)
  have hmay := fun w' (hb : Below w.heap.size w w') => rmay9 (h.below hb) i key A c
  have hrf := Below.refl w.heap.size w
  cases hmy : mayM t i key with
  | false =>
    have hL := Lib.hid (show dropM t i key = (t, 0, 1) from by unfold dropM; rw [if_pos hmy])
    rw [hmy] at hmay
    clear h hat hmy
    go_enter Try.func86, Try.ntmps86
    go_wp2_with fail
    refine (hmay _ hrf).mono ?_
    rintro e w1 ⟨rfl, rfl⟩
    go_wp2_with fail
    go_ret2
    rw [hL.out]
    exact ⟨rfl, own, ks, fun _ _ => rfl, hT _ hrf, hK _ hrf⟩
  | true =>
    obtain ⟨k, rfl, hk, -⟩ := mayM_in hmy
    rw [hmy] at hmay
    have hD := drop_eq t k key hk hmy
    obtain ⟨g, cv, rfl, hcs⟩ := mapAt_cells h hk
    have hok := h.ok _ (List.getElem_mem hk)
    have hfew := hok.few
    have hko := hok.key
    have hrow := h.keys k hk
    obtain ⟨Ak, ck, hks⟩ := hrow.slice
    rw [hks] at hcs hrow
    have hfw := h.few
    have hki : (k : Int) < (t.length : Int) := by omega
    have hst : ∀ w', Below w.heap.size w w' → (convert 23 9 (.slice A key.length c)).run Try.prog w' = .ok (.string (strOfNums key)) w' := fun w' hb => run_string_sat key (hat.below (hb.mono hB)) 23 9 5 rfl rfl rfl
    by_cases hh : t[k].d.hash = false
    · have hL := Lib.hid (hD.trans (if_pos hh))
      rw [hh] at hcs
      clear h hat hmy hrow
      go_enter Try.func86, Try.ntmps86
      go_wp2_with fail
      refine (hmay _ hrf).mono ?_
      rintro e w1 ⟨rfl, rfl⟩
      obtain ⟨z0, z1, z2, z3, z4, z5, z6, z7⟩ := hcs _ hrf
      go_wp2_with fail
      refine (rminus9 22 (by decide) (by decide) _).mono ?_
      rintro e w2 ⟨rfl, rfl⟩
      go_wp2_with fail
      go_ret2
      rw [hL.out]
      exact ⟨rfl, own, ks, fun _ _ => rfl, hT _ hrf, hK _ hrf⟩
    · have hD2 := hD.trans (if_neg hh)
      have hh2 : t[k].d.hash = true := by simpa using hh
      rw [hh2] at hcs
      clear hD hh
      have hset := fun (l' : List KeyM) (w' : World) (own' : Own) (ho : ∀ b, b < w.heap.size → own' b = own b) (hb : Below w.heap.size w w') (ks' : Nat → Value) (h1 : ∀ q, q ≠ k → ks' q = ks q) (h3 : RowIn own' (.keys k) w' 106 2 (ks' k) l'.length (keysV l')) (hf : l'.length ≤ 16) (hy : ∀ y ∈ l', y ∈ t[k].l) =>
        TabIn.set1 (h.kept (Kept.of (X := fun _ => False) hb (Nat.le_refl _)) ho (fun _ _ _ _ => id)) hk (g := g) (c := cv) rfl 4 (by omega) (ks' k) { t[k] with l := l' } ⟨hok.d, hf, hok.made0, hok.made, fun y h => hok.slot y (hy y h), fun y h => hok.key y (hy y h)⟩ h1 rfl h3
      have hrow0 := h.row.row
      have hgr := h.row.role g rfl
      have hgl := (hrow0.lt g rfl).2
      generalize hp : (fun y : KeyM => ! decide (y.k = key)) = p at *
      generalize hdm : dropM t k key = DM at *
      clear hat hmy hok hdm h
      generalize hl : t[k].l = l at *
      go_enter Try.func86, Try.ntmps86
      go_wp2_with fail
      refine (hmay _ hrf).mono ?_
      rintro e w1 ⟨rfl, rfl⟩
      go_wp2_with fail
      obtain ⟨i6, hi6, hv0, hv1, hv2⟩ := info_parts info106
      have hkb : ∀ x ∈ key, isByte x := fun x hx => hkey x hx
      go_loopw [8, 9] (fun q1 q2 wr => ∃ (j : Nat) (Ar : Option Addr) (cr : Nat), j ≤ l.length ∧ q1 = .slice Ar ((l.take j).filter p).length cr ∧ q2 = .int .i64 j ∧ wr.ownsRow w1.heap.size 106 2 (.slice Ar ((l.take j).filter p).length cr) ((l.take j).filter p).length (keysV ((l.take j).filter p)) ∧ Below w1.heap.size w1 wr) (fun _ q2 _ => l.length - (intOf q2).toNat)
      case atStart => exact ⟨0, none, 0, by omega, by simp, rfl, World.ownsRow_nil _ _ _ _, hrf⟩
      case round =>
        obtain ⟨j, Ar, cr, hj, rfl, rfl, hown, hbr⟩ := hrel
        obtain ⟨z0, z1, z2, z3, z4, z5, z6, z7⟩ := hcs _ hbr
        have hfl : ((l.take j).filter p).length ≤ 16 := Nat.le_trans (List.length_filter_le _ _) (Nat.le_trans (List.length_take_le _ _) (by omega))
        rcases Nat.lt_or_ge j l.length with hlt | hge
        · obtain ⟨gk, ck', hv, hgk, -, hck⟩ := hrow.get (by omega)
          simp only [Value.slice.injEq] at hv
          obtain ⟨rfl, -, rfl⟩ := hv
          have hji : (j : Int) < (l.length : Int) := by omega
          have e0 := fun w' (hb : Below w1.heap.size w1 w') => (hb.cell (p := ⟨gk, j * 2, none⟩) hgk).trans (hck _ _ (keysV_get l j hlt).1)
          have e1 := fun w' (hb : Below w1.heap.size w1 w') => (hb.cell (p := ⟨gk, j * 2 + 1, none⟩) hgk).trans (hck _ _ (keysV_get l j hlt).2)
          have hsb := str_beq l[j].k key (fun x hx => by have := hko _ (List.getElem_mem hlt) x hx; exact this) hkb
          have hft := filter_take p l j hlt
          have hpj : p l[j] = ! decide (l[j].k = key) := by rw [← hp]
          have q0 := fun nq => (hcs _ (below_drewN hbr nq)).2.1
          have q4 := fun nq => (hcs _ (below_drewN hbr nq)).2.2.2.2.2.2.1
          have qe := fun nq => e0 _ (below_drewN hbr nq)
          have qs := fun nq => hst _ (below_drewN hbr nq)
          by_cases hx : l[j].k = key
          · have hsb2 := hsb.trans (decide_eq_true hx)
            have hft2 : (l.take (j + 1)).filter p = (l.take j).filter p := by rw [hft, hpj, hx]; simp
            have HF := Lib.hid hft2
            clear hsb hft hft2 hpj hck hrow
            go_upto_region 9 with fail
            go_quiet (fail)
            rename_i nq
            clear q0 q4 qe qs
            have hbq := below_drewN hbr nq
            have hoq := own_kept hown (Kept.of (X := fun _ => False) (below_drewN (Below.refl _ _) nq) (Nat.le_refl _)) (fun _ _ => id)
            generalize wr.drewN nq = V at *
            clear hbr hown z0 z1 z2 z3 z4 z5 z6 z7
            obtain ⟨z0, z1, z2, z3, z4, z5, z6, z7⟩ := hcs _ hbq
            go_wp2_with fail
            go_roundw
            case rel => exact ⟨j + 1, Ar, cr, by omega, by rw [HF.out], by go_num, by rw [HF.out]; exact hoq, hbq⟩
            all_goals (simp [intOf]; omega)
          · have hsb2 := hsb.trans (decide_eq_false hx)
            have hft2 : (l.take (j + 1)).filter p = (l.take j).filter p ++ [l[j]] := by rw [hft, hpj]; simp [hx]
            have HF := Lib.hid hft2
            clear hsb hft hft2 hpj hck hrow
            go_upto_region 9 with fail
            go_quiet (fail)
            rename_i nq
            clear q0 q4 qe qs
            have hbq := below_drewN hbr nq
            have hoq := own_kept hown (Kept.of (X := fun _ => False) (below_drewN (Below.refl _ _) nq) (Nat.le_refl _)) (fun _ _ => id)
            generalize wr.drewN nq = V at *
            clear hbr hown z0 z1 z2 z3 z4 z5 z6 z7
            obtain ⟨z0, z1, z2, z3, z4, z5, z6, z7⟩ := hcs _ hbq
            have f0 := e0 _ hbq
            have f1 := e1 _ hbq
            go_wp2_with (at_builtin; refine wpList_append_box rfl (.tmp 54) (.tmp 66) 101 rfl w1.heap.size 106 i6 (.agg #[.string ByteArray.empty, .int .i64 0]) 2 24 Try.underlying101 hi6 hv0 hv1 hv2 rfl (by decide) Ar ((l.take j).filter p).length cr 1 _ rfl rfl (by simp) hoq rfl ?c1 ?c2 ?c3 ?c4 ?c5)
            case c1 => exact ⟨rfl, rfl⟩
            case c2 => simp only [maxLen]; omega
            case c3 => omega
            case c4 => exact hbq.size
            case c5 =>
              intro A6 c6 w6 ho6 hg6 hb6 hor6
              replace hb6 := hbq.trans hb6
              have hE : (l.take (j + 1)).filter p = (l.take j).filter p ++ [l[j]] := HF.out
              have ho7 : w6.ownsRow w1.heap.size 106 2 (.slice A6 ((l.take (j + 1)).filter p).length c6) ((l.take (j + 1)).filter p).length (keysV ((l.take (j + 1)).filter p)) := by
                rw [hE, keysV_append]; simpa [keysV] using ho6
              have hlen : ((l.take j).filter p).length + 1 = ((l.take (j + 1)).filter p).length := by rw [hE]; simp
              have HO := Lib.hid (And.intro ho7 hlen)
              clear ho6 hE ho7 hlen hg6 hor6 hbq hoq z0 z1 z2 z3 z4 z5 z6 z7 f0 f1 HF
              go_wp2_with fail
              go_roundw
              case rel => exact ⟨j + 1, A6, c6, by omega, by rw [HO.out.2], by go_num, HO.out.1, hb6⟩
              all_goals (simp [intOf]; omega)
        · have hjl : j = l.length := by omega
          have hji : ¬ (j : Int) < (l.length : Int) := by omega
          have htl : l.take j = l := List.take_of_length_le hge
          rw [htl] at hown hfl
          rw [htl]
          by_cases heq : (l.filter p).length = l.length
          · have hL := Lib.hid (hD2.trans (if_pos heq))
            have hTb := hT _ hbr
            have hKb := hK _ hbr
            have heqi : ((l.filter p).length : Int) = (l.length : Int) := by omega
            clear hD2 hown hfl htl hjl hset hrow
            generalize (l.filter p).length = nf at *
            go_wp2_with fail
            refine (rminus9 2 (by decide) (by decide) _).mono ?_
            rintro e w2 ⟨rfl, rfl⟩
            go_wp2_with fail
            go_ret2
            rw [hL.out]
            exact ⟨rfl, own, ks, fun _ _ => rfl, hTb, hKb⟩
          · have hL := Lib.hid (hD2.trans (if_neg heq))
            have heqi : ¬ ((l.filter p).length : Int) = (l.length : Int) := by omega
            have heqb : (((l.filter p).length : Int) == (l.length : Int)) = false := by simpa using heqi
            have hfin : ∃ own' ks', (∀ b, b < w1.heap.size → own' b = own b) ∧ TabIn own' (wr.setCell ⟨g, k * 6 + 4, none⟩ (.slice Ar (l.filter p).length cr)) pt pm (.slice (some ⟨g, 0, none⟩) t.length cv) ks' (t.set k { t[k] with l := l.filter p }) ∧ Kept (fun b => own b = some .maps) w1 (wr.setCell ⟨g, k * 6 + 4, none⟩ (.slice Ar (l.filter p).length cr)) := by
              have ho' : ∀ b, b < w1.heap.size → (fun b => if b < w1.heap.size then own b else if (Value.slice Ar (l.filter p).length cr).ownBlock = some b then some (.keys k) else none) b = own b := fun b hb => if_pos hb
              have hs := hset (l.filter p) wr (fun b => if b < w1.heap.size then own b else if (Value.slice Ar (l.filter p).length cr).ownBlock = some b then some (.keys k) else none) ho' hbr (fun q => if q = k then .slice Ar (l.filter p).length cr else ks q) (fun q hq => if_neg hq) ⟨by
                simp only [if_true]; exact own_mono (Nat.zero_le _) hown, fun b hb => by
                simp only [if_true] at hb
                have := (hown.lt b hb).1
                show (if b < w1.heap.size then own b else _) = _
                rw [if_neg (by omega), if_pos hb]⟩ hfl (fun y hy => (List.mem_filter.1 hy).1)
              simp only [if_true] at hs
              exact ⟨_, _, ho', hs.1, (hK _ hbr).trans hs.2 (fun b _ e => by show own b = some .maps; rw [e]; exact hgr)⟩
            have HF := Lib.hid hfin
            have hfz : wr.frozen? ⟨g, k * 6 + 4, none⟩ = false := by
              have := (own_kept (X := fun _ => False) hrow0 (Kept.of hbr (Nat.le_refl _)) (fun _ _ => id)).frozenAt (k * 6 + 4)
              simpa using this
            clear hD2 hown hfl htl hjl hset hrow hfin heq hrow0 hcs
            generalize (l.filter p).length = nf at *
            go_wp2_with fail
            go_ret2
            rw [hL.out]
            obtain ⟨o', k', g1, g2, g3⟩ := HF.out
            exact ⟨rfl, o', g1, ⟨k', g2⟩, g3⟩
end
end Go.Proofs.Ytncogaikiceidaa
end
