/- Items as rows; Alike. No statement is proved here. -/
import Derived.Test.YtncogaikiceidaaN17
import Derived.Test.YtncogaikiceidaaN4
import Derived.BigQuiet
namespace Go.Proofs.Ytncogaikiceidaa
set_option maxRecDepth 100000
open Go.RowKit
set_option linter.unusedSimpArgs false
set_option linter.unusedVariables false
set_option linter.unnecessarySimpa false
section
/-! ### Items -/
def itemsV (d : Nat → Value × Value) : List ItemM → Nat → List Value
  | [], _ => []
  | _ :: l, i => (d i).1 :: (d i).2 :: itemsV d l (i + 1)
theorem itemsV_length (d : Nat → Value × Value) : ∀ (l : List ItemM) (i : Nat), (itemsV d l i).length = l.length * 2
  | [], _ => rfl
  | a :: l, i => by rw [itemsV, List.length_cons, List.length_cons, itemsV_length d l, List.length_cons]; omega
theorem itemsV_get (d : Nat → Value × Value) : ∀ (l : List ItemM) (i k : Nat), k < l.length → (itemsV d l i)[k * 2]? = some (d (i + k)).1 ∧ (itemsV d l i)[k * 2 + 1]? = some (d (i + k)).2
  | a :: l, i, 0, _ => ⟨rfl, rfl⟩
  | a :: l, i, k + 1, h => by
    have := itemsV_get d l (i + 1) k (by simpa using h)
    rw [itemsV, show (k + 1) * 2 = k * 2 + 1 + 1 by omega, show k * 2 + 1 + 1 + 1 = (k * 2 + 1) + 1 + 1 by omega]
    rw [show i + (k + 1) = i + 1 + k by omega]
    simpa using this
/-- An item's rows: key and value. -/
structure ItemAt (w : World) (B : Nat) (d : Value × Value) (y : ItemM) : Prop where
  key : ∃ A c, d.1 = .slice A y.key.length c ∧ SAt w B 1 A y.key.length (bytesV y.key)
  val : ∃ A c, d.2 = .slice A y.val.length c ∧ SAt w B 1 A y.val.length (bytesV y.val)
structure ItemsAt (w : World) (B : Nat) (A : Option Addr) (l : List ItemM) (d : Nat → Value × Value) : Prop where
  row : SAt w B 2 A l.length (itemsV d l 0)
  item : ∀ i, (h : i < l.length) → ItemAt w B (d i) l[i]
theorem ItemsAt.below {w w' : World} {B : Nat} {A : Option Addr} {l : List ItemM} {d : Nat → Value × Value} (h : ItemsAt w B A l d) (hb : Below B w w') : ItemsAt w' B A l d :=
  ⟨h.row.below hb, fun i hi => by
    obtain ⟨⟨A1, c1, e1, s1⟩, ⟨A2, c2, e2, s2⟩⟩ := h.item i hi
    exact ⟨⟨A1, c1, e1, s1.below hb⟩, ⟨A2, c2, e2, s2.below hb⟩⟩⟩
theorem ItemsAt.get {w : World} {B : Nat} {A : Option Addr} {l : List ItemM} {d : Nat → Value × Value} (h : ItemsAt w B A l d) {k : Nat} (hk : k < l.length) : ∃ b o Ak ck Av cv, A = some ⟨b, o, none⟩ ∧ b < B ∧ w.cell? ⟨b, o + k * 2, none⟩ = some (.slice Ak l[k].key.length ck) ∧ w.cell? ⟨b, o + k * 2 + 1, none⟩ = some (.slice Av l[k].val.length cv) ∧ SAt w B 1 Ak l[k].key.length (bytesV l[k].key) ∧ SAt w B 1 Av l[k].val.length (bytesV l[k].val) := by
  obtain ⟨b, o, e, hb, hc⟩ := h.row.2 (by omega)
  obtain ⟨⟨A1, c1, e1, s1⟩, ⟨A2, c2, e2, s2⟩⟩ := h.item k hk
  have hg := itemsV_get d l 0 k hk
  rw [Nat.zero_add, e1, e2] at hg
  refine ⟨b, o, A1, c1, A2, c2, e, hb, hc _ _ hg.1, ?_, s1, s2⟩
  have := hc _ _ hg.2
  rwa [← Nat.add_assoc] at this
def pairI (y : ItemM) : List Int × List Int := (y.key, y.val)
structure ItemM.Ok (y : ItemM) : Prop where
  key : BytesOk y.key
  val : BytesOk y.val
set_option maxHeartbeats 1000000 in
theorem rsame9 (x y : List ItemM) (hx0 : ∀ i ∈ x, i.Ok) (hy0 : ∀ i ∈ y, i.Ok) (A B : Option Addr) (c d : Nat) (dx dy : Nat → Value × Value) (w : World) (hx : ItemsAt w w.heap.size A x dx) (hy : ItemsAt w w.heap.size B y dy) (hn : x.length ≤ 1000000) (hm : y.length ≤ 1000000) :
    Calls Try.prog 31 #[.slice A x.length c, .slice B y.length d] w fun e w' => e = .returned (.bool (decide (x.map pairI = y.map pairI))) ∧ Below w.heap.size w w' := by
  have hrf := Below.refl w.heap.size w
  by_cases hl : x.length = y.length
  · have hX := fun w' (hb : Below w.heap.size w w') (k : Nat) (hk : k < x.length) => (hx.below hb).get hk
    have hY := fun w' (hb : Below w.heap.size w w') (k : Nat) (hk : k < y.length) => (hy.below hb).get hk
    have HS := Lib.hid (show (∀ i, (h : i < x.length) → (h2 : i < y.length) → x[i].key = y[i].key ∧ x[i].val = y[i].val) → decide (x.map pairI = y.map pairI) = true from fun h => by
      rw [decide_eq_true_eq]
      apply List.ext_getElem (by simpa using hl)
      intro i h1 h2
      simp only [List.getElem_map, pairI]
      have := h i (by simpa using h1) (by simpa using h2)
      rw [this.1, this.2])
    have HN := Lib.hid (show ∀ i, (h : i < x.length) → (h2 : i < y.length) → ¬ (x[i].key = y[i].key ∧ x[i].val = y[i].val) → decide (x.map pairI = y.map pairI) = false from fun i h h2 hne => by
      rw [decide_eq_false_iff_not]
      intro he
      have e1 : (x.map pairI)[i]? = (y.map pairI)[i]? := by rw [he]
      simp only [List.getElem?_map, List.getElem?_eq_getElem h, List.getElem?_eq_getElem h2, Option.map_some, Option.some.injEq, pairI, Prod.mk.injEq] at e1
      exact hne e1)
    have hli : ((x.length : Nat) : Int) = ((y.length : Nat) : Int) := by omega
    have HL := Lib.hid hl
    clear hx hy hl
    go_enter Try.func31, Try.ntmps31
    go_wp2_with fail
    go_loopw [5] (fun q wr => ∃ j : Nat, j ≤ x.length ∧ q = .int .i64 j ∧ (∀ i, (h : i < x.length) → (h2 : i < y.length) → i < j → x[i].key = y[i].key ∧ x[i].val = y[i].val) ∧ Below w.heap.size w wr) (fun q _ => x.length - (intOf q).toNat)
    case atStart => exact ⟨0, by omega, rfl, fun i _ _ h => absurd h (by omega), hrf⟩
    case round =>
      obtain ⟨j, hj, rfl, hok, hb⟩ := hrel
      rcases Nat.lt_or_ge j x.length with hlt | hge
      · have hlt2 : j < y.length := by rw [← HL.out]; exact hlt
        obtain ⟨b1, o1, Ak, ck, Av, cv, rfl, hb1, c1, c2, s1, s2⟩ := hX _ hb j hlt
        obtain ⟨b2, o2, Bk, dk, Bv, dv, rfl, hb2, c3, c4, s3, s4⟩ := hY _ hb j hlt2
        have hji : (j : Int) < (x.length : Int) := by omega
        have hji2 : (j : Int) < (y.length : Int) := by omega
        have hxk := hx0 _ (List.getElem_mem hlt)
        have hyk := hy0 _ (List.getElem_mem hlt2)
        have sb1 := str_beq x[j].key y[j].key (fun z hz => by have := hxk.key z hz; exact this) (fun z hz => by have := hyk.key z hz; exact this)
        have sb2 := str_beq x[j].val y[j].val (fun z hz => by have := hxk.val z hz; exact this) (fun z hz => by have := hyk.val z hz; exact this)
        have k1 := fun nq => ((below_drewN (Below.refl _ wr) nq).cell (p := ⟨b1, o1 + j * 2, none⟩) (Nat.lt_of_lt_of_le hb1 hb.size)).trans c1
        have k2 := fun nq => ((below_drewN (Below.refl _ wr) nq).cell (p := ⟨b1, o1 + j * 2 + 1, none⟩) (Nat.lt_of_lt_of_le hb1 hb.size)).trans c2
        have k3 := fun nq => ((below_drewN (Below.refl _ wr) nq).cell (p := ⟨b2, o2 + j * 2, none⟩) (Nat.lt_of_lt_of_le hb2 hb.size)).trans c3
        have k4 := fun nq => ((below_drewN (Below.refl _ wr) nq).cell (p := ⟨b2, o2 + j * 2 + 1, none⟩) (Nat.lt_of_lt_of_le hb2 hb.size)).trans c4
        have r1 : ∀ nq, (convert 23 9 (.slice Ak x[j].key.length ck)).run Try.prog (wr.drewN nq) = .ok (.string (strOfNums x[j].key)) (wr.drewN nq) := fun nq => run_string_sat x[j].key (s1.below (below_drewN (Below.refl _ wr) nq)) 23 9 5 rfl rfl rfl
        have r2 : ∀ nq, (convert 23 9 (.slice Av x[j].val.length cv)).run Try.prog (wr.drewN nq) = .ok (.string (strOfNums x[j].val)) (wr.drewN nq) := fun nq => run_string_sat x[j].val (s2.below (below_drewN (Below.refl _ wr) nq)) 23 9 5 rfl rfl rfl
        have r3 : ∀ nq, (convert 23 9 (.slice Bk y[j].key.length dk)).run Try.prog (wr.drewN nq) = .ok (.string (strOfNums y[j].key)) (wr.drewN nq) := fun nq => run_string_sat y[j].key (s3.below (below_drewN (Below.refl _ wr) nq)) 23 9 5 rfl rfl rfl
        have r4 : ∀ nq, (convert 23 9 (.slice Bv y[j].val.length dv)).run Try.prog (wr.drewN nq) = .ok (.string (strOfNums y[j].val)) (wr.drewN nq) := fun nq => run_string_sat y[j].val (s4.below (below_drewN (Below.refl _ wr) nq)) 23 9 5 rfl rfl rfl
        have HO := Lib.hid hok
        clear hok s1 s2 s3 s4 c1 c2 c3 c4
        by_cases hk : x[j].key = y[j].key
        · have t1 := sb1.trans (decide_eq_true hk)
          by_cases hv : x[j].val = y[j].val
          · have t2 := sb2.trans (decide_eq_true hv)
            have HK := Lib.hid (And.intro hk hv)
            clear sb1 sb2 hk hv
            go_upto_region 6 with fail
            go_quiet (fail)
            rename_i nq
            have hbq := below_drewN hb nq
            clear k1 k2 k3 k4 r1 r2 r3 r4
            go_wp2_with fail
            go_roundw
            case rel =>
              refine ⟨j + 1, by omega, by go_num, fun i h h2 hi => ?_, hbq⟩
              rcases Nat.lt_or_ge i j with h3 | h3
              · exact HO.out i h h2 h3
              · obtain rfl : i = j := by omega
                exact HK.out
            all_goals (simp [intOf]; omega)
          · have t2 := sb2.trans (decide_eq_false hv)
            have HK := Lib.hid (HN.out j hlt hlt2 (fun h => hv h.2))
            clear sb1 sb2 hk hv
            go_upto_region 6 with fail
            go_quiet (fail)
            rename_i nq
            have hbq := below_drewN hb nq
            clear k1 k2 k3 k4 r1 r2 r3 r4
            go_wp2_with fail
            go_ret
            exact ⟨by rw [HK.out]; rfl, hbq⟩
        · have t1 := sb1.trans (decide_eq_false hk)
          have HK := Lib.hid (HN.out j hlt hlt2 (fun h => hk h.1))
          clear sb1 sb2 hk
          go_upto_region 6 with fail
          go_quiet (fail)
          rename_i nq
          have hbq := below_drewN hb nq
          clear k1 k2 k3 k4 r1 r2 r3 r4
          go_wp2_with fail
          go_ret
          exact ⟨by rw [HK.out]; rfl, hbq⟩
      · have HK := Lib.hid (HS.out (fun i h h2 => hok i h h2 (by omega)))
        have hji : ¬ (j : Int) < (x.length : Int) := by omega
        clear hok hX hY
        go_wp2_with fail
        go_ret
        exact ⟨by rw [HK.out]; rfl, hb⟩
  · have HK := Lib.hid (show decide (x.map pairI = y.map pairI) = false from by
      rw [decide_eq_false_iff_not]
      intro h
      have := congrArg List.length h
      simp only [List.length_map] at this
      exact hl this)
    have hli : ¬ ((x.length : Nat) : Int) = ((y.length : Nat) : Int) := by omega
    clear hx hy hl
    generalize x.length = X at *
    generalize y.length = Y at *
    go_enter Try.func31, Try.ntmps31
    go_wp2_with fail
    go_ret
    exact ⟨by rw [HK.out]; rfl, hrf⟩
end
section
/-! ### Calls told apart -/
structure CallAt (w : World) (B : Nat) (d : Value × Value × Value) (c : CalledM) : Prop where
  key : ∃ A k, d.1 = .slice A c.key.length k ∧ SAt w B 1 A c.key.length (bytesV c.key)
  val : ∃ A k, d.2.1 = .slice A c.val.length k ∧ SAt w B 1 A c.val.length (bytesV c.val)
  n : ∃ A k, d.2.2 = .slice A c.n.length k ∧ SAt w B 1 A c.n.length (c.n.map (Value.int .u64))
structure CallsAt (w : World) (B : Nat) (A : Option Addr) (l : List CalledM) (cd : Nat → Value × Value × Value) : Prop where
  row : SAt w B 6 A l.length (callsV cd l 0)
  call : ∀ i, (h : i < l.length) → CallAt w B (cd i) l[i]
def tupC (c : CalledM) : Int × Int × List Int × List Int × List Int × Int := (c.id, c.map, c.key, c.val, c.n, c.ret)
theorem CallAt.below {w w' : World} {B : Nat} {d : Value × Value × Value} {c : CalledM} (h : CallAt w B d c) (hb : Below B w w') : CallAt w' B d c := by
  obtain ⟨⟨A1, k1, e1, s1⟩, ⟨A2, k2, e2, s2⟩, ⟨A3, k3, e3, s3⟩⟩ := h
  exact ⟨⟨A1, k1, e1, s1.below hb⟩, ⟨A2, k2, e2, s2.below hb⟩, ⟨A3, k3, e3, s3.below hb⟩⟩
theorem CallsAt.below {w w' : World} {B : Nat} {A : Option Addr} {l : List CalledM} {cd : Nat → Value × Value × Value} (h : CallsAt w B A l cd) (hb : Below B w w') : CallsAt w' B A l cd :=
  ⟨h.row.below hb, fun i hi => (h.call i hi).below hb⟩
theorem callsV_get (cd : Nat → Value × Value × Value) : ∀ (l : List CalledM) (i k j : Nat) (hk : k < l.length), j < 6 → (callsV cd l i)[k * 6 + j]? = (calledV l[k] (cd (i + k)))[j]?
  | a :: l, i, 0, j, _, hj => by
    rw [callsV, List.getElem?_append_left (by simp [calledV]; omega)]; simp
  | a :: l, i, k + 1, j, hk, hj => by
    rw [callsV, List.getElem?_append_right (by simp [calledV]; omega), show (k + 1) * 6 + j - (calledV a (cd i)).length = k * 6 + j by simp [calledV]; omega, callsV_get cd l (i + 1) k j (by simpa using hk) hj]
    simp only [List.getElem_cons_succ]
    rw [show i + 1 + k = i + (k + 1) by omega]
theorem CallsAt.get {w : World} {B : Nat} {A : Option Addr} {l : List CalledM} {cd : Nat → Value × Value × Value} (h : CallsAt w B A l cd) {k : Nat} (hk : k < l.length) : ∃ b o, A = some ⟨b, o, none⟩ ∧ b < B ∧ ∀ j u, (calledV l[k] (cd k))[j]? = some u → w.cell? ⟨b, o + k * 6 + j, none⟩ = some u := by
  obtain ⟨b, o, e, hb, hc⟩ := h.row.2 (by omega)
  refine ⟨b, o, e, hb, fun j u hu => ?_⟩
  have hj : j < 6 := (List.getElem?_eq_some_iff.1 hu).1
  have hg := callsV_get cd l 0 k j hk hj
  rw [Nat.zero_add] at hg
  have := hc _ _ (hg.trans hu)
  rwa [← Nat.add_assoc] at this
theorem RowIn.sat {own : Own} {r : Role} {w : World} {t size n : Nat} {v : Value} {xs : List Value} (h : RowIn own r w t size v n xs) : ∃ A c, v = .slice A n c ∧ SAt w w.heap.size size A n xs := by
  obtain ⟨A, c, rfl⟩ := h.slice
  exact ⟨A, c, rfl, own_sat h.row⟩
end
section
set_option maxHeartbeats 2000000 in
theorem rcalls11 (x y : List CalledM) (hx0 : ∀ i ∈ x, i.Ok) (hy0 : ∀ i ∈ y, i.Ok) (A B : Option Addr) (c d : Nat) (cx cy : Nat → Value × Value × Value) (w : World) (hx : CallsAt w w.heap.size A x cx) (hy : CallsAt w w.heap.size B y cy) (hn : x.length ≤ 1000000) (hm : y.length ≤ 1000000) (hnx : ∀ i ∈ x, i.n.length ≤ 1000) :
    Calls Try.prog 30 #[.slice A x.length c, .slice B y.length d] w fun e w' => e = .returned (.bool (decide (x.map tupC = y.map tupC))) ∧ Below w.heap.size w w' := by
  have hrf := Below.refl w.heap.size w
  by_cases hl : x.length = y.length
  · have hX := fun w' (hb : Below w.heap.size w w') (k : Nat) (hk : k < x.length) => (hx.below hb).get hk
    have hY := fun w' (hb : Below w.heap.size w w') (k : Nat) (hk : k < y.length) => (hy.below hb).get hk
    have hXc := hx.call
    have hYc := hy.call
    have HS := Lib.hid (show (∀ i, (h : i < x.length) → (h2 : i < y.length) → tupC x[i] = tupC y[i]) → decide (x.map tupC = y.map tupC) = true from fun h => by
      rw [decide_eq_true_eq]
      apply List.ext_getElem (by simpa using hl)
      intro i h1 h2
      simp only [List.getElem_map]
      exact h i (by simpa using h1) (by simpa using h2))
    have HN := Lib.hid (show ∀ i, (h : i < x.length) → (h2 : i < y.length) → ¬ tupC x[i] = tupC y[i] → decide (x.map tupC = y.map tupC) = false from fun i h h2 hne => by
      rw [decide_eq_false_iff_not]
      intro he
      have e1 : (x.map tupC)[i]? = (y.map tupC)[i]? := by rw [he]
      simp only [List.getElem?_map, List.getElem?_eq_getElem h, List.getElem?_eq_getElem h2, Option.map_some, Option.some.injEq] at e1
      exact hne e1)
    have hli : ((x.length : Nat) : Int) = ((y.length : Nat) : Int) := by omega
    have HL := Lib.hid hl
    clear hx hy hl
    go_enter Try.func30, Try.ntmps30
    go_wp2_with fail
    go_loopw [5] (fun q wr => ∃ j : Nat, j ≤ x.length ∧ q = .int .i64 j ∧ (∀ i, (h : i < x.length) → (h2 : i < y.length) → i < j → tupC x[i] = tupC y[i]) ∧ Below w.heap.size w wr) (fun q _ => x.length - (intOf q).toNat)
    case atStart => exact ⟨0, by omega, rfl, fun i _ _ h => absurd h (by omega), hrf⟩
    case round =>
      obtain ⟨j, hj, rfl, hok, hb⟩ := hrel
      rcases Nat.lt_or_ge j x.length with hlt | hge
      · have hlt2 : j < y.length := by rw [← HL.out]; exact hlt
        obtain ⟨b1, o1, rfl, hb1, c1⟩ := hX _ hb j hlt
        obtain ⟨b2, o2, rfl, hb2, c2⟩ := hY _ hb j hlt2
        obtain ⟨⟨A1, k1, e1, s1⟩, ⟨A2, k2, e2, s2⟩, ⟨A3, k3, e3, s3⟩⟩ := hXc j hlt
        obtain ⟨⟨B1, m1, f1, t1⟩, ⟨B2, m2, f2, t2⟩, ⟨B3, m3, f3, t3⟩⟩ := hYc j hlt2
        have hji : (j : Int) < (x.length : Int) := by omega
        have hji2 : (j : Int) < (y.length : Int) := by omega
        have hxk := hx0 _ (List.getElem_mem hlt)
        have hyk := hy0 _ (List.getElem_mem hlt2)
        have hn1 := hnx _ (List.getElem_mem hlt)
        have sb1 := str_beq x[j].key y[j].key (fun z hz => by have := hxk.key z hz; exact this) (fun z hz => by have := hyk.key z hz; exact this)
        have sb2 := str_beq x[j].val y[j].val (fun z hz => by have := hxk.val z hz; exact this) (fun z hz => by have := hyk.val z hz; exact this)
        have x0 := c1 0 _ rfl
        have x1 := c1 1 _ rfl
        have x2 := c1 2 _ rfl
        have x3 := c1 3 _ rfl
        have x4 := c1 4 _ rfl
        have x5 := c1 5 _ rfl
        have y0 := c2 0 _ rfl
        have y1 := c2 1 _ rfl
        have y2 := c2 2 _ rfl
        have y3 := c2 3 _ rfl
        have y4 := c2 4 _ rfl
        have y5 := c2 5 _ rfl
        rw [e1] at x2; rw [e2] at x3; rw [e3] at x4
        rw [f1] at y2; rw [f2] at y3; rw [f3] at y4
        simp only [Nat.add_zero] at x0 y0
        have hbx : Below wr.heap.size wr (wr.alloc (.cells #[.int .i64 x[j].id, .int .i64 x[j].map, .slice A1 x[j].key.length k1, .slice A2 x[j].val.length k2, .slice A3 x[j].n.length k3, .int .u64 x[j].ret] 119)) := below_boxes1 _ _
        have hwx : Below w.heap.size w (wr.alloc (.cells #[.int .i64 x[j].id, .int .i64 x[j].map, .slice A1 x[j].key.length k1, .slice A2 x[j].val.length k2, .slice A3 x[j].n.length k3, .int .u64 x[j].ret] 119)) := hb.alloc hb.size _
        have hwy : Below w.heap.size w ((wr.alloc (.cells #[.int .i64 x[j].id, .int .i64 x[j].map, .slice A1 x[j].key.length k1, .slice A2 x[j].val.length k2, .slice A3 x[j].n.length k3, .int .u64 x[j].ret] 119)).alloc (.cells #[.int .i64 y[j].id, .int .i64 y[j].map, .slice B1 y[j].key.length m1, .slice B2 y[j].val.length m2, .slice B3 y[j].n.length m3, .int .u64 y[j].ret] 119)) := hwx.alloc hwx.size _
        have hb2r : b2 < wr.heap.size := Nat.lt_of_lt_of_le hb2 hb.size
        have v0 := (hbx.cell (p := ⟨b2, o2 + j * 6, none⟩) hb2r).trans y0
        have v1 := (hbx.cell (p := ⟨b2, o2 + j * 6 + 1, none⟩) hb2r).trans y1
        have v2 := (hbx.cell (p := ⟨b2, o2 + j * 6 + 2, none⟩) hb2r).trans y2
        have v3 := (hbx.cell (p := ⟨b2, o2 + j * 6 + 3, none⟩) hb2r).trans y3
        have v4 := (hbx.cell (p := ⟨b2, o2 + j * 6 + 4, none⟩) hb2r).trans y4
        have v5 := (hbx.cell (p := ⟨b2, o2 + j * 6 + 5, none⟩) hb2r).trans y5
        have r1 : (convert 23 9 (.slice A1 x[j].key.length k1)).run Try.prog ((wr.alloc (.cells #[.int .i64 x[j].id, .int .i64 x[j].map, .slice A1 x[j].key.length k1, .slice A2 x[j].val.length k2, .slice A3 x[j].n.length k3, .int .u64 x[j].ret] 119)).alloc (.cells #[.int .i64 y[j].id, .int .i64 y[j].map, .slice B1 y[j].key.length m1, .slice B2 y[j].val.length m2, .slice B3 y[j].n.length m3, .int .u64 y[j].ret] 119)) = .ok (.string (strOfNums x[j].key)) ((wr.alloc (.cells #[.int .i64 x[j].id, .int .i64 x[j].map, .slice A1 x[j].key.length k1, .slice A2 x[j].val.length k2, .slice A3 x[j].n.length k3, .int .u64 x[j].ret] 119)).alloc (.cells #[.int .i64 y[j].id, .int .i64 y[j].map, .slice B1 y[j].key.length m1, .slice B2 y[j].val.length m2, .slice B3 y[j].n.length m3, .int .u64 y[j].ret] 119)) := run_string_sat x[j].key (s1.below hwy) 23 9 5 rfl rfl rfl
        have r2 : (convert 23 9 (.slice A2 x[j].val.length k2)).run Try.prog ((wr.alloc (.cells #[.int .i64 x[j].id, .int .i64 x[j].map, .slice A1 x[j].key.length k1, .slice A2 x[j].val.length k2, .slice A3 x[j].n.length k3, .int .u64 x[j].ret] 119)).alloc (.cells #[.int .i64 y[j].id, .int .i64 y[j].map, .slice B1 y[j].key.length m1, .slice B2 y[j].val.length m2, .slice B3 y[j].n.length m3, .int .u64 y[j].ret] 119)) = .ok (.string (strOfNums x[j].val)) ((wr.alloc (.cells #[.int .i64 x[j].id, .int .i64 x[j].map, .slice A1 x[j].key.length k1, .slice A2 x[j].val.length k2, .slice A3 x[j].n.length k3, .int .u64 x[j].ret] 119)).alloc (.cells #[.int .i64 y[j].id, .int .i64 y[j].map, .slice B1 y[j].key.length m1, .slice B2 y[j].val.length m2, .slice B3 y[j].n.length m3, .int .u64 y[j].ret] 119)) := run_string_sat x[j].val (s2.below hwy) 23 9 5 rfl rfl rfl
        have r3 : (convert 23 9 (.slice B1 y[j].key.length m1)).run Try.prog ((wr.alloc (.cells #[.int .i64 x[j].id, .int .i64 x[j].map, .slice A1 x[j].key.length k1, .slice A2 x[j].val.length k2, .slice A3 x[j].n.length k3, .int .u64 x[j].ret] 119)).alloc (.cells #[.int .i64 y[j].id, .int .i64 y[j].map, .slice B1 y[j].key.length m1, .slice B2 y[j].val.length m2, .slice B3 y[j].n.length m3, .int .u64 y[j].ret] 119)) = .ok (.string (strOfNums y[j].key)) ((wr.alloc (.cells #[.int .i64 x[j].id, .int .i64 x[j].map, .slice A1 x[j].key.length k1, .slice A2 x[j].val.length k2, .slice A3 x[j].n.length k3, .int .u64 x[j].ret] 119)).alloc (.cells #[.int .i64 y[j].id, .int .i64 y[j].map, .slice B1 y[j].key.length m1, .slice B2 y[j].val.length m2, .slice B3 y[j].n.length m3, .int .u64 y[j].ret] 119)) := run_string_sat y[j].key (t1.below hwy) 23 9 5 rfl rfl rfl
        have r4 : (convert 23 9 (.slice B2 y[j].val.length m2)).run Try.prog ((wr.alloc (.cells #[.int .i64 x[j].id, .int .i64 x[j].map, .slice A1 x[j].key.length k1, .slice A2 x[j].val.length k2, .slice A3 x[j].n.length k3, .int .u64 x[j].ret] 119)).alloc (.cells #[.int .i64 y[j].id, .int .i64 y[j].map, .slice B1 y[j].key.length m1, .slice B2 y[j].val.length m2, .slice B3 y[j].n.length m3, .int .u64 y[j].ret] 119)) = .ok (.string (strOfNums y[j].val)) ((wr.alloc (.cells #[.int .i64 x[j].id, .int .i64 x[j].map, .slice A1 x[j].key.length k1, .slice A2 x[j].val.length k2, .slice A3 x[j].n.length k3, .int .u64 x[j].ret] 119)).alloc (.cells #[.int .i64 y[j].id, .int .i64 y[j].map, .slice B1 y[j].key.length m1, .slice B2 y[j].val.length m2, .slice B3 y[j].n.length m3, .int .u64 y[j].ret] 119)) := run_string_sat y[j].val (t2.below hwy) 23 9 5 rfl rfl rfl
        have HO := Lib.hid hok
        have HNj := Lib.hid (fun h => HN.out j hlt hlt2 h)
        have hT : tupC x[j] = tupC y[j] ↔ (x[j].id = y[j].id ∧ x[j].map = y[j].map ∧ x[j].key = y[j].key ∧ x[j].val = y[j].val ∧ x[j].n = y[j].n ∧ x[j].ret = y[j].ret) := by simp only [tupC, Prod.mk.injEq]
        have HT := Lib.hid hT
        clear hok hT c1 c2 s1 s2 t1 t2 e1 e2 e3 f1 f2 f3 hX hY
        obtain ⟨-, hbxx, hbyy⟩ := box2 wr [.int .i64 x[j].id, .int .i64 x[j].map, .slice A1 x[j].key.length k1, .slice A2 x[j].val.length k2, .slice A3 x[j].n.length k3, .int .u64 x[j].ret] [.int .i64 y[j].id, .int .i64 y[j].map, .slice B1 y[j].key.length m1, .slice B2 y[j].val.length m2, .slice B3 y[j].n.length m3, .int .u64 y[j].ret] 119 119
        have hrV := Below.refl ((wr.alloc (.cells #[.int .i64 x[j].id, .int .i64 x[j].map, .slice A1 x[j].key.length k1, .slice A2 x[j].val.length k2, .slice A3 x[j].n.length k3, .int .u64 x[j].ret] 119)).alloc (.cells #[.int .i64 y[j].id, .int .i64 y[j].map, .slice B1 y[j].key.length m1, .slice B2 y[j].val.length m2, .slice B3 y[j].n.length m3, .int .u64 y[j].ret] 119)).heap.size ((wr.alloc (.cells #[.int .i64 x[j].id, .int .i64 x[j].map, .slice A1 x[j].key.length k1, .slice A2 x[j].val.length k2, .slice A3 x[j].n.length k3, .int .u64 x[j].ret] 119)).alloc (.cells #[.int .i64 y[j].id, .int .i64 y[j].map, .slice B1 y[j].key.length m1, .slice B2 y[j].val.length m2, .slice B3 y[j].n.length m3, .int .u64 y[j].ret] 119))
        have p0 := hbxx _ hrV 0 _ rfl
        have p1 := hbxx _ hrV 1 _ rfl
        have p2 := hbxx _ hrV 2 _ rfl
        have p3 := hbxx _ hrV 3 _ rfl
        have p4 := hbxx _ hrV 4 _ rfl
        have p5 := hbxx _ hrV 5 _ rfl
        have q0 := hbyy _ hrV 0 _ rfl
        have q1 := hbyy _ hrV 1 _ rfl
        have q2 := hbyy _ hrV 2 _ rfl
        have q3 := hbyy _ hrV 3 _ rfl
        have q4 := hbyy _ hrV 4 _ rfl
        have q5 := hbyy _ hrV 5 _ rfl
        go_upto_region 8 with fail
        have hVe : ∃ V, V = ((wr.alloc (.cells #[.int .i64 x[j].id, .int .i64 x[j].map, .slice A1 x[j].key.length k1, .slice A2 x[j].val.length k2, .slice A3 x[j].n.length k3, .int .u64 x[j].ret] 119)).alloc (.cells #[.int .i64 y[j].id, .int .i64 y[j].map, .slice B1 y[j].key.length m1, .slice B2 y[j].val.length m2, .slice B3 y[j].n.length m3, .int .u64 y[j].ret] 119)) := ⟨_, rfl⟩
        generalize ((wr.alloc (.cells #[.int .i64 x[j].id, .int .i64 x[j].map, .slice A1 x[j].key.length k1, .slice A2 x[j].val.length k2, .slice A3 x[j].n.length k3, .int .u64 x[j].ret] 119)).alloc (.cells #[.int .i64 y[j].id, .int .i64 y[j].map, .slice B1 y[j].key.length m1, .slice B2 y[j].val.length m2, .slice B3 y[j].n.length m3, .int .u64 y[j].ret] 119)) = V at *
        clear hVe x0 x1 x2 x3 x4 x5 y0 y1 y2 y3 y4 y5 v0 v1 v2 v3 v4 v5 hbx hwx
        go_wp2_with fail
        all_goals first
          | (go_ret
             refine ⟨?_, hwy⟩
             rw [HNj.out (fun h => by
               obtain ⟨t1, t2, t3, t4, t5, t6⟩ := HT.out.1 h
               first
                 | exact absurd t1 (by assumption)
                 | exact absurd t2 (by assumption)
                 | exact absurd t3 (by assumption)
                 | exact absurd t4 (by assumption)
                 | exact absurd t6 (by assumption)
                 | (rename_i hq
                    rw [t5] at hq
                    simp at hq))]
             rfl)
          | skip
        rename_i g1 g2 g3 g4 g5 g6
        have hnl : x[j].n.length = y[j].n.length := by
          have hq := g6
          simp at hq
          omega
        have G := Lib.hid (And.intro g1 (And.intro g2 (And.intro g3 (And.intro g4 (And.intro g5 hnl)))))
        clear g1 g2 g3 g4 g5 g6 hnl r1 r2 r3 r4 sb1 sb2 p0 p1 p2 p3 p5 q0 q1 q2 q3 q5
        have hwV := hwy
        have sx3 : ∀ w', Below w.heap.size w w' → SAt w' w.heap.size 1 A3 x[j].n.length (x[j].n.map (Value.int .u64)) := fun w' hb => s3.below hb
        have sy3 : ∀ w', Below w.heap.size w w' → SAt w' w.heap.size 1 B3 y[j].n.length (y[j].n.map (Value.int .u64)) := fun w' hb => t3.below hb
        have z4 := fun w' hb => hbxx w' hb 4 _ rfl
        have u4 := fun w' hb => hbyy w' hb 4 _ rfl
        clear hbxx hbyy p4 q4
        go_loopw [8] (fun q w2 => ∃ i : Nat, i ≤ x[j].n.length ∧ q = .int .i64 i ∧ (∀ k, (h : k < x[j].n.length) → (h2 : k < y[j].n.length) → k < i → x[j].n[k] = y[j].n[k]) ∧ Below V.heap.size V w2) (fun q _ => x[j].n.length - (intOf q).toNat)
        case atStart => exact ⟨0, by omega, rfl, fun k _ _ h => absurd h (by omega), Below.refl _ _⟩
        case round =>
          obtain ⟨i, hi, rfl, hik, hbi⟩ := hrel
          have p4 := z4 _ hbi
          have hwi : Below w.heap.size w _ := hwV.trans (hbi.mono hwV.size)
          rcases Nat.lt_or_ge i x[j].n.length with hil | hig
          · have hil2 : i < y[j].n.length := by rw [← G.out.2.2.2.2.2]; exact hil
            have hii : (i : Int) < (x[j].n.length : Int) := by omega
            have hii2 : (i : Int) < (y[j].n.length : Int) := by omega
            obtain ⟨b3, o3, rfl, hb3, hc3⟩ := (sx3 _ hwi).2 (by omega)
            obtain ⟨b4, o4, rfl, hb4, hc4⟩ := (sy3 _ hwi).2 (by omega)
            have hl3 : b3 < wr.heap.size := Nat.lt_of_lt_of_le hb3 hwi.size
            have hl4 : b4 < wr.heap.size := Nat.lt_of_lt_of_le hb4 hwi.size
            have k1 := fun nq => ((below_drewN (Below.refl _ wr) nq).cell (p := ⟨b3, o3 + i, none⟩) hl3).trans (hc3 i (.int .u64 x[j].n[i]) (by simp [hil]))
            have k2 := fun nq => ((below_drewN (Below.refl _ wr) nq).cell (p := ⟨b4, o4 + i, none⟩) hl4).trans (hc4 i (.int .u64 y[j].n[i]) (by simp [hil2]))
            have k3 := fun nq => z4 _ (below_drewN hbi nq)
            have k4 := fun nq => u4 _ (below_drewN hbi nq)
            have HI := Lib.hid hik
            clear hik hc3 hc4
            by_cases hv : x[j].n[i] = y[j].n[i]
            · have hvb : (x[j].n[i] != y[j].n[i]) = false := by simpa using hv
              have HV := Lib.hid hv
              clear hv
              go_upto_region 13 with fail
              go_quiet (fail)
              rename_i nq
              have hbq := below_drewN hbi nq
              clear k1 k2 k3 k4
              go_wp2_with fail
              go_roundw
              case rel =>
                refine ⟨i + 1, by omega, by go_num, fun k h h2 hk => ?_, hbq⟩
                rcases Nat.lt_or_ge k i with h3 | h3
                · exact HI.out k h h2 h3
                · obtain rfl : k = i := by omega
                  exact HV.out
              all_goals (simp [intOf]; omega)
            · have hvb : (x[j].n[i] != y[j].n[i]) = true := by simpa using hv
              have HK := Lib.hid (HNj.out (fun h => by
                obtain ⟨t1, t2, t3, t4, t5, t6⟩ := HT.out.1 h
                exact hv (by simp only [t5])))
              clear hv
              go_upto_region 13 with fail
              go_quiet (fail)
              rename_i nq
              have hbq := below_drewN hbi nq
              have hwq := hwV.trans (hbq.mono hwV.size)
              clear k1 k2 k3 k4
              go_wp2_with fail
              go_ret
              exact ⟨by rw [HK.out]; rfl, hwq⟩
          · have hii : ¬ (i : Int) < (x[j].n.length : Int) := by omega
            have HE := Lib.hid (show tupC x[j] = tupC y[j] from by
              obtain ⟨t1, t2, t3, t4, t5, t6⟩ := G.out
              refine HT.out.2 ⟨?_, ?_, ?_, ?_, ?_, ?_⟩
              all_goals first
                | assumption
                | (apply List.ext_getElem t6
                   intro k h h2
                   exact hik k h h2 (by omega)))
            clear hik
            go_wp2_with fail
            go_roundw
            case rel =>
              refine ⟨j + 1, by omega, by go_num, fun k h h2 hk => ?_, hwi⟩
              rcases Nat.lt_or_ge k j with h3 | h3
              · exact HO.out k h h2 h3
              · obtain rfl : k = j := by omega
                exact HE.out
            all_goals (simp [intOf]; omega)
      · have HK := Lib.hid (HS.out (fun i h h2 => hok i h h2 (by omega)))
        have hji : ¬ (j : Int) < (x.length : Int) := by omega
        clear hok hX hY
        go_wp2_with fail
        go_ret
        exact ⟨by rw [HK.out]; rfl, hb⟩
  · have HK := Lib.hid (show decide (x.map tupC = y.map tupC) = false from by
      rw [decide_eq_false_iff_not]
      intro h
      have := congrArg List.length h
      simp only [List.length_map] at this
      exact hl this)
    have hli : ¬ ((x.length : Nat) : Int) = ((y.length : Nat) : Int) := by omega
    clear hx hy hl
    generalize x.length = X at *
    generalize y.length = Y at *
    go_enter Try.func30, Try.ntmps30
    go_wp2_with fail
    go_ret
    exact ⟨by rw [HK.out]; rfl, hrf⟩
end
section
/-! ### Alike -/
def slicesV (sv : Nat → Value) : List (List ItemM) → Nat → List Value
  | [], _ => []
  | _ :: l, i => sv i :: slicesV sv l (i + 1)
theorem slicesV_length (sv : Nat → Value) : ∀ (l : List (List ItemM)) (i : Nat), (slicesV sv l i).length = l.length
  | [], _ => rfl
  | a :: l, i => by rw [slicesV, List.length_cons, slicesV_length sv l, List.length_cons]
theorem slicesV_get (sv : Nat → Value) : ∀ (l : List (List ItemM)) (i k : Nat), k < l.length → (slicesV sv l i)[k]? = some (sv (i + k))
  | a :: l, i, 0, _ => rfl
  | a :: l, i, k + 1, h => by
    rw [slicesV, List.getElem?_cons_succ, slicesV_get sv l (i + 1) k (by simpa using h), show i + 1 + k = i + (k + 1) by omega]
structure MapsAt (w : World) (B : Nat) (A : Option Addr) (l : List (List ItemM)) (sv : Nat → Value) (dd : Nat → Nat → Value × Value) : Prop where
  row : SAt w B 1 A l.length (slicesV sv l 0)
  item : ∀ i, (h : i < l.length) → ∃ Ai ci, sv i = .slice Ai l[i].length ci ∧ ItemsAt w B Ai l[i] (dd i)
theorem ItemsAt.more {w : World} {B B' : Nat} {A : Option Addr} {l : List ItemM} {d : Nat → Value × Value} (h : ItemsAt w B A l d) (hB : B ≤ B') : ItemsAt w B' A l d :=
  ⟨h.row.more2 hB, fun i hi => by
    obtain ⟨⟨A1, c1, e1, s1⟩, ⟨A2, c2, e2, s2⟩⟩ := h.item i hi
    exact ⟨⟨A1, c1, e1, s1.more2 hB⟩, ⟨A2, c2, e2, s2.more2 hB⟩⟩⟩
theorem CallsAt.more {w : World} {B B' : Nat} {A : Option Addr} {l : List CalledM} {cd : Nat → Value × Value × Value} (h : CallsAt w B A l cd) (hB : B ≤ B') : CallsAt w B' A l cd :=
  ⟨h.row.more2 hB, fun i hi => by
    obtain ⟨⟨A1, k1, e1, s1⟩, ⟨A2, k2, e2, s2⟩, ⟨A3, k3, e3, s3⟩⟩ := h.call i hi
    exact ⟨⟨A1, k1, e1, s1.more2 hB⟩, ⟨A2, k2, e2, s2.more2 hB⟩, ⟨A3, k3, e3, s3.more2 hB⟩⟩⟩
theorem MapsAt.below {w w' : World} {B : Nat} {A : Option Addr} {l : List (List ItemM)} {sv : Nat → Value} {dd : Nat → Nat → Value × Value} (h : MapsAt w B A l sv dd) (hb : Below B w w') : MapsAt w' B A l sv dd :=
  ⟨h.row.below hb, fun i hi => by obtain ⟨Ai, ci, e, s⟩ := h.item i hi; exact ⟨Ai, ci, e, s.below hb⟩⟩
theorem MapsAt.get {w : World} {B : Nat} {A : Option Addr} {l : List (List ItemM)} {sv : Nat → Value} {dd : Nat → Nat → Value × Value} (h : MapsAt w B A l sv dd) {k : Nat} (hk : k < l.length) : ∃ b o Ai ci, A = some ⟨b, o, none⟩ ∧ b < B ∧ w.cell? ⟨b, o + k, none⟩ = some (.slice Ai l[k].length ci) ∧ ItemsAt w B Ai l[k] (dd k) := by
  obtain ⟨b, o, e, hb, hc⟩ := h.row.2 (by omega)
  obtain ⟨Ai, ci, e2, s⟩ := h.item k hk
  have hg := slicesV_get sv l 0 k hk
  rw [Nat.zero_add, e2] at hg
  exact ⟨b, o, Ai, ci, e, hb, hc _ _ hg, s⟩
def endVal (e : EndM) (A M : Option Addr) (c k : Nat) : Value := .agg #[.int .i64 e.code, .int .i64 e.place, .int .u64 e.r0, .int .i64 e.steps, .slice A e.calls.length c, .slice M e.maps.length k]
end
section
set_option maxHeartbeats 2000000 in
theorem ralike11 (x y : EndM) (hcx : ∀ i ∈ x.calls, i.Ok) (hcy : ∀ i ∈ y.calls, i.Ok) (hmx : ∀ l ∈ x.maps, ∀ i ∈ l, i.Ok) (hmy : ∀ l ∈ y.maps, ∀ i ∈ l, i.Ok) (A B M N : Option Addr) (c d k n : Nat) (cx cy : Nat → Value × Value × Value) (sx sy : Nat → Value) (dx dy : Nat → Nat → Value × Value) (w : World)
    (h1 : CallsAt w w.heap.size A x.calls cx) (h2 : CallsAt w w.heap.size B y.calls cy) (h3 : MapsAt w w.heap.size M x.maps sx dx) (h4 : MapsAt w w.heap.size N y.maps sy dy) (b1 : x.calls.length ≤ 1000000) (b2 : y.calls.length ≤ 1000000) (b3 : ∀ i ∈ x.calls, i.n.length ≤ 1000) (b4 : x.maps.length ≤ 1000) (b5 : ∀ l ∈ x.maps, l.length ≤ 1000) (b6 : ∀ l ∈ y.maps, l.length ≤ 1000) :
    Calls Try.prog 11 #[endVal x A M c k, endVal y B N d n] w fun e w' => e = .returned (.bool (alikeM x y)) ∧ Below w.heap.size w w' := by
  obtain ⟨a0, a1, a2, a3, a4, a5⟩ := x
  obtain ⟨e0, e1, e2, e3, e4, e5⟩ := y
  simp only [endVal] at *
  have hA : alikeM ⟨a0, a1, a2, a3, a4, a5⟩ ⟨e0, e1, e2, e3, e4, e5⟩ = (a0 == e0 && a2 == e2 && decide (a4.map tupC = e4.map tupC) && decide (a5.map (List.map pairI) = e5.map (List.map pairI))) := rfl
  have hcal := fun w' (hb : Below w.heap.size w w') => rcalls11 a4 e4 hcx hcy A B c d cx cy w' ((h1.below hb).more hb.size) ((h2.below hb).more hb.size) b1 b2 b3
  obtain ⟨hW0, hx, hy⟩ := box2 w [.int .i64 a0, .int .i64 a1, .int .u64 a2, .int .i64 a3, .slice A a4.length c, .slice M a5.length k] [.int .i64 e0, .int .i64 e1, .int .u64 e2, .int .i64 e3, .slice B e4.length d, .slice N e5.length n] 56 56
  generalize alikeM ⟨a0, a1, a2, a3, a4, a5⟩ ⟨e0, e1, e2, e3, e4, e5⟩ = AL at *
  generalize decide (a4.map tupC = e4.map tupC) = D4 at *
  clear h1 h2
  go_enter Try.func11, Try.ntmps11
  go_upto_region 1 with fail
  generalize (w.alloc (.cells #[.int .i64 a0, .int .i64 a1, .int .u64 a2, .int .i64 a3, .slice A a4.length c, .slice M a5.length k] 56)).alloc (.cells #[.int .i64 e0, .int .i64 e1, .int .u64 e2, .int .i64 e3, .slice B e4.length d, .slice N e5.length n] 56) = W at *
  have hrW := Below.refl W.heap.size W
  have p0 := hx _ hrW 0 _ rfl
  have p2 := hx _ hrW 2 _ rfl
  have p4 := hx _ hrW 4 _ rfl
  have p5 := hx _ hrW 5 _ rfl
  have q0 := hy _ hrW 0 _ rfl
  have q2 := hy _ hrW 2 _ rfl
  have q4 := hy _ hrW 4 _ rfl
  have q5 := hy _ hrW 5 _ rfl
  by_cases k0 : a0 = e0
  · by_cases k2 : a2 = e2
    · have t0 : (a0 == e0) = true := by simpa using k0
      have t2 : (a2 == e2) = true := by simpa using k2
      have f0 : (a0 != e0) = false := by simpa using k0
      have f2 : (a2 != e2) = false := by simpa using k2
      rw [t0, t2, Bool.true_and, Bool.true_and] at hA
      clear k0 k2
      go_wp2_with fail
      refine (hcal _ hW0).mono ?_
      rintro e w1 ⟨rfl, hc1⟩
      have hS1 := pstep2 (And.intro hW0 hrW) (Nat.le_refl _) (Nat.le_refl _) hc1
      have p5 := hx _ hS1.2 5 _ rfl
      have q5 := hy _ hS1.2 5 _ rfl
      cases D4 with
      | false =>
        have HA := Lib.hid (show AL = false from by rw [hA]; simp)
        clear hA
        go_wp2_with fail
        go_ret
        exact ⟨by rw [HA.out]; rfl, hS1.1⟩
      | true =>
        rw [Bool.true_and] at hA
        by_cases hl : a5.length = e5.length
        · have hli : ((a5.length : Nat) : Int) = ((e5.length : Nat) : Int) := by omega
          have hlb : (((a5.length : Nat) : Int) != ((e5.length : Nat) : Int)) = false := by simp [hl]
          have HL := Lib.hid hl
          have HS := Lib.hid (show (∀ i, (h : i < a5.length) → (h2 : i < e5.length) → decide (a5[i].map pairI = e5[i].map pairI) = true) → AL = true from fun h => by
            rw [hA, decide_eq_true_eq]
            apply List.ext_getElem (by simpa using hl)
            intro i h1 h2
            simp only [List.getElem_map]
            have := h i (by simpa using h1) (by simpa using h2)
            rwa [decide_eq_true_eq] at this)
          have HN := Lib.hid (show ∀ i, (h : i < a5.length) → (h2 : i < e5.length) → decide (a5[i].map pairI = e5[i].map pairI) = false → AL = false from fun i h h2 hne => by
            rw [hA, decide_eq_false_iff_not]
            rw [decide_eq_false_iff_not] at hne
            intro he
            have e1 : (a5.map (List.map pairI))[i]? = (e5.map (List.map pairI))[i]? := by rw [he]
            simp only [List.getElem?_map, List.getElem?_eq_getElem h, List.getElem?_eq_getElem h2, Option.map_some, Option.some.injEq] at e1
            exact hne e1)
          clear hA hl
          go_wp2_with fail
          go_loopw [5] (fun q wr => ∃ j : Nat, j ≤ a5.length ∧ q = .int .i64 j ∧ (∀ i, (h : i < a5.length) → (h2 : i < e5.length) → i < j → decide (a5[i].map pairI = e5[i].map pairI) = true) ∧ (Below w.heap.size w wr ∧ Below W.heap.size W wr)) (fun q _ => a5.length - (intOf q).toNat)
          case atStart => exact ⟨0, by omega, rfl, fun i _ _ h => absurd h (by omega), hS1⟩
          case round =>
            obtain ⟨j, hj, rfl, hok, hSr⟩ := hrel
            have p5 := hx _ hSr.2 5 _ rfl
            have q5 := hy _ hSr.2 5 _ rfl
            rcases Nat.lt_or_ge j a5.length with hlt | hge
            · have hlt2 : j < e5.length := by rw [← HL.out]; exact hlt
              obtain ⟨bx, ox, Ai, ci, rfl, hbx, cxj, ix⟩ := h3.get hlt
              obtain ⟨by', oy, Bi, di, rfl, hby, cyj, iy⟩ := h4.get hlt2
              have hji : (j : Int) < (a5.length : Int) := by omega
              have hji2 : (j : Int) < (e5.length : Int) := by omega
              have x6 : ∀ w', Below w.heap.size w w' → w'.cell? ⟨bx, ox + j, none⟩ = some (.slice Ai a5[j].length ci) := fun w' hb => (hb.cell (p := ⟨bx, ox + j, none⟩) hbx).trans cxj
              have y6 : ∀ w', Below w.heap.size w w' → w'.cell? ⟨by', oy + j, none⟩ = some (.slice Bi e5[j].length di) := fun w' hb => (hb.cell (p := ⟨by', oy + j, none⟩) hby).trans cyj
              have hsm := fun w' (hb : Below w.heap.size w w') => rsame9 a5[j] e5[j] (hmx _ (List.getElem_mem hlt)) (hmy _ (List.getElem_mem hlt2)) Ai Bi ci di (dx j) (dy j) w' ((ix.below hb).more hb.size) ((iy.below hb).more hb.size) (Nat.le_trans (b5 _ (List.getElem_mem hlt)) (by decide)) (Nat.le_trans (b6 _ (List.getElem_mem hlt2)) (by decide))
              have HO := Lib.hid hok
              have HNj := Lib.hid (HN.out j hlt hlt2)
              have hz5 : ∀ w', Below W.heap.size W w' → w'.cell? ⟨w.heap.size, 5, none⟩ = some (.slice (some ⟨bx, ox, none⟩) a5.length k) := fun w' hb => hx w' hb 5 _ rfl
              have hw5 : ∀ w', Below W.heap.size W w' → w'.cell? ⟨w.heap.size + 1, 5, none⟩ = some (.slice (some ⟨by', oy, none⟩) e5.length n) := fun w' hb => hy w' hb 5 _ rfl
              clear hok cxj cyj
              generalize hDj : decide (a5[j].map pairI = e5[j].map pairI) = Dj at *
              have HD := Lib.hid hDj
              clear hDj
              go_upto_region 6 with fail
              go_region_held3 (fun w' => Below w.heap.size w w' ∧ Below W.heap.size W w')
                (first | assumption | exact sdrew2 (by assumption))
                (first | (go_at_call 31; refine (hsm _ (by first | exact (show _ ∧ _ by assumption).1 | exact (sdrew2 (show _ ∧ _ by assumption)).1)).mono ?_; rintro e w2 ⟨rfl, hc2⟩; have hS2 := pstep2 (show Below w.heap.size w _ ∧ Below W.heap.size W _ by first | assumption | exact sdrew2 (by assumption)) (Nat.le_refl _) (Nat.le_refl _) hc2))
              all_goals
                rename_i hS2
                cases Dj with
                | true =>
                  go_wp2_with fail
                  go_roundw
                  case rel =>
                    refine ⟨j + 1, by omega, by go_num, fun i h h2 hi => ?_, hS2⟩
                    rcases Nat.lt_or_ge i j with h5 | h5
                    · exact HO.out i h h2 h5
                    · obtain rfl : i = j := by omega
                      exact HD.out
                  all_goals (simp [intOf]; omega)
                | false =>
                  have HA := Lib.hid (HNj.out rfl)
                  go_wp2_with fail
                  go_ret
                  exact ⟨by rw [HA.out]; rfl, hS2.1⟩
            · have hji : ¬ (j : Int) < (a5.length : Int) := by omega
              have HA := Lib.hid (HS.out (fun i h h2 => hok i h h2 (by omega)))
              clear hok
              go_wp2_with fail
              go_ret
              exact ⟨by rw [HA.out]; rfl, hSr.1⟩
        · have hlb : (((a5.length : Nat) : Int) != ((e5.length : Nat) : Int)) = true := by simp; omega
          have hli : ¬ ((a5.length : Nat) : Int) = ((e5.length : Nat) : Int) := by omega
          have HA := Lib.hid (show AL = false from by
            rw [hA, decide_eq_false_iff_not]
            intro h
            have := congrArg List.length h
            simp only [List.length_map] at this
            exact hl this)
          clear hA hl
          go_wp2_with fail
          go_ret
          exact ⟨by rw [HA.out]; rfl, hS1.1⟩
    · have f2 : (a2 != e2) = true := by simpa using k2
      have f0 : (a0 != e0) = false := by simpa using k0
      have t2 : (a2 == e2) = false := by simpa using k2
      have HA := Lib.hid (show AL = false from by rw [hA, t2]; simp)
      clear hA k0 k2 t2
      go_wp2_with fail
      go_ret
      exact ⟨by rw [HA.out]; rfl, hW0⟩
  · have f0 : (a0 != e0) = true := by simpa using k0
    have t0 : (a0 == e0) = false := by simpa using k0
    have HA := Lib.hid (show AL = false from by rw [hA, t0]; simp)
    clear hA k0 t0
    go_wp2_with fail
    go_ret
    exact ⟨by rw [HA.out]; rfl, hW0⟩
end
end Go.Proofs.Ytncogaikiceidaa
