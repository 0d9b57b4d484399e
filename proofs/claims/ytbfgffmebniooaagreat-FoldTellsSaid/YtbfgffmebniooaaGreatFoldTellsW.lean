/- The law FoldTells, walked. No statement is proved here. -/
import Derived.Test.YtbfgffmebniooaaGreatFoldEx
namespace Go.Proofs.YtbfgffmebniooaaGreat
open Go.RowKit
set_option linter.unusedSimpArgs false
set_option linter.unusedVariables false
set_option linter.unnecessarySimpa false
set_option maxRecDepth 100000 in
set_option maxHeartbeats 8000000 in
theorem foldTells_walk (l : List Insn) (hl : ∀ x ∈ l, x.Ok) (A : Option Addr) (c : Nat) (hc : l.length ≤ c) (hc' : c ≤ maxLen) (ns : List Note) (hns : ∀ x ∈ ns, x.Ok) (N : Option Addr) (d : Nat) (hd : ns.length ≤ d) (hd' : d ≤ maxLen) (n : Int) (hn : U64 n) (w : World) (h : SAt w w.heap.size 5 A l.length (insnsV l)) (h' : SAt w w.heap.size 10 N ns.length (notesV ns)) :
    Calls Tryz.prog 3 #[.slice A l.length c, .slice N ns.length d, .int .u64 n] w fun e w' => e = .returned (.bool true) ∧ Below w.heap.size w w' := by
  have hf := fun w1 (hb : Below w.heap.size w w1) => few19_is l A c hc hc' w1 ((h.below hb).more hb.size)
  have hm := h.few 100
  have hml : ∀ x ∈ l.take 100, x.Ok := fun x hx => hl x (List.mem_of_mem_take hx)
  have hmn : (l.take 100).length ≤ 100 := by simp; omega
  have hN := h'.fewN 110
  have hnl : ∀ x ∈ ns.take 110, x.Ok := fun x hx => hns x (List.mem_of_mem_take hx)
  have hnn : (ns.take 110).length = min 110 ns.length := by simp
  generalize l.take 100 = m at *
  generalize ns.take 110 = ms at *
  unfold maxLen at hd'
  have h3 := fun w1 (hb : Below w.heap.size w w1) => fedits_any m hml A c (by omega) ms hnl N d (by omega) w1 ((hm.below hb).more hb.size) ((hN.below hb).more hb.size)
  have h4 := fun w1 (hb : Below w.heap.size w w1) => rfedits_any m hml A c (by omega) ms hnl N d (by omega) w1 ((hm.below hb).more hb.size) ((hN.below hb).more hb.size)
  have hlen := foldL_len m ms
  generalize foldL m ms = es at *
  have k1 := fun w => short_any n hn w
  have k2 := fun w => rshort_any n w
  generalize shortB n = b at *
  have hms : ((ms.length : Nat) : Int) = min (ns.length : Int) 110 := by omega
  have HM := Lib.hid hms
  clear h hl hc hc' h' hns hn hms
  have HN := Lib.hid hnn
  clear hnn
  by_cases h0 : 110 < ns.length
  · have e0 : ms.length = 110 := by have := HN.out; omega
    rw [e0] at h3 h4
    have HE := Lib.hid e0
    clear e0
    go_enter Tryz.func3, Tryz.ntmps3
    go_wp2_with fail
    refine (shown19_any _).mono ?_
    rintro e w1 ⟨rfl, hb1⟩
    go_wp2_with fail
    refine (hf _ hb1).mono ?_
    rintro e w2 ⟨rfl, rfl⟩
    go_wp2_with fail
    refine (h3 _ hb1).mono ?_
    rintro e w3 ⟨B, b', rfl, hsB, hcB, hmB, hb3⟩
    have hb13 := hb1.trans (hb3.mono hb1.size)
    clear h3
    go_wp2_with fail
    refine (hf _ hb13).mono ?_
    rintro e w4 ⟨rfl, rfl⟩
    clear hf
    go_wp2_with fail
    refine (h4 _ hb13).mono ?_
    rintro e w5 ⟨C, d', rfl, hsC, hcC, hmC, hb5⟩
    have hb15 := hb13.trans (hb5.mono hb13.size)
    clear h4
    have hsm := sameE_any es es B C b' d' (by omega) (by omega) w5 ((hsB.below hb5).more hb5.size) hsC
    rw [decide_eq_true rfl] at hsm
    go_wp2_with fail
    refine hsm.mono ?_
    rintro e w6 ⟨rfl, hb6⟩
    clear hsm
    have hb16 := hb15.trans (hb6.mono hb15.size)
    go_wp2_with fail
    refine (k1 _).mono ?_
    rintro e w7 ⟨rfl, rfl⟩
    clear k1
    go_wp2_with fail
    refine (k2 _).mono ?_
    rintro e w8 ⟨rfl, rfl⟩
    clear k2
    go_wp2_with fail
    go_ret
    exact ⟨by simp, hb16⟩
  · have e0 : ms.length = ns.length := by have := HN.out; omega
    rw [e0] at h3 h4
    have HE := Lib.hid e0
    clear e0
    go_enter Tryz.func3, Tryz.ntmps3
    go_wp2_with fail
    refine (shown19_any _).mono ?_
    rintro e w1 ⟨rfl, hb1⟩
    go_wp2_with fail
    refine (hf _ hb1).mono ?_
    rintro e w2 ⟨rfl, rfl⟩
    go_wp2_with fail
    refine (h3 _ hb1).mono ?_
    rintro e w3 ⟨B, b', rfl, hsB, hcB, hmB, hb3⟩
    have hb13 := hb1.trans (hb3.mono hb1.size)
    clear h3
    go_wp2_with fail
    refine (hf _ hb13).mono ?_
    rintro e w4 ⟨rfl, rfl⟩
    clear hf
    go_wp2_with fail
    refine (h4 _ hb13).mono ?_
    rintro e w5 ⟨C, d', rfl, hsC, hcC, hmC, hb5⟩
    have hb15 := hb13.trans (hb5.mono hb13.size)
    clear h4
    have hsm := sameE_any es es B C b' d' (by omega) (by omega) w5 ((hsB.below hb5).more hb5.size) hsC
    rw [decide_eq_true rfl] at hsm
    go_wp2_with fail
    refine hsm.mono ?_
    rintro e w6 ⟨rfl, hb6⟩
    clear hsm
    have hb16 := hb15.trans (hb6.mono hb15.size)
    go_wp2_with fail
    refine (k1 _).mono ?_
    rintro e w7 ⟨rfl, rfl⟩
    clear k1
    go_wp2_with fail
    refine (k2 _).mono ?_
    rintro e w8 ⟨rfl, rfl⟩
    clear k2
    go_wp2_with fail
    go_ret
    exact ⟨by simp, hb16⟩
end Go.Proofs.YtbfgffmebniooaaGreat
