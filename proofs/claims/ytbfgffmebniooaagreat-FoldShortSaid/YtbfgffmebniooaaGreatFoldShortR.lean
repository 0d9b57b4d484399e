/- The law FoldShort: a number is one of an instruction just if its lowest 32 bits, signed, are it. No condition narrows it: for every input the law returns true, and each argument reads behind the call as it read before. -/
import Derived.Test.YtbfgffmebniooaaGreatRow6
import Derived.Test.YtbfgffmebniooaaGreatFoldShortW
namespace Go.Proofs.YtbfgffmebniooaaGreat
open Go.ChangeShapes Go.WideShapes Go.ChangeAt Go.RowKit Go.Deep

set_option maxRecDepth 100000 in
theorem foldShort_lifted (os : Os) (started : os.Started) (H : Type) (enc : TypeId × Value → H) :
    ReturnsInHanded {} Tryz.checked os 4 .any (Rows.foldShortSpec.pre6 enc Tryz.prog Tryz.f4 Rows.foldShortRow.domain false) (Rows.foldShortSpec.post enc Tryz.prog Tryz.f4 false true false false) := by
  refine returnsInHanded_of_change (C := Tryz.checked) Tryz.own started (by kernel_rfl) Tryz.func4
    (ChangeSpec.witness6 (enc := enc) (C := Tryz.checked) false ⟨#[], #[.int .u64 0], []⟩ 8 (by kernel_rfl) (by kernel_rfl) (by kernel_rfl) (by kernel_rfl)) ?_
  intro W base args ds gs before hval0 hW hcnd _
  have hval : ∀ (j : Nat) t v, Tryz.f4.params[j]? = some t → args[j]? = some v → Value.okWide Tryz.prog W .any base t v := hval0
  have hW' := hW
  obtain ⟨p, q, hA0, hV, rfl, hfz, hnd⟩ := hW
  have hA : DataW.TrodAll enc Tryz.prog W 0 (fun _ => true) true Tryz.f4.params.toList args.toList ds p := hA0
  rw [Tryz.params4] at hA hval
  obtain ⟨v0, d0, rfl, rfl, h0⟩ := trodAll_one hA
  obtain ⟨rfl, rfl⟩ := trodVars_none hV
  obtain ⟨n, rfl, rfl, rfl, w0⟩ := open_int Tryz.underlying24 (hval 0 24 v0 rfl rfl) h0
  refine (foldShort_walk n (wf_u64 w0) W).mono fun e W' ⟨he, hb⟩ => ?_
  subst he
  exact ⟨_, rfl, post_true rfl rfl hW' rfl (by rw [Tryz.params4]; exact of_decide_eq_true (by kernel_rfl)) hb⟩

set_option maxHeartbeats 4000000 in
theorem foldShort_closed : joinedFacts Tryz.checked.prog 4 Tryz.f4 Rows.foldShortSpec Rows.foldShortRow = true := by
  unfold joinedFacts
  repeat' with_reducible refine and_mk ?_ ?_
  all_goals (as_aux_lemma => kernel_rfl)

theorem foldShort_holds : Rows.FoldShortSaid :=
  OpenClaim.holds_of_wide 4 Tryz.f4 rfl rfl rfl rfl rfl rfl rfl ⟨rfl, rfl, rfl, rfl, rfl⟩ rfl rfl rfl rfl rfl (by kernel_rfl) Tryz.func4 foldShort_closed
    (of_decide_eq_true (by kernel_rfl)) (by unfold Func.isWrapper; first | (rw [if_pos (by decide +kernel)]; kernel_rfl) | (rw [if_neg (by decide +kernel)]; exact ⟨rfl, rfl⟩))
    (fun os started H enc _ => foldShort_lifted os started H enc)
#print axioms foldShort_holds
end Go.Proofs.YtbfgffmebniooaaGreat
