/- The law HopFollows: where one comes by jumps alone is where one comes from the jump's target, and there is no Jump, but if there are only jumps all the way. No condition narrows it: for every input the law returns true, and each argument reads behind the call as it read before. -/
import Derived.Test.YtgbmeckhagklnaaRow3
import Derived.Test.YtgbmeckhagklnaaHopFollowsW
namespace Go.Proofs.Ytgbmeckhagklnaa
open Go.ChangeShapes Go.WideShapes Go.ChangeAt Go.RowKit Go.Deep

set_option maxRecDepth 100000 in
theorem hopFollows_lifted (os : Os) (started : os.Started) (H : Type) (enc : TypeId × Value → H) :
    ReturnsInHanded {} Try.checked os 18 .any (Rows.hopFollowsSpec.pre6 enc Try.prog Try.f18 Rows.hopFollowsRow.domain false) (Rows.hopFollowsSpec.post enc Try.prog Try.f18 false true false false) := by
  refine returnsInHanded_of_change (C := Try.checked) Try.own started (by kernel_rfl) Try.func18
    (ChangeSpec.witness6 (enc := enc) (C := Try.checked) false ⟨#[], #[.slice none 0 0, .int .i64 0], []⟩ 8 (by kernel_rfl) (by kernel_rfl) (by kernel_rfl) (by kernel_rfl)) ?_
  intro W base args ds gs before hval0 hW hcnd _
  have hval : ∀ (j : Nat) t v, Try.f18.params[j]? = some t → args[j]? = some v → Value.okWide Try.prog W .any base t v := hval0
  have hW' := hW
  obtain ⟨p, q, hA0, hV, rfl, hfz, hnd⟩ := hW
  have hA : DataW.TrodAll enc Try.prog W 0 (fun _ => true) true Try.f18.params.toList args.toList ds p := hA0
  rw [Try.params18] at hA hval
  obtain ⟨v0, v1, d0, d1, p0, p1, rfl, rfl, rfl, h0, h1⟩ := trodAll_two hA
  obtain ⟨rfl, rfl⟩ := trodVars_none hV
  obtain ⟨A, c, l, rfl, hc, hc2, hl, hat⟩ := open_insns (hval 0 47 v0 rfl rfl) h0
  obtain ⟨i, rfl, rfl, rfl, w1⟩ := open_int Try.underlying3 (hval 1 3 v1 rfl rfl) h1
  refine (hopFollows_walk l hl A c hc hc2 i (wf_i64 w1).1 (wf_i64 w1).2 W hat).mono fun e W' ⟨he, hb⟩ => ?_
  subst he
  exact ⟨_, rfl, post_true rfl rfl hW' rfl (by rw [Try.params18]; exact of_decide_eq_true (by kernel_rfl)) hb⟩

set_option maxHeartbeats 4000000 in
theorem hopFollows_closed : joinedFacts Try.checked.prog 18 Try.f18 Rows.hopFollowsSpec Rows.hopFollowsRow = true := by
  unfold joinedFacts
  repeat' with_reducible refine and_mk ?_ ?_
  all_goals (as_aux_lemma => kernel_rfl)

theorem hopFollows_holds : Rows.HopFollowsSaid :=
  OpenClaim.holds_of_wide 18 Try.f18 rfl rfl rfl rfl rfl rfl rfl ⟨rfl, rfl, rfl, rfl, rfl⟩ rfl rfl rfl rfl rfl (by kernel_rfl) Try.func18 hopFollows_closed
    (of_decide_eq_true (by kernel_rfl)) (by unfold Func.isWrapper; first | (rw [if_pos (by decide +kernel)]; kernel_rfl) | (rw [if_neg (by decide +kernel)]; exact ⟨rfl, rfl⟩))
    (fun os started H enc _ => hopFollows_lifted os started H enc)
#print axioms hopFollows_holds
end Go.Proofs.Ytgbmeckhagklnaa
