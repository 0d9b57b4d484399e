/- The law PackTells: a program with each instruction become what is told, and where a place of it is then, are the document's. No condition narrows it: for every input the law returns true, and each argument reads behind the call as it read before. -/
import Derived.Test.YtgbmeckhagklnaaRow4
import Derived.Test.YtgbmeckhagklnaaPackTellsW
namespace Go.Proofs.Ytgbmeckhagklnaa
open Go.ChangeShapes Go.WideShapes Go.ChangeAt Go.RowKit Go.Deep

set_option maxRecDepth 100000 in
theorem packTells_lifted (os : Os) (started : os.Started) (H : Type) (enc : TypeId × Value → H) :
    ReturnsInHanded {} Try.checked os 24 .any (Rows.packTellsSpec.pre6 enc Try.prog Try.f24 Rows.packTellsRow.domain false) (Rows.packTellsSpec.post enc Try.prog Try.f24 false true false false) := by
  refine returnsInHanded_of_change (C := Try.checked) Try.own started (by kernel_rfl) Try.func24
    (ChangeSpec.witness6 (enc := enc) (C := Try.checked) false ⟨#[], #[.slice none 0 0, .slice none 0 0, .int .i64 0], []⟩ 8 (by kernel_rfl) (by kernel_rfl) (by kernel_rfl) (by kernel_rfl)) ?_
  intro W base args ds gs before hval0 hW hcnd _
  have hval : ∀ (j : Nat) t v, Try.f24.params[j]? = some t → args[j]? = some v → Value.okWide Try.prog W .any base t v := hval0
  have hW' := hW
  obtain ⟨p, q, hA0, hV, rfl, hfz, hnd⟩ := hW
  have hA : DataW.TrodAll enc Try.prog W 0 (fun _ => true) true Try.f24.params.toList args.toList ds p := hA0
  rw [Try.params24] at hA hval
  obtain ⟨v0, v1, v2, d0, d1, d2, p0, p1, p2, rfl, rfl, rfl, h0, h1, h2⟩ := trodAll_three hA
  obtain ⟨rfl, rfl⟩ := trodVars_none hV
  obtain ⟨A, c, l, rfl, hc, hc2, hl, hat⟩ := open_insns (hval 0 47 v0 rfl rfl) h0
  obtain ⟨E, d, es, rfl, hd, hd2, hes, hek, het⟩ := open_edits (hval 1 68 v1 rfl rfl) h1
  obtain ⟨i, rfl, rfl, rfl, w1⟩ := open_int Try.underlying3 (hval 2 3 v2 rfl rfl) h2
  refine (packTells_walk l hl A c hc hc2 es hes hek E d hd hd2 i (wf_i64 w1).1 (wf_i64 w1).2 W hat het).mono fun e W' ⟨he, hb⟩ => ?_
  subst he
  exact ⟨_, rfl, post_true rfl rfl hW' rfl (by rw [Try.params24]; exact of_decide_eq_true (by kernel_rfl)) hb⟩

set_option maxHeartbeats 4000000 in
theorem packTells_closed : joinedFacts Try.checked.prog 24 Try.f24 Rows.packTellsSpec Rows.packTellsRow = true := by
  unfold joinedFacts
  repeat' with_reducible refine and_mk ?_ ?_
  all_goals (as_aux_lemma => kernel_rfl)

theorem packTells_holds : Rows.PackTellsSaid :=
  OpenClaim.holds_of_wide 24 Try.f24 rfl rfl rfl rfl rfl rfl rfl ⟨rfl, rfl, rfl, rfl, rfl⟩ rfl rfl rfl rfl rfl (by kernel_rfl) Try.func24 packTells_closed
    (of_decide_eq_true (by kernel_rfl)) (by unfold Func.isWrapper; first | (rw [if_pos (by decide +kernel)]; kernel_rfl) | (rw [if_neg (by decide +kernel)]; exact ⟨rfl, rfl⟩))
    (fun os started H enc _ => packTells_lifted os started H enc)
#print axioms packTells_holds
end Go.Proofs.Ytgbmeckhagklnaa
