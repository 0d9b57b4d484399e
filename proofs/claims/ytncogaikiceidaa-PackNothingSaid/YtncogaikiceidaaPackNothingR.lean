/- The law PackNothing: a program to which instructions are put that do nothing ends the same without them: each Mov of a register to itself, each Jump by 0, is dropped. No condition narrows it: for every input the law returns true, and each argument reads behind the call as it read before. -/
import Derived.Test.YtncogaikiceidaaRow3
import Derived.Test.YtncogaikiceidaaPackNothingW
namespace Go.Proofs.Ytncogaikiceidaa
open Go.ChangeShapes Go.WideShapes Go.ChangeAt Go.RowKit Go.Deep
set_option linter.unusedSimpArgs false
set_option linter.unusedVariables false
set_option linter.unnecessarySimpa false
set_option maxRecDepth 100000 in
theorem packNothing_lifted (os : Os) (started : os.Started) (H : Type) (enc : TypeId × Value → H) :
    ReturnsInHanded {} Try.checked os 3 .any (Rows.packNothingSpec.pre6 enc Try.prog Try.f3 Rows.packNothingRow.domain false) (Rows.packNothingSpec.post enc Try.prog Try.f3 false true false false) := by
  refine returnsInHanded_of_change (C := Try.checked) Try.own started (by kernel_rfl) Try.func3
    (ChangeSpec.witness6 (enc := enc) (C := Try.checked) false ⟨#[], #[.slice none 0 0, .agg #[.slice none 0 0, .slice none 0 0, .slice none 0 0, .slice none 0 0], .slice none 0 0], []⟩ 8 (by kernel_rfl) (by kernel_rfl) (by kernel_rfl) (by kernel_rfl)) ?_
  intro W base args ds gs before hval0 hW hcnd _
  have hval : ∀ (j : Nat) t v, Try.f3.params[j]? = some t → args[j]? = some v → Value.okWide Try.prog W .any base t v := hval0
  have hW' := hW
  obtain ⟨p, q, hA0, hV, rfl, hfz, hnd⟩ := hW
  have hA : DataW.TrodAll enc Try.prog W 0 (fun _ => true) true Try.f3.params.toList args.toList ds p := hA0
  rw [Try.params3] at hA hval
  obtain ⟨v0, v1, v2, d0, d1, d2, p0, p1, p2, rfl, rfl, rfl, h0, h1, h2⟩ := trodAll_three hA
  obtain ⟨rfl, rfl⟩ := trodVars_none hV
  obtain ⟨A, c, l, rfl, hc, hc2, hl, hat⟩ := open_insns (hval 0 22 v0 rfl rfl) h0
  obtain ⟨e, Ac, AD, AI, AR, cc, cD, cI, cR, sv, dd, rfl, he, hec, hed, hei⟩ := open_env (hval 1 28 v1 rfl rfl) h1
  obtain ⟨P, cp, put, rfl, hp1, hp2, hpb, hpt⟩ := open_bytes (hval 2 23 v2 rfl rfl) h2
  refine (packNothing_walk l hl A c hc hc2 e Ac AD AI AR cc cD cI cR sv dd put P cp W hat he hec hed hei hpt hpb).mono fun e W' ⟨he, hb⟩ => ?_
  subst he
  exact ⟨_, rfl, post_true rfl rfl hW' rfl (by rw [Try.params3]; exact of_decide_eq_true (by kernel_rfl)) hb⟩
set_option maxHeartbeats 4000000 in
theorem packNothing_closed : joinedFacts Try.checked.prog 3 Try.f3 Rows.packNothingSpec Rows.packNothingRow = true := by
  unfold joinedFacts
  repeat' with_reducible refine and_mk ?_ ?_
  all_goals (as_aux_lemma => kernel_rfl)
theorem packNothing_holds : Rows.PackNothingSaid :=
  OpenClaim.holds_of_wide 3 Try.f3 rfl rfl rfl rfl rfl rfl rfl ⟨rfl, rfl, rfl, rfl, rfl⟩ rfl rfl rfl rfl rfl (by kernel_rfl) Try.func3 packNothing_closed
    (of_decide_eq_true (by kernel_rfl)) (by unfold Func.isWrapper; first | (rw [if_pos (by decide +kernel)]; kernel_rfl) | (rw [if_neg (by decide +kernel)]; exact ⟨rfl, rfl⟩))
    (fun os started H enc _ => packNothing_lifted os started H enc)
#print axioms packNothing_holds
end Go.Proofs.Ytncogaikiceidaa
