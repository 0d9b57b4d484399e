/- The law InsnBack: an instruction put and taken back, and bytes taken and put back, are what they were. No condition narrows it: for every input the law returns true, and each argument reads behind the call as it read before. -/
import Derived.Test.YtgbmeckhagklnaaRow2
import Derived.Test.YtgbmeckhagklnaaInsnBackW
namespace Go.Proofs.Ytgbmeckhagklnaa
open Go.ChangeShapes Go.WideShapes Go.ChangeAt Go.RowKit Go.Deep

set_option maxRecDepth 100000 in
theorem insnBack_lifted (os : Os) (started : os.Started) (H : Type) (enc : TypeId × Value → H) :
    ReturnsInHanded {} Try.checked os 7 .any (Rows.insnBackSpec.pre6 enc Try.prog Try.f7 Rows.insnBackRow.domain false) (Rows.insnBackSpec.post enc Try.prog Try.f7 false true false false) := by
  refine returnsInHanded_of_change (C := Try.checked) Try.own started (by kernel_rfl) Try.func7
    (ChangeSpec.witness6 (enc := enc) (C := Try.checked) false ⟨#[], #[.agg #[.int .u8 0, .int .u8 0, .int .u8 0, .int .i16 0, .int .i32 0], .agg #[.int .u8 0, .int .u8 0, .int .u8 0, .int .u8 0, .int .u8 0, .int .u8 0, .int .u8 0, .int .u8 0]], []⟩ 8 (by kernel_rfl) (by kernel_rfl) (by kernel_rfl) (by kernel_rfl)) ?_
  intro W base args ds gs before hval0 hW hcnd _
  have hval : ∀ (j : Nat) t v, Try.f7.params[j]? = some t → args[j]? = some v → Value.okWide Try.prog W .any base t v := hval0
  have hW' := hW
  obtain ⟨p, q, hA0, hV, rfl, hfz, hnd⟩ := hW
  have hA : DataW.TrodAll enc Try.prog W 0 (fun _ => true) true Try.f7.params.toList args.toList ds p := hA0
  rw [Try.params7] at hA hval
  obtain ⟨v0, v1, d0, d1, p0, p1, rfl, rfl, rfl, h0, h1⟩ := trodAll_two hA
  obtain ⟨rfl, rfl⟩ := trodVars_none hV
  obtain ⟨x, hx, rfl⟩ := open_insn (hval 0 24 v0 rfl rfl) h0
  obtain ⟨b0, b1, b2, b3, b4, b5, b6, b7, q0, q1, q2, q3, q4, q5, q6, q7, rfl⟩ := open_eight (hval 1 41 v1 rfl rfl) h1
  refine (insnBack_walk x hx b0 b1 b2 b3 b4 b5 b6 b7 q0 q1 q2 q3 q4 q5 q6 q7 W).mono fun e W' ⟨he, hb⟩ => ?_
  subst he
  exact ⟨_, rfl, post_true rfl rfl hW' rfl (by rw [Try.params7]; exact of_decide_eq_true (by kernel_rfl)) hb⟩

set_option maxHeartbeats 4000000 in
theorem insnBack_closed : joinedFacts Try.checked.prog 7 Try.f7 Rows.insnBackSpec Rows.insnBackRow = true := by
  unfold joinedFacts
  repeat' with_reducible refine and_mk ?_ ?_
  all_goals (as_aux_lemma => kernel_rfl)

theorem insnBack_holds : Rows.InsnBackSaid :=
  OpenClaim.holds_of_wide 7 Try.f7 rfl rfl rfl rfl rfl rfl rfl ⟨rfl, rfl, rfl, rfl, rfl⟩ rfl rfl rfl rfl rfl (by kernel_rfl) Try.func7 insnBack_closed
    (of_decide_eq_true (by kernel_rfl)) (by unfold Func.isWrapper; first | (rw [if_pos (by decide +kernel)]; kernel_rfl) | (rw [if_neg (by decide +kernel)]; exact ⟨rfl, rfl⟩))
    (fun os started H enc _ => insnBack_lifted os started H enc)
#print axioms insnBack_holds
end Go.Proofs.Ytgbmeckhagklnaa
