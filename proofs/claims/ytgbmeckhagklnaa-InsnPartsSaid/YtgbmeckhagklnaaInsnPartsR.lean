/- The law InsnParts: the row of bytes cut at each place is taken as the document says. No condition narrows it: for every input the law returns true, and each argument reads behind the call as it read before. -/
import Derived.Test.YtgbmeckhagklnaaRow
import Derived.Test.YtgbmeckhagklnaaInsnPartsW
namespace Go.Proofs.Ytgbmeckhagklnaa
open Go.ChangeShapes Go.WideShapes Go.ChangeAt Go.RowKit Go.Deep

set_option maxRecDepth 100000 in
theorem insnParts_lifted (os : Os) (started : os.Started) (H : Type) (enc : TypeId × Value → H) :
    ReturnsInHanded {} Try.checked os 3 .any (Rows.insnPartsSpec.pre6 enc Try.prog Try.f3 Rows.insnPartsRow.domain false) (Rows.insnPartsSpec.post enc Try.prog Try.f3 false true false false) := by
  refine returnsInHanded_of_change (C := Try.checked) Try.own started (by kernel_rfl) Try.func3
    (ChangeSpec.witness6 (enc := enc) (C := Try.checked) false ⟨#[], #[.agg #[.int .u8 0, .int .u8 0, .int .u8 0, .int .i16 0, .int .i32 0], .agg #[.int .u8 0, .int .u8 0, .int .u8 0, .int .i16 0, .int .i32 0]], []⟩ 8 (by kernel_rfl) (by kernel_rfl) (by kernel_rfl) (by kernel_rfl)) ?_
  intro W base args ds gs before hval0 hW hcnd _
  have hval : ∀ (j : Nat) t v, Try.f3.params[j]? = some t → args[j]? = some v → Value.okWide Try.prog W .any base t v := hval0
  have hW' := hW
  obtain ⟨p, q, hA0, hV, rfl, hfz, hnd⟩ := hW
  have hA : DataW.TrodAll enc Try.prog W 0 (fun _ => true) true Try.f3.params.toList args.toList ds p := hA0
  rw [Try.params3] at hA hval
  obtain ⟨v0, v1, d0, d1, p0, p1, rfl, rfl, rfl, h0, h1⟩ := trodAll_two hA
  obtain ⟨rfl, rfl⟩ := trodVars_none hV
  obtain ⟨x, hx, rfl⟩ := open_insn (hval 0 24 v0 rfl rfl) h0
  obtain ⟨y, hy, rfl⟩ := open_insn (hval 1 24 v1 rfl rfl) h1
  refine (insnParts_walk x y hx hy W).mono fun e W' ⟨he, hb⟩ => ?_
  subst he
  exact ⟨_, rfl, post_true rfl rfl hW' rfl (by rw [Try.params3]; exact of_decide_eq_true (by kernel_rfl)) hb⟩

set_option maxHeartbeats 4000000 in
theorem insnParts_closed : joinedFacts Try.checked.prog 3 Try.f3 Rows.insnPartsSpec Rows.insnPartsRow = true := by
  unfold joinedFacts
  repeat' with_reducible refine and_mk ?_ ?_
  all_goals (as_aux_lemma => kernel_rfl)

theorem insnParts_holds : Rows.InsnPartsSaid :=
  OpenClaim.holds_of_wide 3 Try.f3 rfl rfl rfl rfl rfl rfl rfl ⟨rfl, rfl, rfl, rfl, rfl⟩ rfl rfl rfl rfl rfl (by kernel_rfl) Try.func3 insnParts_closed
    (of_decide_eq_true (by kernel_rfl)) (by unfold Func.isWrapper; first | (rw [if_pos (by decide +kernel)]; kernel_rfl) | (rw [if_neg (by decide +kernel)]; exact ⟨rfl, rfl⟩))
    (fun os started H enc _ => insnParts_lifted os started H enc)
#print axioms insnParts_holds
end Go.Proofs.Ytgbmeckhagklnaa
