/-
  The law FnExactPrincipalForm holds for every number: both packages' PrincipalForm give the same form and the same flag. No condition.
-/
import Derived.Test.YtbaaelampabhdaaForm2
import Derived.Test.YtbaaelampabhdaaLaw
namespace Go.Proofs.Ytbaaelampabhdaa
open Go.ChangeShapes Go.WideShapes Go.ChangeAt Go.RowKit Go.Joins

set_option maxHeartbeats 1000000 in
theorem law_principal (d : Int) (w : World) : Gives Try.prog 4 #[.int .i64 d] w (.bool true) := by
  refine Gives.of_below ?_
  go_enter Try.func4, Try.ntmps4
  go_wp2_with (first | (go_at_call 19; refine (principalS_any _ _).calls.mono ?_; rintro e w' ⟨rfl, x1, rfl⟩) | (go_at_call 20; refine (principalI_any _ _).calls.mono ?_; rintro e w' ⟨rfl, x1, rfl⟩) | (go_at_call 21; refine (eqForm_same _ _ _ _).calls.mono ?_; rintro e w' ⟨rfl, x1, rfl⟩))
  all_goals go_ret
  all_goals exact ⟨rfl, (by repeat' (first | (with_reducible exact Below.refl _ _) | (with_reducible assumption) | (with_reducible refine Ext.up _ ?_ ?_) | (with_reducible exact Nat.le_refl _) | (with_reducible refine Ext.le_size _ ?_) | (with_reducible refine le_alloc ?_ _) | (with_reducible refine le_setCell ?_ _ _) | (with_reducible refine le_drew ?_) | (with_reducible refine Below.alloc ?_ ?_ _) | (with_reducible refine Below.drew ?_) | (with_reducible refine Below.setCell ?_ ?_ _) | go_size | (simp [go_sem]; done) | omega))⟩

set_option maxRecDepth 100000 in
theorem fnExactPrincipalForm_lifted (os : Os) (started : os.Started) (H : Type) (enc : TypeId × Value → H) :
    ReturnsInHanded {} Try.checked os 4 .any (Rows.fnExactPrincipalFormSpec.pre6 enc Try.prog Try.f4 Rows.fnExactPrincipalFormRow.domain false) (Rows.fnExactPrincipalFormSpec.post enc Try.prog Try.f4 false true false false) := by
  refine returnsInHanded_of_change (C := Try.checked) Try.own started (by kernel_rfl) Try.func4
    (ChangeSpec.witness6 (enc := enc) (C := Try.checked) false ⟨#[], #[.int .i64 0], []⟩ 8 (by kernel_rfl) (by kernel_rfl) (by kernel_rfl) (by kernel_rfl)) ?_
  intro W base args ds gs before hval0 hW _ _
  have hval : ∀ (j : Nat) t v, Try.f4.params[j]? = some t → args[j]? = some v → Value.okWide Try.prog W .any base t v := hval0
  have hW' := hW
  obtain ⟨p, q, hA0, hV, rfl, _, _⟩ := hW
  have hA : DataW.TrodAll enc Try.prog W 0 (fun _ => true) true Try.f4.params.toList args.toList ds p := hA0
  rw [Try.params4] at hA hval
  obtain ⟨rfl, rfl⟩ := trodVars_none hV
  obtain ⟨v0, d0, rfl, rfl, h0⟩ := trodAll_one hA
  obtain ⟨x0, rfl, rfl, rfl, wx0⟩ := open_int Try.underlying3 (hval 0 3 v0 rfl rfl) h0
  refine (law_principal x0 W).below.mono fun e W' ⟨he, hb⟩ => ?_
  subst he
  exact ⟨_, rfl, law_post Try.laidOut (tb := 4) (by kernel_rfl) Try.underlying4 (of_decide_eq_true (by kernel_rfl)) rfl hW' rfl hb⟩

theorem fnExactPrincipalForm_holds : Rows.FnExactPrincipalFormSaid :=
  OpenClaim.holds_of_wide 4 Try.f4 rfl rfl rfl rfl rfl rfl rfl ⟨rfl, rfl, rfl, rfl, rfl⟩ rfl rfl rfl rfl rfl (by kernel_rfl) Try.func4 (by kernel_rfl)
    (of_decide_eq_true (by kernel_rfl)) (by unfold Func.isWrapper; rw [if_neg (of_decide_eq_false (by kernel_rfl))]; exact ⟨rfl, rfl⟩)
    (fun os started H enc _ => fnExactPrincipalForm_lifted os started H enc)
#print axioms fnExactPrincipalForm_holds
end Go.Proofs.Ytbaaelampabhdaa
