/-
  The law FnRelations holds for every code. No condition.
-/
import Derived.Test.YtekpamojojfplaaGreatC36
set_option linter.unusedVariables false
set_option linter.unusedSimpArgs false
namespace Go.Proofs.YtekpamojojfplaaGreat
open Go.ChangeShapes Go.WideShapes Go.ChangeAt Go.RowKit Go.Joins
theorem law_fnRels (A : Option Addr) (c : Nat) (bs : List Int) (w : World) (hR : RB w A bs) (hs : SlOK A) (_hc : bs.length ≤ c) : Gives Tryz.prog 7 #[.slice A bs.length c] w (.bool true) := code_gives d_fnRels A c bs w hR hs
set_option maxRecDepth 100000 in
theorem fnRelations_lifted (os : Os) (started : os.Started) (H : Type) (enc : TypeId × Value → H) :
    ReturnsInHanded {} Tryz.checked os 7 .any (Rows.fnRelationsSpec.pre6 enc Tryz.prog Tryz.f7 Rows.fnRelationsRow.domain false) (Rows.fnRelationsSpec.post enc Tryz.prog Tryz.f7 false true false false) := by
  refine returnsInHanded_of_change (C := Tryz.checked) Tryz.own started (by kernel_rfl) Tryz.func7
    (ChangeSpec.witness6 (enc := enc) (C := Tryz.checked) false ⟨#[], #[.slice none 0 0], []⟩ 8 (by kernel_rfl) (by kernel_rfl) (by kernel_rfl) (by kernel_rfl)) ?_
  intro W base args ds gs before hval0 hW _ _
  have hval : ∀ (j : Nat) t v, Tryz.f7.params[j]? = some t → args[j]? = some v → Value.okWide Tryz.prog W .any base t v := hval0
  have hW' := hW
  obtain ⟨p, q, hA0, hV, rfl, _, _⟩ := hW
  have hA : DataW.TrodAll enc Tryz.prog W 0 (fun _ => true) true Tryz.f7.params.toList args.toList ds p := hA0
  rw [Tryz.params7] at hA hval
  obtain ⟨rfl, rfl⟩ := trodVars_none hV
  obtain ⟨v0, d0, rfl, rfl, h0⟩ := trodAll_one hA
  obtain ⟨A0, k0, xs0, rfl, hn0, hR0, hs0, hc0⟩ := open_RB_arg (hval 0 22 v0 Zz Zz) h0
  refine (law_fnRels A0 k0 xs0 W hR0 hs0 hc0).below.mono fun e W' ⟨he, hb⟩ => ?_
  subst he
  exact ⟨_, rfl, law_post Tryz.laidOut (tb := 4) (by kernel_rfl) Tryz.underlying4 (of_decide_eq_true (by kernel_rfl)) rfl hW' rfl hb⟩
theorem fnRelations_holds : Rows.FnRelationsSaid :=
  OpenClaim.holds_of_wide 7 Tryz.f7 Zz Zz Zz Zz Zz Zz Zz ⟨rfl, rfl, rfl, rfl, rfl⟩ Zz Zz Zz Zz Zz (by kernel_rfl) Tryz.func7 (by kernel_rfl)
    (of_decide_eq_true (by kernel_rfl)) (by unfold Func.isWrapper; rw [if_neg (of_decide_eq_false (by kernel_rfl))]; exact ⟨rfl, rfl⟩)
    (fun os started H enc _ => fnRelations_lifted os started H enc)
#print axioms fnRelations_holds
end Go.Proofs.YtekpamojojfplaaGreat
