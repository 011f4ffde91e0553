/-
  The law FnIsometries holds for every code. No condition.
-/
import Derived.Test.YtekpamojojfplaaGreatDbIsoFn
import Derived.Test.YtekpamojojfplaaGreatDbLawR
set_option linter.unusedVariables false
set_option linter.unusedSimpArgs false
namespace Go.Proofs.YtekpamojojfplaaGreat
open Go.ChangeShapes Go.WideShapes Go.ChangeAt Go.RowKit Go.Joins

theorem law_fnIsos (A : Option Addr) (c : Nat) (bs : List Int) (w : World) (hR : RB w A bs) (hs : SlOK A) (_hc : bs.length ≤ c) (hb : ∀ n ∈ bs, 0 ≤ n ∧ n ≤ 255) : Gives Tryz.prog 3 #[.slice A bs.length c] w (.bool true) := code_givesR d_fnIso A c bs w hR hs hb
set_option maxRecDepth 100000 in
theorem fnIsometries_lifted (os : Os) (started : os.Started) (H : Type) (enc : TypeId × Value → H) :
    ReturnsInHanded {} Tryz.checked os 3 .any (Rows.fnIsometriesSpec.pre6 enc Tryz.prog Tryz.f3 Rows.fnIsometriesRow.domain false) (Rows.fnIsometriesSpec.post enc Tryz.prog Tryz.f3 false true false false) := by
  refine returnsInHanded_of_change (C := Tryz.checked) Tryz.own started (by kernel_rfl) Tryz.func3
    (ChangeSpec.witness6 (enc := enc) (C := Tryz.checked) false ⟨#[], #[.slice none 0 0], []⟩ 8 (by kernel_rfl) (by kernel_rfl) (by kernel_rfl) (by kernel_rfl)) ?_
  intro W base args ds gs before hval0 hW _ _
  have hval : ∀ (j : Nat) t v, Tryz.f3.params[j]? = some t → args[j]? = some v → Value.okWide Tryz.prog W .any base t v := hval0
  have hW' := hW
  obtain ⟨p, q, hA0, hV, rfl, _, _⟩ := hW
  have hA : DataW.TrodAll enc Tryz.prog W 0 (fun _ => true) true Tryz.f3.params.toList args.toList ds p := hA0
  rw [Tryz.params3] at hA hval
  obtain ⟨rfl, rfl⟩ := trodVars_none hV
  obtain ⟨v0, d0, rfl, rfl, h0⟩ := trodAll_one hA
  obtain ⟨A0, k0, xs0, rfl, hn0, hR0, hs0, hc0, hb0⟩ := open_RBr_arg (hval 0 22 v0 rfl rfl) h0
  refine (law_fnIsos A0 k0 xs0 W hR0 hs0 hc0 hb0).below.mono fun e W' ⟨he, hb⟩ => ?_
  subst he
  exact ⟨_, rfl, law_post Tryz.laidOut (tb := 4) (by kernel_rfl) Tryz.underlying4 (of_decide_eq_true (by kernel_rfl)) rfl hW' rfl hb⟩

theorem fnIsometries_holds : Rows.FnIsometriesSaid :=
  OpenClaim.holds_of_wide 3 Tryz.f3 rfl rfl rfl rfl rfl rfl rfl ⟨rfl, rfl, rfl, rfl, rfl⟩ rfl rfl rfl rfl rfl (by kernel_rfl) Tryz.func3 (by kernel_rfl)
    (of_decide_eq_true (by kernel_rfl)) (by unfold Func.isWrapper; rw [if_neg (of_decide_eq_false (by kernel_rfl))]; exact ⟨rfl, rfl⟩)
    (fun os started H enc _ => fnIsometries_lifted os started H enc)
#print axioms fnIsometries_holds
end Go.Proofs.YtekpamojojfplaaGreat
