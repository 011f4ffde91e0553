/-
  The law FnExactShortRelation holds for every slice of numbers. No condition.
-/
import Derived.Test.YtekpamojojfplaaGreatB38
import Derived.Test.YtekpamojojfplaaGreatB39
set_option linter.unusedVariables false
set_option linter.unusedSimpArgs false
namespace Go.Proofs.YtekpamojojfplaaGreat
open Go.ChangeShapes Go.WideShapes Go.ChangeAt Go.RowKit Go.Joins
theorem law_shrel (A : Option Addr) (c : Nat) (xs : List Int) (w : World) (hR : RI w A xs) (hs : SlOK A) (_hc : xs.length ≤ c) : Gives Tryz.prog 8 #[.slice A xs.length c] w (.bool true) := by
  have h1 : roIn [(1, .ro (.ints xs))] 2 = true := by simp [roIn, plainB, Elts.flag, Blk.keys, Elts.keys, Elts.all, ints_keys]
  have h2 : BlksOK (rhoOf [(1, A)]) w [(1, .ro (.ints xs))] := ⟨hR.blk (l := [(1, A)]) (k := 1) rfl, trivial⟩
  have h := Does.gives (d_lawSh xs c) (rhoOf [(1, A)]) w rfl (by decide) h1 h2 Zz Zz
  have e1 : adr (rhoOf [(1, A)]) 1 0 = A := rhoOf_adr hs rfl
  have e2 : ([vS 1 1 0 xs.length c].map (AV.conc (rhoOf [(1, A)]))).toArray = #[.slice A xs.length c] := by simp [AV.conc, SV.conc, vS, e1]
  rw [e2] at h
  exact h
set_option maxRecDepth 100000 in
theorem fnExactShortRelation_lifted (os : Os) (started : os.Started) (H : Type) (enc : TypeId × Value → H) :
    ReturnsInHanded {} Tryz.checked os 8 .any (Rows.fnExactShortRelationSpec.pre6 enc Tryz.prog Tryz.f8 Rows.fnExactShortRelationRow.domain false) (Rows.fnExactShortRelationSpec.post enc Tryz.prog Tryz.f8 false true false false) := by
  refine returnsInHanded_of_change (C := Tryz.checked) Tryz.own started (by kernel_rfl) Tryz.func8
    (ChangeSpec.witness6 (enc := enc) (C := Tryz.checked) false ⟨#[], #[.slice none 0 0], []⟩ 8 (by kernel_rfl) (by kernel_rfl) (by kernel_rfl) (by kernel_rfl)) ?_
  intro W base args ds gs before hval0 hW _ _
  have hval : ∀ (j : Nat) t v, Tryz.f8.params[j]? = some t → args[j]? = some v → Value.okWide Tryz.prog W .any base t v := hval0
  have hW' := hW
  obtain ⟨p, q, hA0, hV, rfl, _, _⟩ := hW
  have hA : DataW.TrodAll enc Tryz.prog W 0 (fun _ => true) true Tryz.f8.params.toList args.toList ds p := hA0
  rw [Tryz.params8] at hA hval
  obtain ⟨rfl, rfl⟩ := trodVars_none hV
  obtain ⟨v0, d0, rfl, rfl, h0⟩ := trodAll_one hA
  obtain ⟨A0, k0, xs0, rfl, hn0, hR0, hs0, hc0, hw0⟩ := open_RS_arg (hval 0 24 v0 Zz Zz) h0
  refine (law_shrel A0 k0 xs0 W hR0 hs0 hc0).below.mono fun e W' ⟨he, hb⟩ => ?_
  subst he
  exact ⟨_, rfl, law_post Tryz.laidOut (tb := 4) (by kernel_rfl) Tryz.underlying4 (of_decide_eq_true (by kernel_rfl)) rfl hW' rfl hb⟩
theorem fnExactShortRelation_holds : Rows.FnExactShortRelationSaid :=
  OpenClaim.holds_of_wide 8 Tryz.f8 Zz Zz Zz Zz Zz Zz Zz ⟨rfl, rfl, rfl, rfl, rfl⟩ Zz Zz Zz Zz Zz (by kernel_rfl) Tryz.func8 (by kernel_rfl)
    (of_decide_eq_true (by kernel_rfl)) (by unfold Func.isWrapper; rw [if_neg (of_decide_eq_false (by kernel_rfl))]; exact ⟨rfl, rfl⟩)
    (fun os started H enc _ => fnExactShortRelation_lifted os started H enc)
#print axioms fnExactShortRelation_holds
end Go.Proofs.YtekpamojojfplaaGreat
