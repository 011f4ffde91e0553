/-
  The law FnExactIsRelation holds for every two slices of numbers. No condition.
-/
import Derived.Test.YtimaihabaflhiaabRel
import Derived.Test.YtimaihabaflhiaabLaw
set_option linter.unusedVariables false
set_option linter.unusedSimpArgs false
namespace Go.Proofs.Ytimaihabaflhiaa
open Go.ChangeShapes Go.WideShapes Go.ChangeAt Go.RowKit Go.Joins

theorem law_rel (A : Option Addr) (c : Nat) (xs : List Int) (B : Option Addr) (d : Nat) (ys : List Int) (w : World) (hR : RI w A xs) (hs : SlOK A) (_hc : xs.length ≤ c) (hR' : RI w B ys) (hs' : SlOK B) (_hc' : ys.length ≤ d) : Gives Try.prog 9 #[.slice A xs.length c, .slice B ys.length d] w (.bool true) := by
  have h1 : roIn [(1, .ro (.ints xs)), (2, .ro (.ints ys))] 3 = true := by simp [roIn, Blk.isOwn, Blk.keys, Elts.keys, Elts.all, ints_keys]
  have h2 : BlksOK (rhoOf [(1, A), (2, B)]) w [(1, .ro (.ints xs)), (2, .ro (.ints ys))] := ⟨hR.blk (l := [(1, A), (2, B)]) (k := 1) rfl, hR'.blk (l := [(1, A), (2, B)]) (k := 2) rfl, trivial⟩
  have h := Does.gives (d_lawRel xs ys c d) (rhoOf [(1, A), (2, B)]) w rfl (by decide) h1 h2 rfl rfl
  have e1 : adr (rhoOf [(1, A), (2, B)]) 1 0 = A := rhoOf_adr hs rfl
  have e2 : adr (rhoOf [(1, A), (2, B)]) 2 0 = B := rhoOf_adr hs' rfl
  have e3 : ([vS 1 1 0 xs.length c, vS 2 1 0 ys.length d].map (AV.conc (rhoOf [(1, A), (2, B)]))).toArray = #[.slice A xs.length c, .slice B ys.length d] := by simp [AV.conc, SV.conc, vS, e1, e2]
  rw [e3] at h
  exact h
set_option maxRecDepth 100000 in
theorem fnExactIsRelation_lifted (os : Os) (started : os.Started) (H : Type) (enc : TypeId × Value → H) :
    ReturnsInHanded {} Try.checked os 9 .any (Rows.fnExactIsRelationSpec.pre6 enc Try.prog Try.f9 Rows.fnExactIsRelationRow.domain false) (Rows.fnExactIsRelationSpec.post enc Try.prog Try.f9 false true false false) := by
  refine returnsInHanded_of_change (C := Try.checked) Try.own started (by kernel_rfl) Try.func9
    (ChangeSpec.witness6 (enc := enc) (C := Try.checked) false ⟨#[], #[.slice none 0 0, .slice none 0 0], []⟩ 8 (by kernel_rfl) (by kernel_rfl) (by kernel_rfl) (by kernel_rfl)) ?_
  intro W base args ds gs before hval0 hW _ _
  have hval : ∀ (j : Nat) t v, Try.f9.params[j]? = some t → args[j]? = some v → Value.okWide Try.prog W .any base t v := hval0
  have hW' := hW
  obtain ⟨p, q, hA0, hV, rfl, _, _⟩ := hW
  have hA : DataW.TrodAll enc Try.prog W 0 (fun _ => true) true Try.f9.params.toList args.toList ds p := hA0
  rw [Try.params9] at hA hval
  obtain ⟨rfl, rfl⟩ := trodVars_none hV
  obtain ⟨v0, v1, d0, d1, p0, p1, rfl, rfl, rfl, h0, h1⟩ := trodAll_two hA
  obtain ⟨A0, k0, xs0, rfl, hn0, hR0, hs0, hc0, hw0⟩ := open_RS_arg (hval 0 24 v0 rfl rfl) h0
  obtain ⟨A1, k1, xs1, rfl, hn1, hR1, hs1, hc1, hw1⟩ := open_RS_arg (hval 1 24 v1 rfl rfl) h1
  refine (law_rel A0 k0 xs0 A1 k1 xs1 W hR0 hs0 hc0 hR1 hs1 hc1).below.mono fun e W' ⟨he, hb⟩ => ?_
  subst he
  exact ⟨_, rfl, law_post Try.laidOut (tb := 4) (by kernel_rfl) Try.underlying4 (of_decide_eq_true (by kernel_rfl)) rfl hW' rfl hb⟩

theorem fnExactIsRelation_holds : Rows.FnExactIsRelationSaid :=
  OpenClaim.holds_of_wide 9 Try.f9 rfl rfl rfl rfl rfl rfl rfl ⟨rfl, rfl, rfl, rfl, rfl⟩ rfl rfl rfl rfl rfl (by kernel_rfl) Try.func9 (by kernel_rfl)
    (of_decide_eq_true (by kernel_rfl)) (by unfold Func.isWrapper; rw [if_neg (of_decide_eq_false (by kernel_rfl))]; exact ⟨rfl, rfl⟩)
    (fun os started H enc _ => fnExactIsRelation_lifted os started H enc)
#print axioms fnExactIsRelation_holds
end Go.Proofs.Ytimaihabaflhiaa
