/-
  The law FnExactDilatedCount holds for every slice of points and every number. No condition.
-/
import Derived.Test.YtbgeooalhoaemaabDilLaw
import Derived.Test.YtbgeooalhoaemaabLawP
set_option linter.unusedVariables false
set_option linter.unusedSimpArgs false
namespace Go.Proofs.Ytbgeooalhoaemaa
open Go.ChangeShapes Go.WideShapes Go.ChangeAt Go.RowKit Go.Joins

theorem law_dil (A : Option Addr) (cap : Nat) (ps : List (Int × Int)) (k : Int) (w : World) (hR : RP w A ps) (hn : ps.length ≤ 9223372036854775807) (hs : SlOK A) (_hc : ps.length ≤ cap) :
    Gives Try.prog 9 #[.slice A ps.length cap, .int .i64 k] w (.bool true) := by
  have h1 : roIn [(1, .ro (.i2 ps))] 2 = true := by simp [roIn, plainB, Elts.flag, Blk.keys, Elts.keys, Elts.all, i2_keys]
  have h2 : BlksOK (rhoOf [(1, A)]) w [(1, .ro (.i2 ps))] := ⟨hR.blk (l := [(1, A)]) (k := 1) rfl, trivial⟩
  have h := Does.gives (d_lawDil ps cap k hn) (rhoOf [(1, A)]) w rfl (by decide) h1 h2 rfl rfl
  have e1 : adr (rhoOf [(1, A)]) 1 0 = A := rhoOf_adr hs rfl
  have e3 : ([vQ 1 ps.length cap, vI k].map (AV.conc (rhoOf [(1, A)]))).toArray = #[.slice A ps.length cap, .int .i64 k] := by simp [AV.conc, SV.conc, vQ, vI, e1]
  rw [e3] at h
  exact h
set_option maxRecDepth 100000 in
theorem fnExactDilatedCount_lifted (os : Os) (started : os.Started) (H : Type) (enc : TypeId × Value → H) :
    ReturnsInHanded {} Try.checked os 9 .any (Rows.fnExactDilatedCountSpec.pre6 enc Try.prog Try.f9 Rows.fnExactDilatedCountRow.domain false) (Rows.fnExactDilatedCountSpec.post enc Try.prog Try.f9 false true false false) := by
  refine returnsInHanded_of_change (C := Try.checked) Try.own started (by kernel_rfl) Try.func9
    (ChangeSpec.witness6 (enc := enc) (C := Try.checked) false ⟨#[], #[.slice none 0 0, .int .i64 0], []⟩ 8 (by kernel_rfl) (by kernel_rfl) (by kernel_rfl) (by kernel_rfl)) ?_
  intro W base args ds gs before hval0 hW _ _
  have hval : ∀ (j : Nat) t v, Try.f9.params[j]? = some t → args[j]? = some v → Value.okWide Try.prog W .any base t v := hval0
  have hW' := hW
  obtain ⟨p, q, hA0, hV, rfl, _, _⟩ := hW
  have hA : DataW.TrodAll enc Try.prog W 0 (fun _ => true) true Try.f9.params.toList args.toList ds p := hA0
  rw [Try.params9] at hA hval
  obtain ⟨rfl, rfl⟩ := trodVars_none hV
  obtain ⟨v0, v1, d0, d1, p0, p1, rfl, rfl, rfl, h0, h1⟩ := trodAll_two hA
  obtain ⟨A0, k0, ps0, rfl, hn0, hR0, hs0, hc0⟩ := open_RPS_arg (hval 0 31 v0 rfl rfl) h0
  obtain ⟨x1, rfl, rfl, rfl, wx1⟩ := open_int Try.underlying3 (hval 1 3 v1 rfl rfl) h1
  refine (law_dil A0 k0 ps0 x1 W hR0 hn0 hs0 hc0).below.mono fun e W' ⟨he, hb⟩ => ?_
  subst he
  exact ⟨_, rfl, law_post Try.laidOut (tb := 4) (by kernel_rfl) Try.underlying4 (of_decide_eq_true (by kernel_rfl)) rfl hW' rfl hb⟩

theorem fnExactDilatedCount_holds : Rows.FnExactDilatedCountSaid :=
  OpenClaim.holds_of_wide 9 Try.f9 rfl rfl rfl rfl rfl rfl rfl ⟨rfl, rfl, rfl, rfl, rfl⟩ rfl rfl rfl rfl rfl (by kernel_rfl) Try.func9 (by kernel_rfl)
    (of_decide_eq_true (by kernel_rfl)) (by unfold Func.isWrapper; rw [if_neg (of_decide_eq_false (by kernel_rfl))]; exact ⟨rfl, rfl⟩)
    (fun os started H enc _ => fnExactDilatedCount_lifted os started H enc)
#print axioms fnExactDilatedCount_holds
end Go.Proofs.Ytbgeooalhoaemaa
