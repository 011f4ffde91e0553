/-
  The law FnExactAutomorphismsOf holds for every matrix. No condition.
-/
import Derived.Test.YtekpamojojfplaaGreatD34
import Derived.Test.YtekpamojojfplaaGreatD21
set_option linter.unusedVariables false
set_option linter.unusedSimpArgs false
namespace Go.Proofs.YtekpamojojfplaaGreat
open Go.ChangeShapes Go.WideShapes Go.ChangeAt Go.RowKit Go.Joins
theorem law_aut (r0 q0 : Int) (A0 : Option Addr) (k0 : Nat) (x0 : List Int) (w : World)
    (hR0 : RI w A0 x0) (hn0 : x0.length ≤ 9223372036854775807) (hs0 : SlOK A0) (_ : x0.length ≤ k0) :
    Gives Tryz.prog 6 #[.agg #[.int .i64 r0, .int .i64 q0, .slice A0 x0.length k0]] w (.bool true) := by
  have h1 : roIn [(1, .ro (.ints x0))] 2 = true := by simp [roIn, plainB, Elts.flag, Blk.keys, Elts.keys, Elts.all, ints_keys]
  have h2 : BlksOK (rhoOf [(1, A0)]) w [(1, .ro (.ints x0))] := ⟨hR0.blk (l := [(1, A0)]) (k := 1) rfl, trivial⟩
  have h := Does.gives (d_lawAut r0 q0 x0 k0 hn0) (rhoOf [(1, A0)]) w rfl (by decide) h1 h2 Zz Zz
  have e1 : adr (rhoOf [(1, A0)]) 1 0 = A0 := rhoOf_adr hs0 rfl
  have e4 : ([vM r0 q0 1 x0.length k0].map (AV.conc (rhoOf [(1, A0)]))).toArray = #[.agg #[.int .i64 r0, .int .i64 q0, .slice A0 x0.length k0]] := by
    simp [AV.conc, cells, SV.conc, vM, e1]
  rw [e4] at h
  exact h
set_option maxRecDepth 100000 in
theorem fnExactAutomorphismsOf_lifted (os : Os) (started : os.Started) (H : Type) (enc : TypeId × Value → H) :
    ReturnsInHanded {} Tryz.checked os 6 .any (Rows.fnExactAutomorphismsOfSpec.pre6 enc Tryz.prog Tryz.f6 Rows.fnExactAutomorphismsOfRow.domain false) (Rows.fnExactAutomorphismsOfSpec.post enc Tryz.prog Tryz.f6 false true false false) := by
  refine returnsInHanded_of_change (C := Tryz.checked) Tryz.own started (by kernel_rfl) Tryz.func6
    (ChangeSpec.witness6 (enc := enc) (C := Tryz.checked) false ⟨#[], #[.agg #[.int .i64 0, .int .i64 0, .slice none 0 0]], []⟩ 8 (by kernel_rfl) (by kernel_rfl) (by kernel_rfl) (by kernel_rfl)) ?_
  intro W base args ds gs before hval0 hW _ _
  have hval : ∀ (j : Nat) t v, Tryz.f6.params[j]? = some t → args[j]? = some v → Value.okWide Tryz.prog W .any base t v := hval0
  have hW' := hW
  obtain ⟨p, q, hA0, hV, rfl, _, _⟩ := hW
  have hA : DataW.TrodAll enc Tryz.prog W 0 (fun _ => true) true Tryz.f6.params.toList args.toList ds p := hA0
  rw [Tryz.params6] at hA hval
  obtain ⟨rfl, rfl⟩ := trodVars_none hV
  obtain ⟨v0, d0, rfl, rfl, h0⟩ := trodAll_one hA
  obtain ⟨c0_0, c0_1, c0_2, y0_0, y0_1, y0_2, m0, rfl, rfl, rfl, hy0_0, hy0_1, hy0_2⟩ := open_agg3 Tryz.underlying46 (by kernel_rfl) (by kernel_rfl) (hval 0 46 v0 Zz Zz) h0
  obtain ⟨r0, e0_0, rfl, w0_0⟩ := DataW.trod_int Tryz.underlying3 hy0_0
  obtain ⟨q0, e0_1, rfl, w0_1⟩ := DataW.trod_int Tryz.underlying3 hy0_1
  obtain ⟨A0, k0, xs0, e0_2, hn0, hR0, hw0⟩ := open_RI hy0_2
  simp at e0_0 e0_1 e0_2
  subst e0_0 e0_1 e0_2
  obtain ⟨hs0, hc0⟩ := mat_spot (hval 0 46 _ Zz Zz)
  refine (law_aut r0 q0 A0 k0 xs0 W hR0 hn0 hs0 hc0).below.mono fun e W' ⟨he, hb⟩ => ?_
  subst he
  exact ⟨_, rfl, law_post Tryz.laidOut (tb := 4) (by kernel_rfl) Tryz.underlying4 (of_decide_eq_true (by kernel_rfl)) rfl hW' rfl hb⟩
theorem fnExactAutomorphismsOf_holds : Rows.FnExactAutomorphismsOfSaid :=
  OpenClaim.holds_of_wide 6 Tryz.f6 Zz Zz Zz Zz Zz Zz Zz ⟨rfl, rfl, rfl, rfl, rfl⟩ Zz Zz Zz Zz Zz (by kernel_rfl) Tryz.func6 (by kernel_rfl)
    (of_decide_eq_true (by kernel_rfl)) (by unfold Func.isWrapper; rw [if_neg (of_decide_eq_false (by kernel_rfl))]; exact ⟨rfl, rfl⟩)
    (fun os started H enc _ => fnExactAutomorphismsOf_lifted os started H enc)
#print axioms fnExactAutomorphismsOf_holds
end Go.Proofs.YtekpamojojfplaaGreat
