/-
  The law FnExactMultiplesOf holds for every matrix and every list of numbers. No condition.
-/
import Derived.Test.YtfkbjkmlpinoeaaGreatK38
import Derived.Test.YtfkbjkmlpinoeaaGreatK36
set_option linter.unusedVariables false
set_option linter.unusedSimpArgs false
namespace Go.Proofs.YtfkbjkmlpinoeaaGreat
open Go.ChangeShapes Go.WideShapes Go.ChangeAt Go.RowKit Go.Joins
theorem law_mul (r k : Int) (A : Option Addr) (cap : Nat) (xs : List Int) (A1 : Option Addr) (c1 : Nat) (ys : List Int) (w : World) (hR : RI w A xs) (hn : xs.length ≤ 9223372036854775807) (hs : SlOK A) (_hc : xs.length ≤ cap) (hR1 : RI w A1 ys) (hn1 : ys.length ≤ 9223372036854775807) (hs1 : SlOK A1) (_ : ys.length ≤ c1) :
    Gives Tryz.prog 9 #[.agg #[.int .i64 r, .int .i64 k, .slice A xs.length cap], .slice A1 ys.length c1] w (.bool true) := by
  have h1 : roIn [(1, .ro (.ints xs)), (2, .ro (.ints ys))] 3 = true := by simp [roIn, plainB, Elts.flag, Blk.keys, Elts.keys, Elts.all, ints_keys]
  have h2 : BlksOK (rhoOf [(1, A), (2, A1)]) w [(1, .ro (.ints xs)), (2, .ro (.ints ys))] := ⟨hR.blk (l := [(1, A), (2, A1)]) (k := 1) rfl, hR1.blk (l := [(1, A), (2, A1)]) (k := 2) rfl, trivial⟩
  have h := Does.gives (d_lawMul r k xs cap ys c1 hn hn1) (rhoOf [(1, A), (2, A1)]) w rfl (by decide) h1 h2 Zz Zz
  have e1 : adr (rhoOf [(1, A), (2, A1)]) 1 0 = A := rhoOf_adr hs rfl
  have e2 : adr (rhoOf [(1, A), (2, A1)]) 2 0 = A1 := rhoOf_adr hs1 rfl
  have e3 : ([vM r k 1 xs.length cap, vS 2 1 0 ys.length c1].map (AV.conc (rhoOf [(1, A), (2, A1)]))).toArray = #[.agg #[.int .i64 r, .int .i64 k, .slice A xs.length cap], .slice A1 ys.length c1] := by simp [AV.conc, cells, SV.conc, vM, vS, vI, e1, e2]
  rw [e3] at h
  exact h
set_option maxRecDepth 100000 in
theorem fnExactMultiplesOf_lifted (os : Os) (started : os.Started) (H : Type) (enc : TypeId × Value → H) :
    ReturnsInHanded {} Tryz.checked os 9 .any (Rows.fnExactMultiplesOfSpec.pre6 enc Tryz.prog Tryz.f9 Rows.fnExactMultiplesOfRow.domain false) (Rows.fnExactMultiplesOfSpec.post enc Tryz.prog Tryz.f9 false true false false) := by
  refine returnsInHanded_of_change (C := Tryz.checked) Tryz.own started (by kernel_rfl) Tryz.func9
    (ChangeSpec.witness6 (enc := enc) (C := Tryz.checked) false ⟨#[], #[.agg #[.int .i64 0, .int .i64 0, .slice none 0 0], .slice none 0 0], []⟩ 8 (by kernel_rfl) (by kernel_rfl) (by kernel_rfl) (by kernel_rfl)) ?_
  intro W base args ds gs before hval0 hW _ _
  have hval : ∀ (j : Nat) t v, Tryz.f9.params[j]? = some t → args[j]? = some v → Value.okWide Tryz.prog W .any base t v := hval0
  have hW' := hW
  obtain ⟨p, q, hA0, hV, rfl, _, _⟩ := hW
  have hA : DataW.TrodAll enc Tryz.prog W 0 (fun _ => true) true Tryz.f9.params.toList args.toList ds p := hA0
  rw [Tryz.params9] at hA hval
  obtain ⟨rfl, rfl⟩ := trodVars_none hV
  obtain ⟨v0, v1, d0, d1, p0, p1, rfl, rfl, rfl, h0, h1⟩ := trodAll_two hA
  obtain ⟨c0_0, c0_1, c0_2, y0_0, y0_1, y0_2, m0, rfl, rfl, rfl, hy0_0, hy0_1, hy0_2⟩ := open_agg3 Tryz.underlying43 (by kernel_rfl) (by kernel_rfl) (hval 0 43 v0 Zz Zz) h0
  obtain ⟨r0, e0_0, rfl, w0_0⟩ := DataW.trod_int Tryz.underlying3 hy0_0
  obtain ⟨q0, e0_1, rfl, w0_1⟩ := DataW.trod_int Tryz.underlying3 hy0_1
  obtain ⟨A0, k0, xs0, e0_2, hn0, hR0, hw0⟩ := open_RI hy0_2
  simp at e0_0 e0_1 e0_2
  subst e0_0 e0_1 e0_2
  obtain ⟨hs0, hc0⟩ := mat_spot (hval 0 43 _ Zz Zz)
  obtain ⟨A1, k1, xs1, rfl, hn1, hR1, hs1, hc1, hw1⟩ := open_RS_arg (hval 1 24 v1 Zz Zz) h1
  refine (law_mul r0 q0 A0 k0 xs0 A1 k1 xs1 W hR0 hn0 hs0 hc0 hR1 hn1 hs1 hc1).below.mono fun e W' ⟨he, hb⟩ => ?_
  subst he
  exact ⟨_, rfl, law_post Tryz.laidOut (tb := 4) (by kernel_rfl) Tryz.underlying4 (of_decide_eq_true (by kernel_rfl)) rfl hW' rfl hb⟩
theorem fnExactMultiplesOf_holds : Rows.FnExactMultiplesOfSaid :=
  OpenClaim.holds_of_wide 9 Tryz.f9 Zz Zz Zz Zz Zz Zz Zz ⟨rfl, rfl, rfl, rfl, rfl⟩ Zz Zz Zz Zz Zz (by kernel_rfl) Tryz.func9 (by kernel_rfl)
    (of_decide_eq_true (by kernel_rfl)) (by unfold Func.isWrapper; rw [if_neg (of_decide_eq_false (by kernel_rfl))]; exact ⟨rfl, rfl⟩)
    (fun os started H enc _ => fnExactMultiplesOf_lifted os started H enc)
#print axioms fnExactMultiplesOf_holds
end Go.Proofs.YtfkbjkmlpinoeaaGreat
