/-
  The law FnExactAddIn holds for every matrix and all lists of numbers. No condition.
-/
import Derived.Test.YtmkoifmokdmebaabAdd
import Derived.Test.YtmkoifmokdmebaabLaw
set_option linter.unusedVariables false
set_option linter.unusedSimpArgs false
namespace Go.Proofs.Ytmkoifmokdmebaa
open Go.ChangeShapes Go.WideShapes Go.ChangeAt Go.RowKit Go.Joins

theorem law_add (r k : Int) (A : Option Addr) (cap : Nat) (xs : List Int) (A1 : Option Addr) (c1 : Nat) (ys : List Int) (A2 : Option Addr) (c2 : Nat) (zs : List Int) (w : World) (hR : RI w A xs) (hn : xs.length ≤ 9223372036854775807) (hs : SlOK A) (_hc : xs.length ≤ cap) (hR1 : RI w A1 ys) (hn1 : ys.length ≤ 9223372036854775807) (hs1 : SlOK A1) (_ : ys.length ≤ c1) (hR2 : RI w A2 zs) (hn2 : zs.length ≤ 9223372036854775807) (hs2 : SlOK A2) (_ : zs.length ≤ c2) :
    Gives Try.prog 11 #[.agg #[.int .i64 r, .int .i64 k, .slice A xs.length cap], .slice A1 ys.length c1, .slice A2 zs.length c2] w (.bool true) := by
  have h1 : roIn [(1, .ro (.ints xs)), (2, .ro (.ints ys)), (3, .ro (.ints zs))] 4 = true := by simp [roIn, plainB, Elts.flag, Blk.keys, Elts.keys, Elts.all, ints_keys]
  have h2 : BlksOK (rhoOf [(1, A), (2, A1), (3, A2)]) w [(1, .ro (.ints xs)), (2, .ro (.ints ys)), (3, .ro (.ints zs))] := ⟨hR.blk (l := [(1, A), (2, A1), (3, A2)]) (k := 1) rfl, hR1.blk (l := [(1, A), (2, A1), (3, A2)]) (k := 2) rfl, hR2.blk (l := [(1, A), (2, A1), (3, A2)]) (k := 3) rfl, trivial⟩
  have h := Does.gives (d_lawAdd r k xs cap ys c1 zs c2 hn hn1 hn2) (rhoOf [(1, A), (2, A1), (3, A2)]) w rfl (by decide) h1 h2 rfl rfl
  have e1 : adr (rhoOf [(1, A), (2, A1), (3, A2)]) 1 0 = A := rhoOf_adr hs rfl
  have e2 : adr (rhoOf [(1, A), (2, A1), (3, A2)]) 2 0 = A1 := rhoOf_adr hs1 rfl
  have e4 : adr (rhoOf [(1, A), (2, A1), (3, A2)]) 3 0 = A2 := rhoOf_adr hs2 rfl
  have e3 : ([vM r k 1 xs.length cap, vS 2 1 0 ys.length c1, vS 3 1 0 zs.length c2].map (AV.conc (rhoOf [(1, A), (2, A1), (3, A2)]))).toArray = #[.agg #[.int .i64 r, .int .i64 k, .slice A xs.length cap], .slice A1 ys.length c1, .slice A2 zs.length c2] := by simp [AV.conc, cells, SV.conc, vM, vS, e1, e2, e4]
  rw [e3] at h
  exact h
set_option maxRecDepth 100000 in
theorem fnExactAddIn_lifted (os : Os) (started : os.Started) (H : Type) (enc : TypeId × Value → H) :
    ReturnsInHanded {} Try.checked os 11 .any (Rows.fnExactAddInSpec.pre6 enc Try.prog Try.f11 Rows.fnExactAddInRow.domain false) (Rows.fnExactAddInSpec.post enc Try.prog Try.f11 false true false false) := by
  refine returnsInHanded_of_change (C := Try.checked) Try.own started (by kernel_rfl) Try.func11
    (ChangeSpec.witness6 (enc := enc) (C := Try.checked) false ⟨#[], #[.agg #[.int .i64 0, .int .i64 0, .slice none 0 0], .slice none 0 0, .slice none 0 0], []⟩ 8 (by kernel_rfl) (by kernel_rfl) (by kernel_rfl) (by kernel_rfl)) ?_
  intro W base args ds gs before hval0 hW _ _
  have hval : ∀ (j : Nat) t v, Try.f11.params[j]? = some t → args[j]? = some v → Value.okWide Try.prog W .any base t v := hval0
  have hW' := hW
  obtain ⟨p, q, hA0, hV, rfl, _, _⟩ := hW
  have hA : DataW.TrodAll enc Try.prog W 0 (fun _ => true) true Try.f11.params.toList args.toList ds p := hA0
  rw [Try.params11] at hA hval
  obtain ⟨rfl, rfl⟩ := trodVars_none hV
  obtain ⟨v0, v1, v2, d0, d1, d2, p0, p1, p2, rfl, rfl, rfl, h0, h1, h2⟩ := trodAll_three hA
  obtain ⟨c0_0, c0_1, c0_2, y0_0, y0_1, y0_2, m0, rfl, rfl, rfl, hy0_0, hy0_1, hy0_2⟩ := open_agg3 Try.underlying24 (by kernel_rfl) (by kernel_rfl) (hval 0 24 v0 rfl rfl) h0
  obtain ⟨r0, e0_0, rfl, w0_0⟩ := DataW.trod_int Try.underlying3 hy0_0
  obtain ⟨q0, e0_1, rfl, w0_1⟩ := DataW.trod_int Try.underlying3 hy0_1
  obtain ⟨A0, k0, xs0, e0_2, hn0, hR0, hw0⟩ := open_RI hy0_2
  simp at e0_0 e0_1 e0_2
  subst e0_0 e0_1 e0_2
  obtain ⟨hs0, hc0⟩ := mat_spot (hval 0 24 _ rfl rfl)
  obtain ⟨A1, k1, xs1, rfl, hn1, hR1, hs1, hc1, hw1⟩ := open_RS_arg (hval 1 22 v1 rfl rfl) h1
  obtain ⟨A2, k2, xs2, rfl, hn2, hR2, hs2, hc2, hw2⟩ := open_RS_arg (hval 2 22 v2 rfl rfl) h2
  refine (law_add r0 q0 A0 k0 xs0 A1 k1 xs1 A2 k2 xs2 W hR0 hn0 hs0 hc0 hR1 hn1 hs1 hc1 hR2 hn2 hs2 hc2).below.mono fun e W' ⟨he, hb⟩ => ?_
  subst he
  exact ⟨_, rfl, law_post Try.laidOut (tb := 4) (by kernel_rfl) Try.underlying4 (of_decide_eq_true (by kernel_rfl)) rfl hW' rfl hb⟩

theorem fnExactAddIn_holds : Rows.FnExactAddInSaid :=
  OpenClaim.holds_of_wide 11 Try.f11 rfl rfl rfl rfl rfl rfl rfl ⟨rfl, rfl, rfl, rfl, rfl⟩ rfl rfl rfl rfl rfl (by kernel_rfl) Try.func11 (by kernel_rfl)
    (of_decide_eq_true (by kernel_rfl)) (by unfold Func.isWrapper; rw [if_neg (of_decide_eq_false (by kernel_rfl))]; exact ⟨rfl, rfl⟩)
    (fun os started H enc _ => fnExactAddIn_lifted os started H enc)
#print axioms fnExactAddIn_holds
end Go.Proofs.Ytmkoifmokdmebaa
