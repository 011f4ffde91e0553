/-
  The law FnExactChangeForm holds for every form and every matrix. No condition.
-/
import Derived.Test.YtbaaelampabhdaabChangeLaw
import Derived.Test.YtbaaelampabhdaabLaw
set_option linter.unusedVariables false
set_option linter.unusedSimpArgs false
namespace Go.Proofs.Ytbaaelampabhdaa
open Go.ChangeShapes Go.WideShapes Go.ChangeAt Go.RowKit Go.Joins

theorem law_change (a b c r k : Int) (A : Option Addr) (cap : Nat) (xs : List Int) (w : World) (hR : RI w A xs) (hn : xs.length ≤ 9223372036854775807) (hs : SlOK A) (_hc : xs.length ≤ cap) : Gives Try.prog 7 #[.agg #[.int .i64 a, .int .i64 b, .int .i64 c], .agg #[.int .i64 r, .int .i64 k, .slice A xs.length cap]] w (.bool true) := by
  have h1 : roIn [(1, .ro (.ints xs))] 2 = true := by simp [roIn, Blk.isOwn, Blk.keys, Elts.keys, Elts.all, ints_keys]
  have h2 : BlksOK (rhoOf [(1, A)]) w [(1, .ro (.ints xs))] := ⟨hR.blk (l := [(1, A)]) (k := 1) rfl, trivial⟩
  have h := Does.gives (d_lawCh a b c r k xs cap hn) (rhoOf [(1, A)]) w rfl (by decide) h1 h2 rfl rfl
  have e1 : adr (rhoOf [(1, A)]) 1 0 = A := rhoOf_adr hs rfl
  have e2 : ([AV.agg [.int a, .int b, .int c], vM r k 1 xs.length cap].map (AV.conc (rhoOf [(1, A)]))).toArray = #[.agg #[.int .i64 a, .int .i64 b, .int .i64 c], .agg #[.int .i64 r, .int .i64 k, .slice A xs.length cap]] := by simp [AV.conc, cells, SV.conc, vM, e1]
  rw [e2] at h
  exact h
set_option maxRecDepth 100000 in
theorem fnExactChangeForm_lifted (os : Os) (started : os.Started) (H : Type) (enc : TypeId × Value → H) :
    ReturnsInHanded {} Try.checked os 7 .any (Rows.fnExactChangeFormSpec.pre6 enc Try.prog Try.f7 Rows.fnExactChangeFormRow.domain false) (Rows.fnExactChangeFormSpec.post enc Try.prog Try.f7 false true false false) := by
  refine returnsInHanded_of_change (C := Try.checked) Try.own started (by kernel_rfl) Try.func7
    (ChangeSpec.witness6 (enc := enc) (C := Try.checked) false ⟨#[], #[.agg #[.int .i64 0, .int .i64 0, .int .i64 0], .agg #[.int .i64 0, .int .i64 0, .slice none 0 0]], []⟩ 8 (by kernel_rfl) (by kernel_rfl) (by kernel_rfl) (by kernel_rfl)) ?_
  intro W base args ds gs before hval0 hW _ _
  have hval : ∀ (j : Nat) t v, Try.f7.params[j]? = some t → args[j]? = some v → Value.okWide Try.prog W .any base t v := hval0
  have hW' := hW
  obtain ⟨p, q, hA0, hV, rfl, _, _⟩ := hW
  have hA : DataW.TrodAll enc Try.prog W 0 (fun _ => true) true Try.f7.params.toList args.toList ds p := hA0
  rw [Try.params7] at hA hval
  obtain ⟨rfl, rfl⟩ := trodVars_none hV
  obtain ⟨v0, v1, d0, d1, p0, p1, rfl, rfl, rfl, h0, h1⟩ := trodAll_two hA
  obtain ⟨c0_0, c0_1, c0_2, y0_0, y0_1, y0_2, m0, rfl, rfl, rfl, hy0_0, hy0_1, hy0_2⟩ := open_agg3 Try.underlying23 (by kernel_rfl) (by kernel_rfl) (hval 0 23 v0 rfl rfl) h0
  obtain ⟨a0, e0_0, rfl, w0_0⟩ := DataW.trod_int Try.underlying3 hy0_0
  obtain ⟨b0, e0_1, rfl, w0_1⟩ := DataW.trod_int Try.underlying3 hy0_1
  obtain ⟨c0, e0_2, rfl, w0_2⟩ := DataW.trod_int Try.underlying3 hy0_2
  simp at e0_0 e0_1 e0_2
  subst e0_0 e0_1 e0_2
  obtain ⟨c1_0, c1_1, c1_2, y1_0, y1_1, y1_2, m1, rfl, rfl, rfl, hy1_0, hy1_1, hy1_2⟩ := open_agg3 Try.underlying41 (by kernel_rfl) (by kernel_rfl) (hval 1 41 v1 rfl rfl) h1
  obtain ⟨r1, e1_0, rfl, w1_0⟩ := DataW.trod_int Try.underlying3 hy1_0
  obtain ⟨q1, e1_1, rfl, w1_1⟩ := DataW.trod_int Try.underlying3 hy1_1
  obtain ⟨A1, k1, xs1, e1_2, hn1, hR1, hw1⟩ := open_RI hy1_2
  simp at e1_0 e1_1 e1_2
  subst e1_0 e1_1 e1_2
  obtain ⟨hs1, hc1⟩ := mat_spot (hval 1 41 _ rfl rfl)
  refine (law_change a0 b0 c0 r1 q1 A1 k1 xs1 W hR1 hn1 hs1 hc1).below.mono fun e W' ⟨he, hb⟩ => ?_
  subst he
  exact ⟨_, rfl, law_post Try.laidOut (tb := 4) (by kernel_rfl) Try.underlying4 (of_decide_eq_true (by kernel_rfl)) rfl hW' rfl hb⟩

theorem fnExactChangeForm_holds : Rows.FnExactChangeFormSaid :=
  OpenClaim.holds_of_wide 7 Try.f7 rfl rfl rfl rfl rfl rfl rfl ⟨rfl, rfl, rfl, rfl, rfl⟩ rfl rfl rfl rfl rfl (by kernel_rfl) Try.func7 (by kernel_rfl)
    (of_decide_eq_true (by kernel_rfl)) (by unfold Func.isWrapper; rw [if_neg (of_decide_eq_false (by kernel_rfl))]; exact ⟨rfl, rfl⟩)
    (fun os started H enc _ => fnExactChangeForm_lifted os started H enc)
#print axioms fnExactChangeForm_holds
end Go.Proofs.Ytbaaelampabhdaa
