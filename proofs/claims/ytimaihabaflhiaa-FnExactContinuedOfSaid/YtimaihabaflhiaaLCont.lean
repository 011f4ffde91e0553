/-
  The law FnExactContinuedOf holds for every ratio: both packages' ContinuedOf give the same terms and the same flag, in new memory. No condition.
-/
import Derived.Test.YtimaihabaflhiaaCont
import Derived.Test.YtimaihabaflhiaaLaw
import Derived.Test.YtimaihabaflhiaaEq
namespace Go.Proofs.Ytimaihabaflhiaa
open Go.ChangeShapes Go.WideShapes Go.ChangeAt Go.RowKit Go.Joins

set_option maxHeartbeats 4000000 in
set_option maxRecDepth 100000 in
theorem law_cont (n d : Int) (w : World) : Gives Try.prog 3 #[.agg #[.int .i64 n, .int .i64 d]] w (.bool true) := by
  refine Gives.of_below ?_
  have hlen := cfOf_len n d
  have hlen2 : (cfOf n d).length ≤ 17592186044416 := by omega
  have hlen3 : (cfOf n d).length ≤ 1099511627776 := by omega
  go_enter Try.func3, Try.ntmps3
  go_wp2_with (first | (go_at_call 11; refine (toRatio_any _ _ _).calls.mono ?_; rintro e w' ⟨rfl, x1, rfl⟩) | (go_at_call 10; refine (contS_any _ _ _).mono ?_; rintro e w' ⟨A0, c0, rfl, hO0, x1, rfl⟩; have hR0 := hO0.read) | (go_at_call 12; refine (contI_any _ _ _).mono ?_; rintro e w' ⟨A1, c1, rfl, hI, x1, rfl⟩; have hR1 := hI.read) | (go_at_call 13; refine (eqIntS_any _ _ _ _ (cfOf n d) (cfOf n d) _ (by first | (with_reducible assumption) | (refine RI.up (by with_reducible assumption) ?_; exact (by repeat' (first | (with_reducible exact Below.refl _ _) | (with_reducible assumption) | (refine Below.via (by with_reducible assumption) ?_ ?_) | (with_reducible refine Ext.up _ ?_ ?_) | (with_reducible exact Nat.le_refl _) | (exact Below.size (by with_reducible assumption)) | (with_reducible refine Ext.le_size _ ?_) | (with_reducible refine le_alloc ?_ _) | (with_reducible refine le_setCell ?_ _ _) | (with_reducible refine le_drew ?_) | (with_reducible refine Below.alloc ?_ ?_ _) | (with_reducible refine Below.drew ?_) | (with_reducible refine Below.setCell ?_ ?_ _) | go_size | (simp [go_sem]; done) | omega | (simp [go_sem]; omega))))) (by first | (with_reducible assumption) | (refine RI.up (by with_reducible assumption) ?_; exact (by repeat' (first | (with_reducible exact Below.refl _ _) | (with_reducible assumption) | (refine Below.via (by with_reducible assumption) ?_ ?_) | (with_reducible refine Ext.up _ ?_ ?_) | (with_reducible exact Nat.le_refl _) | (exact Below.size (by with_reducible assumption)) | (with_reducible refine Ext.le_size _ ?_) | (with_reducible refine le_alloc ?_ _) | (with_reducible refine le_setCell ?_ _ _) | (with_reducible refine le_drew ?_) | (with_reducible refine Below.alloc ?_ ?_ _) | (with_reducible refine Below.drew ?_) | (with_reducible refine Below.setCell ?_ ?_ _) | go_size | (simp [go_sem]; done) | omega | (simp [go_sem]; omega))))) hlen2 hlen2).calls.mono ?_; rintro e w' ⟨rfl, x1, rfl⟩) | (go_at_call 14; refine (markIntS_any _ _ _ (cfOf n d) _ _ (hI.up (by repeat' (first | (with_reducible exact Below.refl _ _) | (with_reducible assumption) | (refine Below.via (by with_reducible assumption) ?_ ?_) | (with_reducible refine Ext.up _ ?_ ?_) | (with_reducible exact Nat.le_refl _) | (exact Below.size (by with_reducible assumption)) | (with_reducible refine Ext.le_size _ ?_) | (with_reducible refine le_alloc ?_ _) | (with_reducible refine le_setCell ?_ _ _) | (with_reducible refine le_drew ?_) | (with_reducible refine Below.alloc ?_ ?_ _) | (with_reducible refine Below.drew ?_) | (with_reducible refine Below.setCell ?_ ?_ _) | go_size | (simp [go_sem]; done) | omega | (simp [go_sem]; omega)))) (by omega) (by omega) hlen3).mono ?_; rintro e w2 ⟨rfl, hM, hb2⟩; have hR0 := hR0.up (W := w2) (by repeat' (first | (with_reducible exact Below.refl _ _) | (with_reducible assumption) | (refine Below.via (by with_reducible assumption) ?_ ?_) | (with_reducible refine Ext.up _ ?_ ?_) | (with_reducible exact Nat.le_refl _) | (exact Below.size (by with_reducible assumption)) | (with_reducible refine Ext.le_size _ ?_) | (with_reducible refine le_alloc ?_ _) | (with_reducible refine le_setCell ?_ _ _) | (with_reducible refine le_drew ?_) | (with_reducible refine Below.alloc ?_ ?_ _) | (with_reducible refine Below.drew ?_) | (with_reducible refine Below.setCell ?_ ?_ _) | go_size | (simp [go_sem]; done) | omega | (simp [go_sem]; omega))); obtain ⟨y2, rfl⟩ : ∃ y : Ext (w.alloc (.cells #[.int .i64 n, .int .i64 d] 23)), w2 = y.val := Ext.some (by repeat' (first | (with_reducible exact Below.refl _ _) | (with_reducible assumption) | (refine Below.via (by with_reducible assumption) ?_ ?_) | (with_reducible refine Ext.up _ ?_ ?_) | (with_reducible exact Nat.le_refl _) | (exact Below.size (by with_reducible assumption)) | (with_reducible refine Ext.le_size _ ?_) | (with_reducible refine le_alloc ?_ _) | (with_reducible refine le_setCell ?_ _ _) | (with_reducible refine le_drew ?_) | (with_reducible refine Below.alloc ?_ ?_ _) | (with_reducible refine Below.drew ?_) | (with_reducible refine Below.setCell ?_ ?_ _) | go_size | (simp [go_sem]; done) | omega | (simp [go_sem]; omega))); have hRM := hM.read) | (go_at_call 15; refine (heldIntS_any _ (cfOf n d).length _ _ _ (by first | (with_reducible assumption) | (refine RI.up (by with_reducible assumption) ?_; exact (by repeat' (first | (with_reducible exact Below.refl _ _) | (with_reducible assumption) | (refine Below.via (by with_reducible assumption) ?_ ?_) | (with_reducible refine Ext.up _ ?_ ?_) | (with_reducible exact Nat.le_refl _) | (exact Below.size (by with_reducible assumption)) | (with_reducible refine Ext.le_size _ ?_) | (with_reducible refine le_alloc ?_ _) | (with_reducible refine le_setCell ?_ _ _) | (with_reducible refine le_drew ?_) | (with_reducible refine Below.alloc ?_ ?_ _) | (with_reducible refine Below.drew ?_) | (with_reducible refine Below.setCell ?_ ?_ _) | go_size | (simp [go_sem]; done) | omega | (simp [go_sem]; omega))))) (by omega) (by omega) hlen3).mono ?_; rintro e w' ⟨rfl, rfl⟩))
  all_goals go_ret
  all_goals exact ⟨rfl, (by repeat' (first | (with_reducible exact Below.refl _ _) | (with_reducible assumption) | (refine Below.via (by with_reducible assumption) ?_ ?_) | (with_reducible refine Ext.up _ ?_ ?_) | (with_reducible exact Nat.le_refl _) | (exact Below.size (by with_reducible assumption)) | (with_reducible refine Ext.le_size _ ?_) | (with_reducible refine le_alloc ?_ _) | (with_reducible refine le_setCell ?_ _ _) | (with_reducible refine le_drew ?_) | (with_reducible refine Below.alloc ?_ ?_ _) | (with_reducible refine Below.drew ?_) | (with_reducible refine Below.setCell ?_ ?_ _) | go_size | (simp [go_sem]; done) | omega | (simp [go_sem]; omega)))⟩

set_option maxRecDepth 100000 in
theorem fnExactContinuedOf_lifted (os : Os) (started : os.Started) (H : Type) (enc : TypeId × Value → H) :
    ReturnsInHanded {} Try.checked os 3 .any (Rows.fnExactContinuedOfSpec.pre6 enc Try.prog Try.f3 Rows.fnExactContinuedOfRow.domain false) (Rows.fnExactContinuedOfSpec.post enc Try.prog Try.f3 false true false false) := by
  refine returnsInHanded_of_change (C := Try.checked) Try.own started (by kernel_rfl) Try.func3
    (ChangeSpec.witness6 (enc := enc) (C := Try.checked) false ⟨#[], #[.agg #[.int .i64 0, .int .i64 0]], []⟩ 8 (by kernel_rfl) (by kernel_rfl) (by kernel_rfl) (by kernel_rfl)) ?_
  intro W base args ds gs before hval0 hW _ _
  have hval : ∀ (j : Nat) t v, Try.f3.params[j]? = some t → args[j]? = some v → Value.okWide Try.prog W .any base t v := hval0
  have hW' := hW
  obtain ⟨p, q, hA0, hV, rfl, _, _⟩ := hW
  have hA : DataW.TrodAll enc Try.prog W 0 (fun _ => true) true Try.f3.params.toList args.toList ds p := hA0
  rw [Try.params3] at hA hval
  obtain ⟨rfl, rfl⟩ := trodVars_none hV
  obtain ⟨v0, d0, rfl, rfl, h0⟩ := trodAll_one hA
  obtain ⟨c0_0, c0_1, y0_0, y0_1, m0, rfl, rfl, rfl, hy0_0, hy0_1⟩ := open_agg2 Try.underlying23 (by kernel_rfl) (by kernel_rfl) (hval 0 23 v0 rfl rfl) h0
  obtain ⟨a0, e0_0, rfl, w0_0⟩ := DataW.trod_int Try.underlying3 hy0_0
  obtain ⟨b0, e0_1, rfl, w0_1⟩ := DataW.trod_int Try.underlying3 hy0_1
  simp at e0_0 e0_1
  subst e0_0 e0_1
  refine (law_cont a0 b0 W).below.mono fun e W' ⟨he, hb⟩ => ?_
  subst he
  exact ⟨_, rfl, law_post Try.laidOut (tb := 4) (by kernel_rfl) Try.underlying4 (of_decide_eq_true (by kernel_rfl)) rfl hW' rfl hb⟩

theorem fnExactContinuedOf_holds : Rows.FnExactContinuedOfSaid :=
  OpenClaim.holds_of_wide 3 Try.f3 rfl rfl rfl rfl rfl rfl rfl ⟨rfl, rfl, rfl, rfl, rfl⟩ rfl rfl rfl rfl rfl (by kernel_rfl) Try.func3 (by kernel_rfl)
    (of_decide_eq_true (by kernel_rfl)) (by unfold Func.isWrapper; rw [if_neg (of_decide_eq_false (by kernel_rfl))]; exact ⟨rfl, rfl⟩)
    (fun os started H enc _ => fnExactContinuedOf_lifted os started H enc)
#print axioms fnExactContinuedOf_holds
end Go.Proofs.Ytimaihabaflhiaa
