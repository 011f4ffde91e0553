/-
  The law FnExactBorderPoints holds for every list of points: both packages' BorderPoints give the same answer, and the argument is left as it was. No condition.
-/
import Derived.Test.YtbgeooalhoaemaaBorder
import Derived.Test.YtbgeooalhoaemaaLawP
namespace Go.Proofs.Ytbgeooalhoaemaa
open Go.ChangeShapes Go.WideShapes Go.ChangeAt Go.RowKit Go.Joins

set_option maxHeartbeats 4000000 in
theorem law_border (A : Option Addr) (c : Nat) (ps : List (Int × Int)) (w : World) (hx : RP w A ps) (hn : ps.length ≤ 9223372036854775807) :
    Gives Try.prog 8 #[.slice A ps.length c] w (.bool true) := by
  refine Gives.of_below ?_
  by_cases hs : ps.length ≤ 1048576
  · have hs' : (ps.length : Int) ≤ 1048576 := by omega
    go_enter Try.func8, Try.ntmps8
    go_wp2_with (first | (go_at_call 20; refine (szPointS_ok _ _ _ _ _ hs' (by omega)).mono ?_; rintro e w' ⟨rfl, rfl⟩) | (go_at_call 22; refine (toPointS_any _ _ ps _ (by first | (with_reducible assumption) | (refine RP.up (by with_reducible assumption) ?_; exact (by repeat' (first | (with_reducible exact Below.refl _ _) | (with_reducible assumption) | (with_reducible refine Ext.up _ ?_ ?_) | (with_reducible exact Nat.le_refl _) | (exact Below.size (by with_reducible assumption)) | (with_reducible refine Ext.le_size _ ?_) | (with_reducible refine le_alloc ?_ _) | (with_reducible refine le_setCell ?_ _ _) | (with_reducible refine le_drew ?_) | (with_reducible refine Below.alloc ?_ ?_ _) | (with_reducible refine Below.drew ?_) | (with_reducible refine Below.setCell ?_ ?_ _) | go_size | (simp [go_sem]; done) | omega)))) hs).mono ?_; rintro e w' ⟨A1, c1, rfl, hP1, x1, rfl⟩) | (go_at_call 33; refine (borderS_any _ _ ps _ (by first | (with_reducible assumption) | (refine RP.up (by with_reducible assumption) ?_; exact (by repeat' (first | (with_reducible exact Below.refl _ _) | (with_reducible assumption) | (with_reducible refine Ext.up _ ?_ ?_) | (with_reducible exact Nat.le_refl _) | (exact Below.size (by with_reducible assumption)) | (with_reducible refine Ext.le_size _ ?_) | (with_reducible refine le_alloc ?_ _) | (with_reducible refine le_setCell ?_ _ _) | (with_reducible refine le_drew ?_) | (with_reducible refine Below.alloc ?_ ?_ _) | (with_reducible refine Below.drew ?_) | (with_reducible refine Below.setCell ?_ ?_ _) | go_size | (simp [go_sem]; done) | omega)))) hs).calls.mono ?_; rintro e w' ⟨rfl, x1, rfl⟩) | (go_at_call 34; refine (borderI_any _ _ ps _ (by first | (with_reducible assumption) | (refine RP.up (by with_reducible assumption) ?_; exact (by repeat' (first | (with_reducible exact Below.refl _ _) | (with_reducible assumption) | (with_reducible refine Ext.up _ ?_ ?_) | (with_reducible exact Nat.le_refl _) | (exact Below.size (by with_reducible assumption)) | (with_reducible refine Ext.le_size _ ?_) | (with_reducible refine le_alloc ?_ _) | (with_reducible refine le_setCell ?_ _ _) | (with_reducible refine le_drew ?_) | (with_reducible refine Below.alloc ?_ ?_ _) | (with_reducible refine Below.drew ?_) | (with_reducible refine Below.setCell ?_ ?_ _) | go_size | (simp [go_sem]; done) | omega)))) hs).calls.mono ?_; rintro e w' ⟨rfl, x1, rfl⟩) | (go_at_call 24; refine (eqPointS_same _ _ _ _ ps _ (by first | (with_reducible assumption) | (refine RP.up (by with_reducible assumption) ?_; exact (by repeat' (first | (with_reducible exact Below.refl _ _) | (with_reducible assumption) | (with_reducible refine Ext.up _ ?_ ?_) | (with_reducible exact Nat.le_refl _) | (exact Below.size (by with_reducible assumption)) | (with_reducible refine Ext.le_size _ ?_) | (with_reducible refine le_alloc ?_ _) | (with_reducible refine le_setCell ?_ _ _) | (with_reducible refine le_drew ?_) | (with_reducible refine Below.alloc ?_ ?_ _) | (with_reducible refine Below.drew ?_) | (with_reducible refine Below.setCell ?_ ?_ _) | go_size | (simp [go_sem]; done) | omega)))) (by first | (with_reducible assumption) | (refine RP.up (by with_reducible assumption) ?_; exact (by repeat' (first | (with_reducible exact Below.refl _ _) | (with_reducible assumption) | (with_reducible refine Ext.up _ ?_ ?_) | (with_reducible exact Nat.le_refl _) | (exact Below.size (by with_reducible assumption)) | (with_reducible refine Ext.le_size _ ?_) | (with_reducible refine le_alloc ?_ _) | (with_reducible refine le_setCell ?_ _ _) | (with_reducible refine le_drew ?_) | (with_reducible refine Below.alloc ?_ ?_ _) | (with_reducible refine Below.drew ?_) | (with_reducible refine Below.setCell ?_ ?_ _) | go_size | (simp [go_sem]; done) | omega)))) hs).calls.mono ?_; rintro e w' ⟨rfl, x1, rfl⟩))
    all_goals go_ret
    all_goals exact ⟨rfl, (by repeat' (first | (with_reducible exact Below.refl _ _) | (with_reducible assumption) | (with_reducible refine Ext.up _ ?_ ?_) | (with_reducible exact Nat.le_refl _) | (exact Below.size (by with_reducible assumption)) | (with_reducible refine Ext.le_size _ ?_) | (with_reducible refine le_alloc ?_ _) | (with_reducible refine le_setCell ?_ _ _) | (with_reducible refine le_drew ?_) | (with_reducible refine Below.alloc ?_ ?_ _) | (with_reducible refine Below.drew ?_) | (with_reducible refine Below.setCell ?_ ?_ _) | go_size | (simp [go_sem]; done) | omega))⟩
  · have hs' : (1048576 : Int) < ps.length := by omega
    go_enter Try.func8, Try.ntmps8
    go_wp2_with (go_at_call 20; refine (szPointS_no _ _ _ _ _ hs' (by omega) (by omega) hn).mono ?_; rintro e w' ⟨rfl, rfl⟩)
    go_ret
    exact ⟨rfl, (by repeat' (first | (with_reducible exact Below.refl _ _) | (with_reducible assumption) | (with_reducible refine Ext.up _ ?_ ?_) | (with_reducible exact Nat.le_refl _) | (exact Below.size (by with_reducible assumption)) | (with_reducible refine Ext.le_size _ ?_) | (with_reducible refine le_alloc ?_ _) | (with_reducible refine le_setCell ?_ _ _) | (with_reducible refine le_drew ?_) | (with_reducible refine Below.alloc ?_ ?_ _) | (with_reducible refine Below.drew ?_) | (with_reducible refine Below.setCell ?_ ?_ _) | go_size | (simp [go_sem]; done) | omega))⟩

set_option maxRecDepth 100000 in
theorem fnExactBorderPoints_lifted (os : Os) (started : os.Started) (H : Type) (enc : TypeId × Value → H) :
    ReturnsInHanded {} Try.checked os 8 .any (Rows.fnExactBorderPointsSpec.pre6 enc Try.prog Try.f8 Rows.fnExactBorderPointsRow.domain false) (Rows.fnExactBorderPointsSpec.post enc Try.prog Try.f8 false true false false) := by
  refine returnsInHanded_of_change (C := Try.checked) Try.own started (by kernel_rfl) Try.func8
    (ChangeSpec.witness6 (enc := enc) (C := Try.checked) false ⟨#[], #[.slice none 0 0], []⟩ 8 (by kernel_rfl) (by kernel_rfl) (by kernel_rfl) (by kernel_rfl)) ?_
  intro W base args ds gs before hval0 hW _ _
  have hval : ∀ (j : Nat) t v, Try.f8.params[j]? = some t → args[j]? = some v → Value.okWide Try.prog W .any base t v := hval0
  have hW' := hW
  obtain ⟨p, q, hA0, hV, rfl, _, _⟩ := hW
  have hA : DataW.TrodAll enc Try.prog W 0 (fun _ => true) true Try.f8.params.toList args.toList ds p := hA0
  rw [Try.params8] at hA hval
  obtain ⟨rfl, rfl⟩ := trodVars_none hV
  obtain ⟨v0, d0, rfl, rfl, h0⟩ := trodAll_one hA
  obtain ⟨A0, k0, ps0, rfl, hn0, hR0⟩ := open_RP_arg (hval 0 31 v0 rfl rfl) h0
  refine (law_border A0 k0 ps0 W hR0 hn0).below.mono fun e W' ⟨he, hb⟩ => ?_
  subst he
  exact ⟨_, rfl, law_post Try.laidOut (tb := 4) (by kernel_rfl) Try.underlying4 (of_decide_eq_true (by kernel_rfl)) rfl hW' rfl hb⟩

theorem fnExactBorderPoints_holds : Rows.FnExactBorderPointsSaid :=
  OpenClaim.holds_of_wide 8 Try.f8 rfl rfl rfl rfl rfl rfl rfl ⟨rfl, rfl, rfl, rfl, rfl⟩ rfl rfl rfl rfl rfl (by kernel_rfl) Try.func8 (by kernel_rfl)
    (of_decide_eq_true (by kernel_rfl)) (by unfold Func.isWrapper; rw [if_neg (of_decide_eq_false (by kernel_rfl))]; exact ⟨rfl, rfl⟩)
    (fun os started H enc _ => fnExactBorderPoints_lifted os started H enc)
#print axioms fnExactBorderPoints_holds
end Go.Proofs.Ytbgeooalhoaemaa
