/-
  THE STEPS of regions that draw their order: those that the merged texts lack.
-/
import Derived.Test.YtekpamojojfplaaGreatD07
set_option linter.unusedVariables false
set_option linter.unusedSimpArgs false
namespace Go.Proofs.YtekpamojojfplaaGreat
open Go.RowKit
theorem awpH_pass {P : Program} {E : Env} {N : Nat} {Q : Post} {fr : Nat → Option AV} {H : Nat → Option Blk} {nx : Nat} {l0 : List Oper} {ρs : Rho} {nxs : Nat} {hs : List (Nat × Blk)} {fuel : Nat} {listed : Array Bool} (i : Nat) {o : Oper} {d : Nat} (hi : nth l0 i = some o) (hsel : Region.noSelect l0.toArray = true) (hf : Region.free .any l0.toArray listed i = true) (hr : (Region.ready .any l0.toArray listed).contains i = true)
    (hQ : ∀ ch σ, Q (.panic ch) σ → False) (hdst : o.dst = some d) (hw : wantA l0 fr o = some false)
    (h : awpH P E N l0 Q ρs nxs hs fuel (listed.setIfInBounds i true) ⟨upd fr d (.tup []), H, nx⟩) : awpH P E N l0 Q ρs nxs hs (fuel + 1) listed ⟨fr, H, nx⟩ := by
  unfold awpH at *
  intro ρ a w hh
  have hi' : l0.toArray[i]? = some o := by rw [← hi, nth_eq]; simp
  refine wpAnyH_take (v := undef) hi' hsel hf hr (fun ch a' w' ⟨_, _, _, q⟩ => (hQ _ _ q).elim) (.inr ⟨wantA_sound hh.inv.f hw, rfl⟩) hh.held ?_
  rw [hdst]
  exact h ρ _ w ⟨⟨hh.inv.f.skip d, hh.inv.h⟩, hh.agree, hh.held, hh.le⟩
theorem awpH_split {P : Program} {E : Env} {N : Nat} {Q : Post} {fr : Nat → Option AV} {H : Nat → Option Blk} {nx : Nat} {l0 : List Oper} {ρs : Rho} {nxs : Nat} {hs : List (Nat × Blk)} {fuel : Nat} {listed : Array Bool} {o : Oper} {s : Nat} {b : Bool} {g : Nat × Bool} (i : Nat) (_hi : nth l0 i = some o) (_hg : o.guard = some g) (_hs : slotOf l0 g.1 = some s) (hb : fr s = some (.one (.bool b)))
    (ht : b = true → awpH P E N l0 Q ρs nxs hs fuel listed ⟨upd fr s (.one (.bool true)), H, nx⟩)
    (hf : b = false → awpH P E N l0 Q ρs nxs hs fuel listed ⟨upd fr s (.one (.bool false)), H, nx⟩) : awpH P E N l0 Q ρs nxs hs fuel listed ⟨fr, H, nx⟩ := by
  unfold awpH at *
  intro ρ a w hh
  cases b with
  | true => exact ht rfl ρ a w ⟨⟨hh.inv.f.pin hb rfl, hh.inv.h⟩, hh.agree, hh.held, hh.le⟩
  | false => exact hf rfl ρ a w ⟨⟨hh.inv.f.pin hb rfl, hh.inv.h⟩, hh.agree, hh.held, hh.le⟩
theorem zp0 {q p : Prop} (h : q) (i : q → p := by first | exact awpH_pass 0 rfl kr kr kr nh rfl rfl | fail) : p := i h
theorem zp1 {q p : Prop} (h : q) (i : q → p := by first | exact awpH_pass 1 rfl kr kr kr nh rfl rfl | fail) : p := i h
theorem zp2 {q p : Prop} (h : q) (i : q → p := by first | exact awpH_pass 2 rfl kr kr kr nh rfl rfl | fail) : p := i h
theorem zp3 {q p : Prop} (h : q) (i : q → p := by first | exact awpH_pass 3 rfl kr kr kr nh rfl rfl | fail) : p := i h
theorem zp4 {q p : Prop} (h : q) (i : q → p := by first | exact awpH_pass 4 rfl kr kr kr nh rfl rfl | fail) : p := i h
theorem zp5 {q p : Prop} (h : q) (i : q → p := by first | exact awpH_pass 5 rfl kr kr kr nh rfl rfl | fail) : p := i h
theorem zp6 {q p : Prop} (h : q) (i : q → p := by first | exact awpH_pass 6 rfl kr kr kr nh rfl rfl | fail) : p := i h
theorem zp7 {q p : Prop} (h : q) (i : q → p := by first | exact awpH_pass 7 rfl kr kr kr nh rfl rfl | fail) : p := i h
theorem zp8 {q p : Prop} (h : q) (i : q → p := by first | exact awpH_pass 8 rfl kr kr kr nh rfl rfl | fail) : p := i h
theorem zp9 {q p : Prop} (h : q) (i : q → p := by first | exact awpH_pass 9 rfl kr kr kr nh rfl rfl | fail) : p := i h
theorem zp10 {q p : Prop} (h : q) (i : q → p := by first | exact awpH_pass 10 rfl kr kr kr nh rfl rfl | fail) : p := i h
theorem zp11 {q p : Prop} (h : q) (i : q → p := by first | exact awpH_pass 11 rfl kr kr kr nh rfl rfl | fail) : p := i h
theorem zp12 {q p : Prop} (h : q) (i : q → p := by first | exact awpH_pass 12 rfl kr kr kr nh rfl rfl | fail) : p := i h
theorem zp13 {q p : Prop} (h : q) (i : q → p := by first | exact awpH_pass 13 rfl kr kr kr nh rfl rfl | fail) : p := i h
theorem zp14 {q p : Prop} (h : q) (i : q → p := by first | exact awpH_pass 14 rfl kr kr kr nh rfl rfl | fail) : p := i h
theorem zp15 {q p : Prop} (h : q) (i : q → p := by first | exact awpH_pass 15 rfl kr kr kr nh rfl rfl | fail) : p := i h
theorem zp16 {q p : Prop} (h : q) (i : q → p := by first | exact awpH_pass 16 rfl kr kr kr nh rfl rfl | fail) : p := i h
theorem zp17 {q p : Prop} (h : q) (i : q → p := by first | exact awpH_pass 17 rfl kr kr kr nh rfl rfl | fail) : p := i h
theorem zp18 {q p : Prop} (h : q) (i : q → p := by first | exact awpH_pass 18 rfl kr kr kr nh rfl rfl | fail) : p := i h
theorem zp19 {q p : Prop} (h : q) (i : q → p := by first | exact awpH_pass 19 rfl kr kr kr nh rfl rfl | fail) : p := i h
theorem zt20 {q p : Prop} (h : q) (i : q → p := by first | exact w_t TT 20 rfl kr kr kr nh rfl rfl rfl rfl sd | exact w_w TT 20 rfl kr kr kr nh rfl rfl rfl rfl rfl sd | fail) : p := i h
theorem zp20 {q p : Prop} (h : q) (i : q → p := by first | exact awpH_pass 20 rfl kr kr kr nh rfl rfl | fail) : p := i h
theorem zt21 {q p : Prop} (h : q) (i : q → p := by first | exact w_t TT 21 rfl kr kr kr nh rfl rfl rfl rfl sd | exact w_w TT 21 rfl kr kr kr nh rfl rfl rfl rfl rfl sd | fail) : p := i h
theorem zp21 {q p : Prop} (h : q) (i : q → p := by first | exact awpH_pass 21 rfl kr kr kr nh rfl rfl | fail) : p := i h
theorem zt22 {q p : Prop} (h : q) (i : q → p := by first | exact w_t TT 22 rfl kr kr kr nh rfl rfl rfl rfl sd | exact w_w TT 22 rfl kr kr kr nh rfl rfl rfl rfl rfl sd | fail) : p := i h
theorem zp22 {q p : Prop} (h : q) (i : q → p := by first | exact awpH_pass 22 rfl kr kr kr nh rfl rfl | fail) : p := i h
theorem zt23 {q p : Prop} (h : q) (i : q → p := by first | exact w_t TT 23 rfl kr kr kr nh rfl rfl rfl rfl sd | exact w_w TT 23 rfl kr kr kr nh rfl rfl rfl rfl rfl sd | fail) : p := i h
theorem zp23 {q p : Prop} (h : q) (i : q → p := by first | exact awpH_pass 23 rfl kr kr kr nh rfl rfl | fail) : p := i h
theorem zt24 {q p : Prop} (h : q) (i : q → p := by first | exact w_t TT 24 rfl kr kr kr nh rfl rfl rfl rfl sd | exact w_w TT 24 rfl kr kr kr nh rfl rfl rfl rfl rfl sd | fail) : p := i h
theorem zt25 {q p : Prop} (h : q) (i : q → p := by first | exact w_t TT 25 rfl kr kr kr nh rfl rfl rfl rfl sd | exact w_w TT 25 rfl kr kr kr nh rfl rfl rfl rfl rfl sd | fail) : p := i h
theorem zt26 {q p : Prop} (h : q) (i : q → p := by first | exact w_t TT 26 rfl kr kr kr nh rfl rfl rfl rfl sd | exact w_w TT 26 rfl kr kr kr nh rfl rfl rfl rfl rfl sd | fail) : p := i h
theorem zt27 {q p : Prop} (h : q) (i : q → p := by first | exact w_t TT 27 rfl kr kr kr nh rfl rfl rfl rfl sd | exact w_w TT 27 rfl kr kr kr nh rfl rfl rfl rfl rfl sd | fail) : p := i h
theorem zt28 {q p : Prop} (h : q) (i : q → p := by first | exact w_t TT 28 rfl kr kr kr nh rfl rfl rfl rfl sd | exact w_w TT 28 rfl kr kr kr nh rfl rfl rfl rfl rfl sd | fail) : p := i h
theorem zt29 {q p : Prop} (h : q) (i : q → p := by first | exact w_t TT 29 rfl kr kr kr nh rfl rfl rfl rfl sd | exact w_w TT 29 rfl kr kr kr nh rfl rfl rfl rfl rfl sd | fail) : p := i h
theorem zt30 {q p : Prop} (h : q) (i : q → p := by first | exact w_t TT 30 rfl kr kr kr nh rfl rfl rfl rfl sd | exact w_w TT 30 rfl kr kr kr nh rfl rfl rfl rfl rfl sd | fail) : p := i h
theorem zt31 {q p : Prop} (h : q) (i : q → p := by first | exact w_t TT 31 rfl kr kr kr nh rfl rfl rfl rfl sd | exact w_w TT 31 rfl kr kr kr nh rfl rfl rfl rfl rfl sd | fail) : p := i h
theorem zt32 {q p : Prop} (h : q) (i : q → p := by first | exact w_t TT 32 rfl kr kr kr nh rfl rfl rfl rfl sd | exact w_w TT 32 rfl kr kr kr nh rfl rfl rfl rfl rfl sd | fail) : p := i h
theorem zt33 {q p : Prop} (h : q) (i : q → p := by first | exact w_t TT 33 rfl kr kr kr nh rfl rfl rfl rfl sd | exact w_w TT 33 rfl kr kr kr nh rfl rfl rfl rfl rfl sd | fail) : p := i h
theorem zt34 {q p : Prop} (h : q) (i : q → p := by first | exact w_t TT 34 rfl kr kr kr nh rfl rfl rfl rfl sd | exact w_w TT 34 rfl kr kr kr nh rfl rfl rfl rfl rfl sd | fail) : p := i h
theorem zt35 {q p : Prop} (h : q) (i : q → p := by first | exact w_t TT 35 rfl kr kr kr nh rfl rfl rfl rfl sd | exact w_w TT 35 rfl kr kr kr nh rfl rfl rfl rfl rfl sd | fail) : p := i h
end Go.Proofs.YtekpamojojfplaaGreat
