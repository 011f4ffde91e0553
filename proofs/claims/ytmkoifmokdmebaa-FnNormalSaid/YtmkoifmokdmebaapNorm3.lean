/-
  PLAIN LAW: normal forms of sums and of differences.
-/
import Derived.Test.YtmkoifmokdmebaapNorm2
import Derived.Test.YtmkoifmokdmebaabAdd
set_option linter.unusedVariables false
set_option linter.unusedSimpArgs false
namespace Go.Proofs.Ytmkoifmokdmebaa

theorem norm_spec {r c : Int} {xs v X : List Int} (h : normO r c xs v = some X) : ∃ (ys : List Int) (t b : Nat), basO r c xs = some (ys, t) ∧ c = b ∧ b ≤ 24 ∧ Piv b t ys ∧ v.length = b ∧ v.all numB = true ∧ X.length = b ∧ X.all numB = true ∧ InL ys b t X v ∧ Res ys b t X := by
  unfold normO at h
  split at h
  · cases h
  · rename_i s hs
    obtain ⟨ys, t⟩ := s
    obtain ⟨a, b, rfl, rfl, ha, hb, hta, htb, hpv⟩ := bas_piv hs
    dsimp only at h
    split at h
    · rename_i hc
      rw [Int.toNat_natCast] at h
      have hvl : v.length = b := by omega
      have h1 := nrTo_ok hc.2 h
      have h2 := nrTo_spec hpv hvl hc.2 (Nat.le_refl t) h
      exact ⟨ys, t, b, hs, rfl, hb, hpv, hvl, hc.2, h1.1.trans hvl, h1.2, h2.1, h2.2⟩
    · cases h
theorem norm_at {r c : Int} {xs v ys : List Int} {t b : Nat} (h : basO r c xs = some (ys, t)) (hc : c = b) (hl : v.length = b) (hv : v.all numB = true) : normO r c xs v = nrTo ys b v t := by
  unfold normO
  rw [h]
  dsimp only
  subst hc
  rw [if_pos ⟨by omega, hv⟩, Int.toNat_natCast]
theorem norm_idem {r c : Int} {xs v X : List Int} (h : normO r c xs v = some X) : normO r c xs X = some X := by
  obtain ⟨ys, t, b, h1, h2, h3, h4, h5, h6, h7, h8, h9, h10⟩ := norm_spec h
  rw [norm_at h1 h2 h7 h8]
  exact nrTo_res h4 h7 h8 h10 (Nat.le_refl t)
theorem InL.add {ys : List Int} {b t : Nat} {u v u' v' s s' : List Int} (h : InL ys b t u v) (h' : InL ys b t u' v') (hs : ∀ k, k < b → s.getD k 0 = u.getD k 0 + u'.getD k 0) (hs' : ∀ k, k < b → s'.getD k 0 = v.getD k 0 + v'.getD k 0) : InL ys b t s s' := by
  obtain ⟨q, hq⟩ := h
  obtain ⟨p, hp⟩ := h'
  exact ⟨fun i => q i + p i, fun k hk => by rw [comb_add, hs k hk, hs' k hk, hq k hk, hp k hk]; omega⟩
theorem InL.sub {ys : List Int} {b t : Nat} {u v u' v' s s' : List Int} (h : InL ys b t u v) (h' : InL ys b t u' v') (hs : ∀ k, k < b → s.getD k 0 = u.getD k 0 - u'.getD k 0) (hs' : ∀ k, k < b → s'.getD k 0 = v.getD k 0 - v'.getD k 0) : InL ys b t s s' := by
  obtain ⟨q, hq⟩ := h
  obtain ⟨p, hp⟩ := h'
  exact ⟨fun i => q i + -p i, fun k hk => by rw [comb_add, comb_neg, hs k hk, hs' k hk, hq k hk, hp k hk]; omega⟩
theorem addIn_some {r c : Int} {xs v w S : List Int} (h : addInO r c xs v w = some S) : v.length = w.length ∧ normO r c xs (sumL v w) = some S := by
  unfold addInO at h
  split at h
  · cases h
  · rename_i s hs
    unfold addZ at hs
    split at hs
    · rename_i hc
      cases hs
      exact ⟨by omega, h⟩
    · cases hs
theorem addIn_uni {r c : Int} {xs v w X Y S T : List Int} (hx : normO r c xs v = some X) (hy : normO r c xs w = some Y) (h1 : addInO r c xs v w = some S) (h2 : addInO r c xs X Y = some T) : S = T := by
  obtain ⟨ys, t, b, b1, b2, b3, b4, b5, b6, b7, b8, b9, b10⟩ := norm_spec hx
  obtain ⟨ys', t', b', c1, c2, c3, c4, c5, c6, c7, c8, c9, c10⟩ := norm_spec hy
  obtain ⟨-, g1⟩ := addIn_some h1
  obtain ⟨-, g2⟩ := addIn_some h2
  obtain ⟨ys2, t2, d, d1, d2, d3, d4, d5, d6, d7, d8, d9, d10⟩ := norm_spec g1
  obtain ⟨ys3, t3, e, e1, e2, e3, e4, e5, e6, e7, e8, e9, e10⟩ := norm_spec g2
  rw [b1] at c1 d1 e1
  cases c1; cases d1; cases e1
  obtain rfl : b' = b := by omega
  obtain rfl : d = b' := by omega
  obtain rfl : e = d := by omega
  have hL : InL ys e t (sumL X Y) (sumL v w) := InL.add b9 c9 (fun k hk => sumL_at (by omega)) (fun k hk => sumL_at (by omega))
  exact Res.uni b4 d7 e7 d10 e10 ((d9.trans hL.symm).trans e9.symm)
theorem zero_iff {r c : Int} {xs v w d X Y Z : List Int} (hx : normO r c xs v = some X) (hy : normO r c xs w = some Y) (hz : normO r c xs d = some Z) (hd : ∀ k, k < v.length → d.getD k 0 = v.getD k 0 - w.getD k 0) : (∀ k, k < Z.length → Z.getD k 0 = 0) ↔ X = Y := by
  obtain ⟨ys, t, b, b1, b2, b3, b4, b5, b6, b7, b8, b9, b10⟩ := norm_spec hx
  obtain ⟨ys', t', b', c1, c2, c3, c4, c5, c6, c7, c8, c9, c10⟩ := norm_spec hy
  obtain ⟨ys2, t2, e, e1, e2, e3, e4, e5, e6, e7, e8, e9, e10⟩ := norm_spec hz
  rw [b1] at c1 e1
  cases c1; cases e1
  obtain rfl : b' = b := by omega
  obtain rfl : e = b' := by omega
  have z0 : ∀ k, (List.replicate e (0 : Int)).getD k 0 = 0 := fun k => by
    rw [List.getD_eq_getElem?_getD, List.getElem?_replicate]; split <;> rfl
  have hD : ∀ k, k < e → d.getD k 0 = v.getD k 0 - w.getD k 0 := fun k hk => hd k (by omega)
  constructor
  · intro h0
    have h1 : InL ys e t (List.replicate e 0) d := by
      obtain ⟨q, hq⟩ := e9
      exact ⟨q, fun k hk => by rw [z0, ← hq k hk, h0 k (by omega)]⟩
    have h2 : InL ys e t w v := by
      have := InL.add h1 (InL.refl (ys := ys) (b := e) (t := t) w) (s := w) (s' := v) (fun k hk => by rw [z0]; omega) (fun k hk => by rw [hD k hk]; omega)
      exact this
    exact Res.uni b4 b7 c7 b10 c10 ((b9.trans h2.symm).trans c9.symm)
  · rintro rfl
    have h1 : InL ys e t (List.replicate e 0) d := InL.sub b9 c9 (fun k hk => by rw [z0]; omega) hD
    have hr : Res ys e t (List.replicate e 0) := fun i hi => by
      rw [z0]
      exact ⟨Int.le_refl _, (b4.yes i hi).2.1⟩
    have h2 := Res.uni b4 e7 (by rw [List.length_replicate]) e10 hr (e9.trans h1.symm)
    intro k _
    rw [h2, z0]
end Go.Proofs.Ytmkoifmokdmebaa
