/-
  TEXTS OF THE PROOF, put together: pGen, pRays2, pExtR, Am12, bChoose.
-/
import Derived.Test.YtfkbjkmlpinoeaaGreatR19
import Derived.Test.YtfkbjkmlpinoeaaGreatR24
import Derived.Test.YtfkbjkmlpinoeaaGreatR11
import Derived.Test.YtfkbjkmlpinoeaaGreatR20
set_option linter.unusedVariables false
set_option linter.unusedSimpArgs false
namespace Go.Proofs.YtfkbjkmlpinoeaaGreat
def LinF (L : Nat → Vec → Int) : Prop := ∀ i a b u w, L i (mixV a b u w) = a * L i u + b * L i w
def Pt (L : Nat → Vec → Int) (r c : Nat) : Prop := ∀ q : Vec, (∀ i, i < r → L i q = 0) → ∀ k, k < c → q k = 0
inductive GenC (S : Vec → Prop) (c : Nat) : Vec → Prop
  | zero (v : Vec) : (∀ k, k < c → v k = 0) → GenC S c v
  | one (v : Vec) : S v → GenC S c v
  | add (m a b : Int) (u w v : Vec) : GenC S c u → GenC S c w → 0 < m → 0 ≤ a → 0 ≤ b → (∀ k, k < c → m * v k = a * u k + b * w k) → GenC S c v
structure ExtT (L : Nat → Vec → Int) (r c : Nat) (v : Vec) : Prop where
  mem : InC L r v
  nz : ∃ k, k < c ∧ v k ≠ 0
  ext : ∀ u : Vec, (∀ i, i < r → L i v = 0 → L i u = 0) → parN c u v
def ntN (L : Nat → Vec → Int) (v : Vec) : Nat → Nat
  | 0 => 0
  | n + 1 => ntN L v n + if L n v = 0 then 0 else 1
theorem ntN_le {L : Nat → Vec → Int} {u v : Vec} : ∀ {n : Nat}, (∀ i, i < n → L i v = 0 → L i u = 0) → ntN L u n ≤ ntN L v n
  | 0, _ => Nat.le_refl _
  | n + 1, h => by
    have ih := ntN_le (n := n) fun i hi => h i (by omega)
    rw [ntN, ntN]
    by_cases e : L n v = 0
    · rw [if_pos e, if_pos (h n (by omega) e)]; omega
    · rw [if_neg e]; split <;> omega
theorem ntN_lt {L : Nat → Vec → Int} {u v : Vec} {j : Nat} : ∀ {n : Nat}, (∀ i, i < n → L i v = 0 → L i u = 0) → j < n → L j v ≠ 0 → L j u = 0 → ntN L u n < ntN L v n
  | 0, _, hj, _, _ => by omega
  | n + 1, h, hj, h1, h2 => by
    rw [ntN, ntN]
    by_cases e : j = n
    · subst e
      have := ntN_le (n := j) (fun i hi => h i (by omega))
      rw [if_neg h1, if_pos h2]; omega
    · have ih := ntN_lt (n := n) (fun i hi => h i (by omega)) (by omega) h1 h2
      by_cases e2 : L n v = 0
      · rw [if_pos e2, if_pos (h n (by omega) e2)]; omega
      · rw [if_neg e2]; split <;> omega
theorem cross_trans {a b c p q s : Int} (hq : 0 < q) (hp : 0 < p) (hs : 0 < s) (h1 : a * q ≤ b * p) (h2 : b * s ≤ c * q) : a * s ≤ c * p := by
  have e1 : (a * q) * s ≤ (b * p) * s := Int.mul_le_mul_of_nonneg_right h1 (by omega)
  have e2 : (b * s) * p ≤ (c * q) * p := Int.mul_le_mul_of_nonneg_right h2 (by omega)
  have e3 : (a * s) * q ≤ (c * p) * q := by
    have x1 : (a * s) * q = (a * q) * s := by grind
    have x2 : (c * p) * q = (c * q) * p := by grind
    have x3 : (b * p) * s = (b * s) * p := by grind
    omega
  exact Int.le_of_mul_le_mul_right e3 hq
theorem least_ratio (f g : Nat → Int) (n0 : Nat) (h0 : 0 < g n0) : ∀ n, (∀ i, i < n → 0 ≤ g i) → ∃ j, (j < n ∨ j = n0) ∧ 0 < g j ∧ (∀ i, (i < n ∨ i = n0) → 0 < g i → f j * g i ≤ f i * g j)
  | 0, _ => ⟨n0, .inr rfl, h0, fun i hi _ => by
    have e : i = n0 := by omega
    subst e
    exact Int.le_refl _⟩
  | n + 1, h => by
    obtain ⟨j, hj, hj0, hm⟩ := least_ratio f g n0 h0 n fun i hi => h i (by omega)
    by_cases e : 0 < g n ∧ f n * g j < f j * g n
    · refine ⟨n, .inl (by omega), e.1, fun i hi hi0 => ?_⟩
      by_cases e2 : i = n
      · subst e2; exact Int.le_refl _
      · exact cross_trans hj0 e.1 hi0 (by omega) (hm i (by omega) hi0)
    · refine ⟨j, by omega, hj0, fun i hi hi0 => ?_⟩
      by_cases e2 : i = n
      · subst e2
        have : ¬ f i * g j < f j * g i := fun c => e ⟨hi0, c⟩
        omega
      · exact hm i (by omega) hi0
theorem gen_all {L : Nat → Vec → Int} {r c : Nat} (hL : LinF L) (hP : Pt L r c) : ∀ (N : Nat) (v : Vec), ntN L v r ≤ N → InC L r v → GenC (ExtT L r c) c v := fun N => by
  induction N with
  | zero =>
    intro v hN hv
    refine GenC.zero v fun k hk => hP v (fun i hi => ?_) k hk
    apply Classical.byContradiction
    intro hne
    have h1 : ntN L (mixV 0 0 v v) r < ntN L v r := ntN_lt (j := i) (fun i _ _ => by rw [hL]; omega) hi hne (by rw [hL]; omega)
    omega
  | succ N ih =>
    intro v hN hv
    by_cases hz : ∀ k, k < c → v k = 0
    · exact GenC.zero v hz
    · have hz' : ∃ k, k < c ∧ v k ≠ 0 := by
        apply Classical.byContradiction
        intro hn
        exact hz fun k hk => Classical.byContradiction fun h => hn ⟨k, hk, h⟩
      by_cases hx : ∀ u : Vec, (∀ i, i < r → L i v = 0 → L i u = 0) → parN c u v
      · exact GenC.one v ⟨hv, hz', hx⟩
      ·
        have hx' : ∃ u : Vec, (∀ i, i < r → L i v = 0 → L i u = 0) ∧ ¬ parN c u v := by
          apply Classical.byContradiction
          intro hn
          exact hx fun u hu => Classical.byContradiction fun h => hn ⟨u, hu, h⟩
        obtain ⟨u, hu, hnp⟩ := hx'
        have hi0 : ∃ i, i < r ∧ 0 < L i v := by
          apply Classical.byContradiction
          intro hn
          refine hz fun k hk => hP v (fun i hi => ?_) k hk
          have h1 := hv i hi
          have h2 : ¬ 0 < L i v := fun h => hn ⟨i, hi, h⟩
          omega
        obtain ⟨i0, hi0, hp0⟩ := hi0
        obtain ⟨j, hj, hj0, hmin⟩ := least_ratio (fun i => L i u) (fun i => L i v) i0 hp0 r hv
        obtain ⟨k, hk, hk0, hmax⟩ := least_ratio (fun i => -L i u) (fun i => L i v) i0 hp0 r hv
        have hjr : j < r := by omega
        have hkr : k < r := by omega
        have hj0 : 0 < L j v := hj0
        have hk0 : 0 < L k v := hk0
        have hmin' : ∀ i, i < r → 0 < L i v → L j u * L i v ≤ L i u * L j v := fun i hi h => hmin i (.inl hi) h
        have hmax' : ∀ i, i < r → 0 < L i v → L i u * L k v ≤ L k u * L i v := fun i hi h => by
          have := hmax i (.inl hi) h
          have e1 : -L k u * L i v = -(L k u * L i v) := Int.neg_mul _ _
          have e2 : -L i u * L k v = -(L i u * L k v) := Int.neg_mul _ _
          omega
        have hjk := hmin' k hkr hk0
        by_cases heq : L j u * L k v = L k u * L j v
        · exfalso
          apply hnp
          have hw : ∀ i, i < r → L i (mixV (L j v) (-L j u) u v) = 0 := fun i hi => by
            rw [hL]
            by_cases e : L i v = 0
            · rw [hu i hi e, e]; omega
            · have hpos : 0 < L i v := by have := hv i hi; omega
              have h1 := hmin' i hi hpos
              have h2 := hmax' i hi hpos
              have h3 : (L i u * L j v) * L k v ≤ (L j u * L i v) * L k v := by
                have h4 : (L i u * L k v) * L j v ≤ (L k u * L i v) * L j v := Int.mul_le_mul_of_nonneg_right h2 (by omega)
                have x1 : (L i u * L j v) * L k v = (L i u * L k v) * L j v := by grind
                have x2 : (L j u * L i v) * L k v = (L k u * L i v) * L j v := by
                  have : (L j u * L i v) * L k v = (L j u * L k v) * L i v := by grind
                  rw [this, heq]; grind
                omega
              have h5 := Int.le_of_mul_le_mul_right h3 hk0
              have x1 : L j v * L i u = L i u * L j v := Int.mul_comm _ _
              have x2 : -L j u * L i v = -(L j u * L i v) := Int.neg_mul _ _
              omega
          have hw0 := hP _ hw
          intro a b ha hb
          have e1 := hw0 a ha
          have e2 := hw0 b hb
          simp only [mixV] at e1 e2
          have e3 : L j v * u a = L j u * v a := by
            have : -L j u * v a = -(L j u * v a) := Int.neg_mul _ _
            omega
          have e4 : L j v * u b = L j u * v b := by
            have : -L j u * v b = -(L j u * v b) := Int.neg_mul _ _
            omega
          have e5 : L j v * (u a * v b) = L j v * (u b * v a) := by
            have y1 : L j v * (u a * v b) = (L j v * u a) * v b := by grind
            have y2 : L j v * (u b * v a) = (L j v * u b) * v a := by grind
            rw [y1, y2, e3, e4]; grind
          exact Int.eq_of_mul_eq_mul_left (by omega) e5
        · have hlt : L j u * L k v < L k u * L j v := by omega
          let a := mixV (L j v) (-L j u) u v
          let b := mixV (L k u) (-L k v) v u
          have ha : ∀ i, L i a = L j v * L i u - L j u * L i v := fun i => by
            show L i (mixV _ _ _ _) = _
            rw [hL, Int.neg_mul]; omega
          have hb : ∀ i, L i b = L k u * L i v - L k v * L i u := fun i => by
            show L i (mixV _ _ _ _) = _
            rw [hL, Int.neg_mul]; omega
          have hta : ∀ i, i < r → L i v = 0 → L i a = 0 := fun i hi e => by rw [ha, hu i hi e, e]; omega
          have htb : ∀ i, i < r → L i v = 0 → L i b = 0 := fun i hi e => by rw [hb, hu i hi e, e]; omega
          have ca : InC L r a := fun i hi => by
            by_cases e : L i v = 0
            · rw [hta i hi e]; omega
            · have := hmin' i hi (by have := hv i hi; omega)
              rw [ha, Int.mul_comm (L j v)]; omega
          have cb : InC L r b := fun i hi => by
            by_cases e : L i v = 0
            · rw [htb i hi e]; omega
            · have := hmax' i hi (by have := hv i hi; omega)
              rw [hb, Int.mul_comm (L k v)]; omega
          have na := ntN_lt hta hjr (by omega) (by rw [ha, Int.mul_comm]; omega)
          have nb := ntN_lt htb hkr (by omega) (by rw [hb, Int.mul_comm]; omega)
          refine GenC.add (L j v * L k u - L j u * L k v) (L k v) (L j v) a b v (ih a (by omega) ca) (ih b (by omega) cb) (by rw [Int.mul_comm (L j v)]; omega) (by omega) (by omega) fun l _ => ?_
          show _ = L k v * (L j v * u l + -L j u * v l) + L j v * (L k u * v l + -L k v * u l)
          grind
theorem gen_ext {L : Nat → Vec → Int} {r c : Nat} (hL : LinF L) (hP : Pt L r c) {v : Vec} (hv : InC L r v) : GenC (ExtT L r c) c v := gen_all hL hP _ v (Nat.le_refl _) hv
theorem GenC.mono {S S' : Vec → Prop} {c : Nat} (h : ∀ v, S v → GenC S' c v) {v : Vec} (hg : GenC S c v) : GenC S' c v := by
  induction hg with
  | zero v h0 => exact GenC.zero v h0
  | one v hv => exact h v hv
  | add m a b u w v _ _ h1 h2 h3 h4 iu iw => exact GenC.add m a b u w v iu iw h1 h2 h3 h4
theorem LocF.zero {c : Nat} {F : Vec → Int} (h : LocF c F) {v : Vec} (hv : ∀ k, k < c → v k = 0) : F v = 0 := by
  have e1 := h.1 0 0 v v
  rw [h.2 (mixV 0 0 v v) v fun k hk => by simp [mixV, hv k hk]] at e1
  omega
theorem LocF.comb {c : Nat} {F : Vec → Int} (h : LocF c F) {m a b : Int} {u w v : Vec} (e : ∀ k, k < c → m * v k = a * u k + b * w k) : m * F v = a * F u + b * F w := by
  have e1 := h.1 m 0 v v
  have e2 := h.1 a b u w
  have e3 := h.2 (mixV m 0 v v) (mixV a b u w) fun k hk => by
    have := e k hk
    simp only [mixV]; omega
  omega
theorem GenC.nonneg {S : Vec → Prop} {c : Nat} {F : Vec → Int} (hF : LocF c F) (h : ∀ v, S v → 0 ≤ F v) {v : Vec} (hg : GenC S c v) : 0 ≤ F v := by
  induction hg with
  | zero v h0 => rw [hF.zero h0]; omega
  | one v hv => exact h v hv
  | add m a b u w v _ _ h1 h2 h3 h4 iu iw =>
    have e := hF.comb h4
    have p1 := Int.mul_nonneg h2 iu
    have p2 := Int.mul_nonneg h3 iw
    apply Classical.byContradiction
    intro hn
    have := Int.mul_neg_of_pos_of_neg h1 (show F v < 0 by omega)
    omega
end Go.Proofs.YtfkbjkmlpinoeaaGreat
namespace Go.Proofs.YtfkbjkmlpinoeaaGreat
structure RayP (r c : Nat) (xs v : List Int) : Prop where
  len : v.length = c
  ext : ExtT (fun i => rowP xs (i * c) c) r c (vecL v)
  prim : ∀ u : Vec, parN c u (vecL v) → ∃ a : Int, ∀ k, k < c → u k = a * vecL v k
theorem par_van {c : Nat} {xs s : List Int} {u v : Vec} (hnz : ∃ k, k < c ∧ v k ≠ 0) (hp : parN c u v) (hv : VanS c xs s v) : VanS c xs s u := fun i hi => by
  obtain ⟨l, hl, h0⟩ := hnz
  have e : v l * rowP xs (i * c) c u = u l * rowP xs (i * c) c v := by
    unfold rowP
    rw [← sg_mul, ← sg_mul]
    refine sg_congr fun k hk => ?_
    have := hp k l hk hl
    grind
  rw [hv i hi, Int.mul_zero] at e
  exact (Int.mul_eq_zero.1 e).resolve_left h0
theorem OneG.ray {r c : Nat} {xs s v : List Int} (hl : v.length = c) (h : OneG c xs s (vecL v)) (hs : ∀ i ∈ natsOf s, i < r) (hC : InC (fun i => rowP xs (i * c) c) r (vecL v)) : RayP r c xs v := by
  refine ⟨hl, ⟨hC, h.nz, fun u hu => ?_⟩, fun u hu => h.all u (par_van h.nz hu h.van)⟩
  obtain ⟨a, ha⟩ := h.all u fun i hi => hu i (hs i hi) (h.van i hi)
  intro k l hk hl'
  rw [ha k hk, ha l hl']; grind
end Go.Proofs.YtfkbjkmlpinoeaaGreat
namespace Go.Proofs.YtfkbjkmlpinoeaaGreat
theorem par_trans {c : Nat} {p q v : Vec} (hv : ∃ k, k < c ∧ v k ≠ 0) (hp : parN c p v) (hq : parN c q v) : parN c p q := fun k l hk hl => by
  obtain ⟨m, hm, h0⟩ := hv
  have a1 := hp k m hk hm
  have a2 := hp l m hl hm
  have b1 := hq k m hk hm
  have b2 := hq l m hl hm
  have e : v m * v m * (p k * q l - p l * q k) = 0 := by grind
  rcases Int.mul_eq_zero.1 e with e | e
  · rcases Int.mul_eq_zero.1 e with e | e <;> exact absurd e h0
  · omega
theorem row3 {xs : List Int} {i : Nat} {q : Vec} : rowP xs (i * 3) 3 q = xs.getD (i * 3) 0 * q 0 + xs.getD (i * 3 + 1) 0 * q 1 + xs.getD (i * 3 + 2) 0 * q 2 := by
  simp only [rowP, sg, Nat.add_zero]; omega
theorem row2 {xs : List Int} {i : Nat} {q : Vec} : rowP xs (i * 2) 2 q = xs.getD (i * 2) 0 * q 0 + xs.getD (i * 2 + 1) 0 * q 1 := by
  simp only [rowP, sg, Nat.add_zero]; omega
theorem lt3 {k : Nat} (h : k < 3) : k = 0 ∨ k = 1 ∨ k = 2 := by omega
theorem two_rows {xs : List Int} {i j : Nat} {u v : Vec} (hnp : ¬ parN 3 (fun k => xs.getD (i * 3 + k) 0) (fun k => xs.getD (j * 3 + k) 0))
    (hui : rowP xs (i * 3) 3 u = 0) (huj : rowP xs (j * 3) 3 u = 0) (hvi : rowP xs (i * 3) 3 v = 0) (hvj : rowP xs (j * 3) 3 v = 0) : parN 3 u v := by
  rw [row3] at hui huj hvi hvj
  generalize ha0 : xs.getD (i * 3) 0 = a0 at *
  generalize ha1 : xs.getD (i * 3 + 1) 0 = a1 at *
  generalize ha2 : xs.getD (i * 3 + 2) 0 = a2 at *
  generalize hb0 : xs.getD (j * 3) 0 = b0 at *
  generalize hb1 : xs.getD (j * 3 + 1) 0 = b1 at *
  generalize hb2 : xs.getD (j * 3 + 2) 0 = b2 at *
  have key : ∀ w : Vec, a0 * w 0 + a1 * w 1 + a2 * w 2 = 0 → b0 * w 0 + b1 * w 1 + b2 * w 2 = 0 → parN 3 w (v3 (a1 * b2 - a2 * b1) (a2 * b0 - a0 * b2) (a0 * b1 - a1 * b0)) := fun w h1 h2 => by
    have c1 : w 0 * (a2 * b0 - a0 * b2) = (a1 * b2 - a2 * b1) * w 1 := by grind
    have c2 : w 0 * (a0 * b1 - a1 * b0) = (a1 * b2 - a2 * b1) * w 2 := by grind
    have c3 : w 1 * (a0 * b1 - a1 * b0) = (a2 * b0 - a0 * b2) * w 2 := by grind
    intro k l hk hl
    rcases lt3 hk with rfl | rfl | rfl <;> rcases lt3 hl with rfl | rfl | rfl <;> simp [v3] <;> grind
  refine par_trans ?_ (key u hui huj) (key v hvi hvj)
  refine Classical.byContradiction fun hz => hnp ?_
  have z0 : a1 * b2 - a2 * b1 = 0 := Classical.byContradiction fun h => hz ⟨0, by omega, by simpa [v3] using h⟩
  have z1 : a2 * b0 - a0 * b2 = 0 := Classical.byContradiction fun h => hz ⟨1, by omega, by simpa [v3] using h⟩
  have z2 : a0 * b1 - a1 * b0 = 0 := Classical.byContradiction fun h => hz ⟨2, by omega, by simpa [v3] using h⟩
  intro k l hk hl
  rcases lt3 hk with rfl | rfl | rfl <;> rcases lt3 hl with rfl | rfl | rfl <;> simp only [Nat.add_zero, ha0, ha1, ha2, hb0, hb1, hb2] <;> grind
theorem plane_two (X Y Z : Int) : ∃ p q : Vec, X * p 0 + Y * p 1 + Z * p 2 = 0 ∧ X * q 0 + Y * q 1 + Z * q 2 = 0 ∧ ¬ parN 3 p q := by
  by_cases hX : X = 0
  · by_cases hY : Y = 0
    · refine ⟨v3 1 0 0, v3 0 1 0, by simp [v3, hX, hY], by simp [v3, hX, hY], fun hp => ?_⟩
      have := hp 0 1 (by omega) (by omega)
      simp [v3] at this
    · refine ⟨v3 Y (-X) 0, v3 0 Z (-Y), by simp only [v3]; grind, by simp only [v3]; grind, fun hp => hY ?_⟩
      have := hp 0 2 (by omega) (by omega)
      simp only [v3, Nat.one_ne_zero, if_true, if_false, reduceIte, show ¬ ((2 : Nat) = 0) by omega, show ¬ ((2 : Nat) = 1) by omega] at this
      exact sq0R (by grind)
  · refine ⟨v3 Y (-X) 0, v3 Z 0 (-X), by simp only [v3]; grind, by simp only [v3]; grind, fun hp => hX ?_⟩
    have := hp 1 2 (by omega) (by omega)
    simp only [v3, Nat.one_ne_zero, if_true, if_false, reduceIte, show ¬ ((2 : Nat) = 0) by omega, show ¬ ((2 : Nat) = 1) by omega] at this
    exact sq0R (by grind)
theorem van1 {c : Nat} {xs : List Int} {i : Nat} {q : Vec} : VanS c xs [(i : Int)] q ↔ rowP xs (i * c) c q = 0 := by simp [VanS, natsOf]
theorem van2 {c : Nat} {xs : List Int} {i j : Nat} {q : Vec} : VanS c xs [(i : Int), (j : Int)] q ↔ rowP xs (i * c) c q = 0 ∧ rowP xs (j * c) c q = 0 := by simp [VanS, natsOf]
theorem ext_choice {r c : Nat} {xs : List Int} {v : Vec} (hc1 : 1 ≤ c) (hc : c ≤ 3) (hv : ExtT (fun i => rowP xs (i * c) c) r c v) : ∃ s ∈ chTo r (c - 1), VanS c xs s v ∧ ∀ u, VanS c xs s u → parN c u v := by
  obtain ⟨-, hnz, hext⟩ := hv
  have hc123 : c = 1 ∨ c = 2 ∨ c = 3 := by omega
  rcases hc123 with rfl | rfl | rfl
  · refine ⟨[], by simp [chTo], fun i hi => by simp [natsOf] at hi, fun u _ k l hk hl => ?_⟩
    obtain rfl : k = 0 := by omega
    obtain rfl : l = 0 := by omega
    grind
  · by_cases h : ∃ i, i < r ∧ rowP xs (i * 2) 2 v = 0 ∧ (xs.getD (i * 2) 0 ≠ 0 ∨ xs.getD (i * 2 + 1) 0 ≠ 0)
    · obtain ⟨i, hi, h0, hr⟩ := h
      refine ⟨[(i : Int)], chTo_one hi, van1.2 h0, fun u hu => ?_⟩
      have h1 := van1.1 hu
      rw [row2] at h0 h1
      generalize xs.getD (i * 2) 0 = X at *
      generalize xs.getD (i * 2 + 1) 0 = Y at *
      have key : u 0 * v 1 = v 0 * u 1 := by
        have e1 : X * (u 0 * v 1 - v 0 * u 1) = 0 := by grind
        have e2 : Y * (u 0 * v 1 - v 0 * u 1) = 0 := by grind
        rcases hr with hr | hr
        · rcases Int.mul_eq_zero.1 e1 with e | e
          · exact absurd e hr
          · omega
        · rcases Int.mul_eq_zero.1 e2 with e | e
          · exact absurd e hr
          · omega
      intro k l hk hl
      have hk2 : k = 0 ∨ k = 1 := by omega
      have hl2 : l = 0 ∨ l = 1 := by omega
      rcases hk2 with rfl | rfl <;> rcases hl2 with rfl | rfl <;> grind
    · exfalso
      have hall : ∀ u : Vec, parN 2 u v := fun u => hext u fun i hi h0 => by
        have := fun hr => h ⟨i, hi, h0, hr⟩
        have z1 : xs.getD (i * 2) 0 = 0 := Classical.byContradiction fun e => this (.inl e)
        have z2 : xs.getD (i * 2 + 1) 0 = 0 := Classical.byContradiction fun e => this (.inr e)
        show rowP xs (i * 2) 2 u = 0
        rw [row2, z1, z2]; omega
      have := par_trans hnz (hall (v3 1 0 0)) (hall (v3 0 1 0)) 0 1 (by omega) (by omega)
      simp [v3] at this
  · by_cases h : ∃ i j, i < r ∧ j < r ∧ rowP xs (i * 3) 3 v = 0 ∧ rowP xs (j * 3) 3 v = 0 ∧ ¬ parN 3 (fun k => xs.getD (i * 3 + k) 0) (fun k => xs.getD (j * 3 + k) 0)
    · obtain ⟨i, j, hi, hj, h1, h2, hnp⟩ := h
      rcases Nat.lt_trichotomy i j with e | e | e
      · exact ⟨[(i : Int), (j : Int)], chTo_two e hj, van2.2 ⟨h1, h2⟩, fun u hu => two_rows hnp (van2.1 hu).1 (van2.1 hu).2 h1 h2⟩
      · subst e
        exact absurd (fun k l _ _ => by grind) hnp
      · exact ⟨[(j : Int), (i : Int)], chTo_two e hi, van2.2 ⟨h2, h1⟩, fun u hu => two_rows hnp (van2.1 hu).2 (van2.1 hu).1 h1 h2⟩
    · exfalso
      have hpr : ∀ i j, i < r → j < r → rowP xs (i * 3) 3 v = 0 → rowP xs (j * 3) 3 v = 0 → parN 3 (fun k => xs.getD (i * 3 + k) 0) (fun k => xs.getD (j * 3 + k) 0) := fun i j hi hj h1 h2 => Classical.byContradiction fun e => h ⟨i, j, hi, hj, h1, h2, e⟩
      have two : ∃ p q : Vec, parN 3 p v ∧ parN 3 q v ∧ ¬ parN 3 p q := by
        by_cases hz : ∃ i, i < r ∧ rowP xs (i * 3) 3 v = 0 ∧ ∃ m, m < 3 ∧ xs.getD (i * 3 + m) 0 ≠ 0
        · obtain ⟨i, hi, h0, m, hm, hm0⟩ := hz
          obtain ⟨p, q, hp, hq, hpq⟩ := plane_two (xs.getD (i * 3) 0) (xs.getD (i * 3 + 1) 0) (xs.getD (i * 3 + 2) 0)
          have all : ∀ u : Vec, xs.getD (i * 3) 0 * u 0 + xs.getD (i * 3 + 1) 0 * u 1 + xs.getD (i * 3 + 2) 0 * u 2 = 0 → parN 3 u v := fun u hu => hext u fun j hj hj0 => by
            have hpar := hpr i j hi hj h0 hj0
            have c0 := hpar m 0 hm (by omega)
            have c1 := hpar m 1 hm (by omega)
            have c2 := hpar m 2 hm (by omega)
            simp only [Nat.add_zero] at c0 c1 c2
            show rowP xs (j * 3) 3 u = 0
            rw [row3]
            have e : xs.getD (i * 3 + m) 0 * (xs.getD (j * 3) 0 * u 0 + xs.getD (j * 3 + 1) 0 * u 1 + xs.getD (j * 3 + 2) 0 * u 2) = 0 := by
              generalize xs.getD (i * 3 + m) 0 = M at *
              generalize xs.getD (j * 3 + m) 0 = N at *
              generalize xs.getD (i * 3) 0 = a0 at *
              generalize xs.getD (i * 3 + 1) 0 = a1 at *
              generalize xs.getD (i * 3 + 2) 0 = a2 at *
              generalize xs.getD (j * 3) 0 = b0 at *
              generalize xs.getD (j * 3 + 1) 0 = b1 at *
              generalize xs.getD (j * 3 + 2) 0 = b2 at *
              have : N * (a0 * u 0 + a1 * u 1 + a2 * u 2) = 0 := by rw [hu]; omega
              grind
            exact (Int.mul_eq_zero.1 e).resolve_left hm0
          exact ⟨p, q, all p hp, all q hq, hpq⟩
        · have all : ∀ u : Vec, parN 3 u v := fun u => hext u fun j hj hj0 => by
            have hz' : ∀ m, m < 3 → xs.getD (j * 3 + m) 0 = 0 := fun m hm => Classical.byContradiction fun e => hz ⟨j, hj, hj0, m, hm, e⟩
            have z0 := hz' 0 (by omega)
            rw [Nat.add_zero] at z0
            show rowP xs (j * 3) 3 u = 0
            rw [row3, z0, hz' 1 (by omega), hz' 2 (by omega)]; omega
          refine ⟨v3 1 0 0, v3 0 1 0, all _, all _, fun hp => ?_⟩
          have := hp 0 1 (by omega) (by omega)
          simp [v3] at this
      obtain ⟨p, q, hp, hq, hpq⟩ := two
      exact hpq (par_trans hnz hp hq)
theorem one_van {r c k t : Nat} {xs s ys : List Int} {v : Vec} (hx : xs.length = r * c) (hn : xs.all numB = true) (hs : s ∈ chTo r k) (h : kerO c k (turnM (pickR xs c (natsOf s)) k c) = some (ys, t))
    (hnz : ∃ k, k < c ∧ v k ≠ 0) (hv : VanS c xs s v) (hp : ∀ u, VanS c xs s u → parN c u v) : t = 1 := by
  obtain ⟨hpv, htc, hq⟩ := ker_ch hx hn hs h
  rcases Nat.lt_trichotomy t 1 with e | e | e
  · exfalso
    obtain ⟨k, hk0, hne⟩ := hnz
    obtain ⟨q', h4⟩ := (hq _).1 hv
    have : t = 0 := by omega
    subst this
    exact hne (by rw [h4 k hk0]; rfl)
  · exact e
  · exfalso
    have hrow : ∀ i, i < t → VanS c xs s fun l => ys.getD (i * c + l) 0 := fun i hi => (hq _).2 ⟨fun j => if j = i then 1 else 0, fun l _ => by rw [comb_one, if_pos hi]; omega⟩
    have hpar := par_trans hnz (hp _ (hrow 0 (by omega))) (hp _ (hrow 1 (by omega)))
    have p0 := hpv.yes 0 (by omega)
    have p1 := hpv.yes 1 (by omega)
    have hm := hpv.mono 0 1 (by omega) (by omega)
    generalize pivF ys (0 * c) c = P at *
    generalize pivF ys (1 * c) c = Q at *
    have e1 := hpar P Q p0.1 p1.1
    dsimp only at e1
    rw [p1.2.2 P hm, Int.mul_zero] at e1
    have h1 := p0.2.1
    have h2 := p1.2.1
    have := Int.mul_pos h1 h2
    omega
theorem pos_of {m x : Int} (h : 0 ≤ m * x) (hm : 0 < m) : 0 ≤ x := Int.not_lt.1 fun hx => by have := Int.mul_neg_of_pos_of_neg hm hx; omega
theorem ext_ray {r c : Nat} {xs : List Int} {raw : List (List Int)} {v : Vec} (hC : coneM r c xs = true) (hx : xs.length = r * c) (hn : xs.all numB = true) (hc1 : 1 ≤ c) (hc : c ≤ 3) (hr : rawO r c xs = some raw)
    (hv : ExtT (fun i => rowP xs (i * c) c) r c v) : ∃ u ∈ raw, ∃ a : Int, 0 < a ∧ ∀ k, k < c → v k = a * vecL u k := by
  obtain ⟨s, hs, h1, h2⟩ := ext_choice hc1 hc hv
  obtain ⟨j, hj, rfl⟩ := List.mem_iff_getElem.1 hs
  obtain ⟨a, ha⟩ := candTo_all hr j hj
  rw [getD_in hj] at ha
  have hmem := fun u => (candTo_mem hr u).2
  obtain ⟨⟨ys, t⟩, hk, -⟩ := Option.map_eq_some_iff.1 (show (kerO c (c - 1) (turnM (pickR xs c (natsOf (chTo r (c - 1))[j])) (c - 1) c)).map _ = some a from ha)
  have ht := one_van hx hn hs hk hv.nz h1 h2
  subst ht
  obtain ⟨hl, hnum, ho⟩ := one_ker hx hn hs hk
  obtain ⟨m, hm⟩ := ho.all v h1
  obtain ⟨k0, hk0, hne⟩ := hv.nz
  have hlin : ∀ (q : Vec) (e : Int), (∀ k, k < c → v k = e * q k) → ∀ i, rowP xs (i * c) c v = e * rowP xs (i * c) c q := fun q e he i => by
    rw [rowP_congr (w := mixV e 0 q q) (fun k hk => by rw [he k hk]; simp [mixV]), rowP_lin]; omega
  rcases Int.lt_trichotomy m 0 with c1 | c1 | c1
  · have he : ∀ k, k < c → v k = (-m) * vecL (ys.map fun x => -x) k := fun k hk => by rw [vec_neg, hm k hk]; grind
    refine ⟨ys.map fun x => -x, hmem _ ⟨j, a, hj, by rw [getD_in hj]; exact ha, (cand_spec hx hn hc1 hs ha _).2 ⟨by simp [hl], ho.neg fun k => vec_neg k, (inCone_iff hC).2 ⟨by simp [hl], neg_all hnum, fun i hi => ?_⟩⟩⟩, -m, by omega, he⟩
    have this : 0 ≤ rowP xs (i * c) c v := hv.mem i hi
    rw [hlin _ _ he i] at this
    exact pos_of this (by omega)
  · exact absurd (by rw [hm k0 hk0, c1]; omega) hne
  · refine ⟨ys, hmem _ ⟨j, a, hj, by rw [getD_in hj]; exact ha, (cand_spec hx hn hc1 hs ha _).2 ⟨hl, ho, (inCone_iff hC).2 ⟨hl, hnum, fun i hi => ?_⟩⟩⟩, m, c1, hm⟩
    have this : 0 ≤ rowP xs (i * c) c v := hv.mem i hi
    rw [hlin _ _ hm i] at this
    exact pos_of this c1
end Go.Proofs.YtfkbjkmlpinoeaaGreat
namespace Go.Proofs.YtfkbjkmlpinoeaaGreat
open Go.RowKit
section
variable {P : Program} {E : Env} {N : Nat} {Q : Post} {fr : Nat → Option AV} {H : Nat → Option Blk} {nx : Nat}
def cutQ {α : Type} (n0 : Nat) (pre : α → Prop) (F : α → List (Nat × AV)) (Hh : α → List (Nat × Blk)) (nx : Nat) (Q : Post) : Post := fun e σ => match e with
  | .normal => ∃ m y, pre y ∧ Weak n0 σ.fr σ.H m (F y) (Hh y) nx
  | e => Q e σ
theorem awp_cut {α : Type} (i : Nat) {ops : Array Oper} {dr : Bool} {x2 y : Code} {n0 : Nat} (hn : E.n0 = n0) (pre : α → Prop) (F : α → List (Nat × AV)) (Hh : α → List (Nat × Blk)) (nx1 : Nat)
    (h : awp P E N (.seq (.region i ops dr) x2) (cutQ n0 pre F Hh nx1 Q) ⟨fr, H, nx⟩)
    (hr : ∀ z, pre z → awp P E N y Q ⟨lk (F z), lk (Hh z), nx1⟩) : awp P E N (.seq (.seq (.region i ops dr) x2) y) Q ⟨fr, H, nx⟩ := by
  unfold awp at *
  intro ρ a w hI
  refine wp_seq (Code.wp_mono (fun e a' w' hq => ?_) (h ρ a w hI))
  obtain ⟨ρ', σ', hI', hq⟩ := hq
  cases e with
  | normal =>
    obtain ⟨m, z, hp, hw⟩ := hq
    exact hr z hp _ a' w' (hI'.weak hn hw.f hw.h hw.ok)
  | exit id => exact ⟨ρ', σ', hI', hq⟩
  | goto l => exact ⟨ρ', σ', hI', hq⟩
  | ret => exact ⟨ρ', σ', hI', hq⟩
  | panic => exact ⟨ρ', σ', hI', hq⟩
  | outgrown => exact ⟨ρ', σ', hI', hq⟩
variable {l0 : List Oper} {ρs : Rho} {nxs : Nat} {hs : List (Nat × Blk)} {fuel : Nat} {listed : Array Bool}
theorem Does.mono {f : FuncId} {args : List AV} {Hin : List (Nat × Blk)} {n0 : Nat} {Out Out' : AV → List (Nat × Blk) → Nat → Prop} (hD : Does P f args Hin n0 Out) (hm : ∀ v Hout n1, Out v Hout n1 → Out' v Hout n1) : Does P f args Hin n0 Out' :=
  ⟨hD.fn, fun ρ w hH hk => Calls.mono (hD.calls ρ w hH hk) fun _ _ ⟨ρ', v, Hout, n1, ho, h⟩ => ⟨ρ', v, Hout, n1, hm _ _ _ ho, h⟩⟩
end
end Go.Proofs.YtfkbjkmlpinoeaaGreat
namespace Go.Proofs.YtfkbjkmlpinoeaaGreat
open Go.RowKit
def ChoR (th t : TypeId) (L : List (List Int)) (k : Nat) (v : AV) (Hout : List (Nat × Blk)) (n1 : Nat) : Prop := ∃ l cap, rowsX l = L ∧ v = vS k 1 0 l.length cap ∧ Hout = [(k, .own th cap (.rows false true l)), (k + 1, .tok t false l)] ∧ n1 = k + 2
theorem chRow {n k j : Nat} {l : List Row} (h : rowsX l = chTo n k) (hj : j < l.length) : (l.getD (0 + (j : Int).toNat) rowD).xs = (chTo n k).getD j [] ∧ (chTo n k).getD j [] ∈ chTo n k ∧ ((chTo n k).getD j []).length = k := by
  have hx := rowsX_at h hj
  have hl := rowsX_len h
  have hm : (chTo n k).getD j [] ∈ chTo n k := by rw [getD_in (by omega)]; exact List.getElem_mem _
  exact ⟨hx, hm, (chTo_mem hm).1⟩
set_option maxRecDepth 100000 in
set_option maxHeartbeats 4000000 in
theorem d_choices (n : Nat) (hn : n ≤ 8) : ∀ k : Nat, k ≤ 2 → Does Tryz.prog 45 [vI n, vI k] [] 1 (ChoR 24 3 (chTo n k) 1)
 | 0, _ => by
  refine Does.intro TT Tryz.func45 rfl (by kernel_rfl) Zz Zz fun E hE => ?_
  ((repeat' (first | refine stx ?_ | (refine stq ?_ ?_ <;> (intro hc; ((try simp at hc) <;> try contradiction))) | fail)) <;> try (exfalso; omega))
  ((first | refine awpL_ghost (Ghost.newTok 3 false) ?_ | refine awp_ghost (Ghost.newTok 3 false) ?_ | refine awpH_ghost (Ghost.newTok 3 false) ?_ | refine awpHop_ghost (Ghost.newTok 3 false) ?_); rintro _ _ ⟨rfl, rfl⟩)
  ((first | refine awpL_ghost (Ghost.freeze 1 2 Zz Zz) ?_ | refine awp_ghost (Ghost.freeze 1 2 Zz Zz) ?_ | refine awpH_ghost (Ghost.freeze 1 2 Zz Zz) ?_ | refine awpHop_ghost (Ghost.freeze 1 2 Zz Zz) ?_); rintro _ _ ⟨a0, rfl, rfl⟩)
  ((repeat' (first | refine stx ?_ | (refine stq ?_ ?_ <;> (intro hc; ((try simp at hc) <;> try contradiction))) | fail)) <;> try (exfalso; omega))
  exact fin rfl w_3 [(1, 3), (2, 2)] (vS 1 1 0 1 1) [(1, .own 24 1 (.rows false true [⟨a0, 0, [], []⟩])), (2, .tok 3 false [⟨a0, 0, [], []⟩])] 3 ⟨_, 1, rfl, rfl, rfl, rfl⟩ rfl ⟨trivial, ⟨rfl, rfl, trivial⟩, rfl⟩ rfl
 | k + 1, hk2 => by
  have hrec : Does Tryz.prog 45 [vI n, vI (((k + 1 : Nat) : Int) - 1)] [] 1 (ChoR 24 3 (chTo n k) 1) := by
   rw [show (((k + 1 : Nat) : Int) - 1) = (k : Int) by omega]
   exact d_choices n hn k (by omega)
  refine Does.intro TT Tryz.func45 rfl (by kernel_rfl) Zz Zz fun E hE => ?_
  have hkl := chTo_len hn (k := k) (by omega)
  ((repeat' (first | refine stx ?_ | ((refine w_E (hrec) Zz Zz Zz Zz Zz Zz Zz ft rfl ?_); rintro v Hout n1 ⟨l, cap, hl, rfl, rfl, rfl⟩) | (refine stq ?_ ?_ <;> (intro hc; ((try simp at hc) <;> try contradiction))) | fail)) <;> try (exfalso; omega))
  have hll := rowsX_len hl
  ((first | refine awpL_ghost (Ghost.newTok 3 false) ?_ | refine awp_ghost (Ghost.newTok 3 false) ?_ | refine awpH_ghost (Ghost.newTok 3 false) ?_ | refine awpHop_ghost (Ghost.newTok 3 false) ?_); rintro _ _ ⟨rfl, rfl⟩)
  refine w_G hE (fun x : Nat × List Row × Nat => x.1 ≤ l.length ∧ rowsX x.2.1 = midC n k x.1 0) (fun x => l.length - x.1)
   (fun x => [(0, vI n), (5, vS 1 1 0 x.2.1.length x.2.2), (18, vS 2 1 0 l.length cap), (19, vI l.length), (20, vI x.1)])
   (fun x => [(1, .own 24 x.2.2 (.rows false true x.2.1)), (2, .own 24 cap (.rows false true l)), (3, .tok 3 false l), (4, .tok 3 false x.2.1)]) 5 [] (0, [], 0) ⟨Nat.zero_le _, rfl⟩ ⟨w_1, w_2, rfl⟩ ?_
  rintro ⟨j, l2, cap2⟩ ⟨hj, hl2⟩
  dsimp only at hj hl2
  have hl2n : l2.length ≤ 1000 := by rw [rowsX_len hl2]; exact midC_len hn (by omega) (by omega) (by omega)
  by_cases hjl : j < l.length
  ·obtain ⟨hvx, hvm, hvn⟩ := chRow hl hjl
   obtain ⟨-, hvb, f0, f1⟩ := chTo_mem hvm
   have hvl : (l.getD (0 + (j : Int).toNat) rowD).xs.length = k := by rw [hvx, hvn]
   have hnf : (l[j]?.getD rowD).xs.length = (l.getD (0 + (j : Int).toNat) rowD).xs.length := by simp
   have hbx : ∀ i : Nat, 0 ≤ (l.getD (0 + (j : Int).toNat) rowD).xs.getD i 0 ∧ (l.getD (0 + (j : Int).toNat) rowD).xs.getD i 0 ≤ n := fun i => by
    rw [hvx]
    rcases Nat.lt_or_ge i ((chTo n k).getD j []).length with h | h
    ·have := hvb _ (List.getElem_mem h)
     rw [getD_in h]; omega
    ·rw [List.getD_eq_getElem?_getD, List.getElem?_eq_none h]; simp
   have hb9 := hbx (0 + (((l.getD (0 + (j : Int).toNat) rowD).xs.length : Int) - 1).toNat)
   have hb8 := hb9
   simp only [Nat.zero_add, List.getD_eq_getElem?_getD, Int.toNat_natCast] at hb8
   have e8 : ∀ g : Int, g = (l.getD (0 + (j : Int).toNat) rowD).xs.getD (0 + (((l.getD (0 + (j : Int).toNat) rowD).xs.length : Int) - 1).toNat) 0 + 1 → 0 < (l.getD (0 + (j : Int).toNat) rowD).xs.length → g = fromI ((chTo n k).getD j []) k := fun g hg h0 => by
    rw [hg, hvl, hvx, fromI, if_pos (by omega)]
    congr 2; omega
   have e9 : (l.getD (0 + (j : Int).toNat) rowD).xs.length = 0 → 0 = fromI ((chTo n k).getD j []) k := fun h0 => by
    rw [fromI, if_neg (by omega)]
   ((repeat' (first | (refine awp_cut 8 hE (fun _ : Unit => True) (fun _ => [(0, vI n), (5, vS 1 1 0 l2.length cap2), (7, vS 5 1 0 (l.getD (0 + (j : Int).toNat) rowD).xs.length (l.getD (0 + (j : Int).toNat) rowD).cap), (8, vI (fromI ((chTo n k).getD j []) k)), (18, vS 2 1 0 l.length cap), (19, vI l.length), (20, vI j)]) (fun _ => [(1, .own 24 cap2 (.rows false true l2)), (2, .own 24 cap (.rows false true l)), (3, .tok 3 false l), (4, .tok 3 false l2), (5, .al (l.getD (0 + (j : Int).toNat) rowD).a (.ints (l.getD (0 + (j : Int).toNat) rowD).xs))]) 6 ?_ ?_) | refine stp ?_ | (refine stq ?_ ?_ <;> (intro hc; ((try simp at hc) <;> try contradiction))) | fail)) <;> try (exfalso; omega))
   ·rw [← e8 _ rfl (by omega)]
    exact ⟨[], (), trivial, ⟨w_1, w_2, rfl⟩⟩
   ·rw [← e9 (by have := congrArg List.length hc; simp only [List.length_nil] at this; omega)]
    exact ⟨[], (), trivial, ⟨w_1, w_2, rfl⟩⟩
   rintro ⟨⟩ -
   try dsimp only
   generalize hf : fromI ((chTo n k).getD j []) k = f at *
   clear e8 e9 hnf hb8 hb9 hbx
   ((repeat' (first | refine stx ?_ | (refine stq ?_ ?_ <;> (intro hc; ((try simp at hc) <;> try contradiction))) | fail)) <;> try (exfalso; omega))
   refine w_G hE (fun x : Nat × List Row × Nat => x.1 ≤ ((n : Int) - f).toNat ∧ rowsX x.2.1 = midC n k j x.1) (fun x => ((n : Int) - f).toNat - x.1)
    (fun x => [(0, vI n), (5, vS 1 1 0 x.2.1.length x.2.2), (7, vS 5 1 0 (l.getD (0 + (j : Int).toNat) rowD).xs.length (l.getD (0 + (j : Int).toNat) rowD).cap), (9, vI (f + (x.1 : Int))), (18, vS 2 1 0 l.length cap), (19, vI l.length), (20, vI j)])
    (fun x => [(1, .own 24 x.2.2 (.rows false true x.2.1)), (2, .own 24 cap (.rows false true l)), (3, .tok 3 false l), (4, .tok 3 false x.2.1), (5, .al (l.getD (0 + (j : Int).toNat) rowD).a (.ints (l.getD (0 + (j : Int).toNat) rowD).xs))]) 6 [] (0, l2, cap2) ⟨Nat.zero_le _, hl2⟩ ⟨w_1, w_2, rfl⟩ ?_
   rintro ⟨m, l3, cap3⟩ ⟨hm, hl3⟩
   dsimp only at hm hl3
   have hl3n : l3.length ≤ 1000 := by rw [rowsX_len hl3]; exact midC_len hn (by omega) (by omega) (by omega)
   by_cases hmw : m < ((n : Int) - f).toNat
   ·((repeat' (first | refine stx ?_ | (refine w_x TT Zz Zz Zz Zz Zz sd ?_; intro cap hcap) | (refine stq ?_ ?_ <;> (intro hc; ((try simp at hc) <;> try contradiction))) | fail)) <;> try (exfalso; omega))
    ((first | refine awpL_ghost (Ghost.freeze 9 4 Zz Zz) ?_ | refine awp_ghost (Ghost.freeze 9 4 Zz Zz) ?_ | refine awpH_ghost (Ghost.freeze 9 4 Zz Zz) ?_ | refine awpHop_ghost (Ghost.freeze 9 4 Zz Zz) ?_); rintro _ _ ⟨a1, rfl, rfl⟩)
    ((repeat' (first | refine stx ?_ | (refine w_x TT Zz Zz Zz Zz Zz sd ?_; intro cap hcap) | (refine stq ?_ ?_ <;> (intro hc; ((try simp at hc) <;> try contradiction))) | fail)) <;> try (exfalso; omega))
    refine ⟨[(1, 11)], (m + 1, _, _), ⟨hmw, ?_⟩, w_4, ⟨w_1, ⟨rfl, rfl, rfl, rfl, rfl, trivial⟩, rfl⟩⟩
    show rowsX (l3 ++ [_]) = _
    rw [midC_next, hf, ← hl3, ← hvx]
    simp [rowsX]
   ·obtain rfl : m = ((n : Int) - f).toNat := by omega
    ((repeat' (first | refine stx ?_ | (refine stq ?_ ?_ <;> (intro hc; ((try simp at hc) <;> try contradiction))) | fail)) <;> try (exfalso; omega))
    exact ⟨[], (j + 1, l3, cap3), ⟨hjl, by dsimp only; rw [hl3, ← hf, midC_row (by omega)]⟩, w_4, ⟨w_1, w_2, rfl⟩⟩
  ·obtain rfl : j = l.length := by omega
   ((repeat' (first | refine stx ?_ | (refine stq ?_ ?_ <;> (intro hc; ((try simp at hc) <;> try contradiction))) | fail)) <;> try (exfalso; omega))
   exact fin rfl w_3 [(1, 1), (2, 4)] (vS 1 1 0 l2.length cap2) [(1, .own 24 cap2 (.rows false true l2)), (2, .tok 3 false l2)] 3 ⟨l2, cap2, by rw [hl2, hll, midC_full], rfl, rfl, rfl⟩ rfl ⟨trivial, ⟨rfl, rfl, trivial⟩, rfl⟩ rfl
set_option maxRecDepth 100000 in
set_option maxHeartbeats 4000000 in
theorem d_subsets (n k : Nat) (hn : n ≤ 8) (hk2 : k ≤ 2) : Does Tryz.prog 59 [vI n, vI k] [] 1 (ChoR 24 3 (chTo n k) 1) := by
 refine Does.intro TT Tryz.func59 rfl (by kernel_rfl) Zz Zz fun E hE => ?_
 ((repeat' (first | refine stx ?_ | (refine stq ?_ ?_ <;> (intro hc; ((try simp at hc) <;> try contradiction))) | fail)) <;> try (exfalso; omega))
 ((first | refine awpL_ghost (Ghost.newTok 3 false) ?_ | refine awp_ghost (Ghost.newTok 3 false) ?_ | refine awpH_ghost (Ghost.newTok 3 false) ?_ | refine awpHop_ghost (Ghost.newTok 3 false) ?_); rintro _ _ ⟨rfl, rfl⟩)
 ((first | refine awpL_ghost (Ghost.freeze 1 2 Zz Zz) ?_ | refine awp_ghost (Ghost.freeze 1 2 Zz Zz) ?_ | refine awpH_ghost (Ghost.freeze 1 2 Zz Zz) ?_ | refine awpHop_ghost (Ghost.freeze 1 2 Zz Zz) ?_); rintro _ _ ⟨a0, rfl, rfl⟩)
 ((repeat' (first | refine stx ?_ | (refine stq ?_ ?_ <;> (intro hc; ((try simp at hc) <;> try contradiction))) | fail)) <;> try (exfalso; omega))
 refine w_G hE (fun x : Nat × List Row × Nat => x.1 ≤ k ∧ rowsX x.2.1 = chTo n x.1) (fun x => k - x.1)
  (fun x => [(0, vI n), (1, vI k), (5, vS 1 1 0 x.2.1.length x.2.2), (6, vI x.1)])
  (fun x => [(1, .own 24 x.2.2 (.rows false true x.2.1)), (2, .tok 3 false x.2.1)]) 3 [(1, 3)] (0, [⟨a0, 0, [], []⟩], 1) ⟨Nat.zero_le _, rfl⟩ ⟨w_1, w_2, rfl⟩ ?_
 rintro ⟨i, l, cap⟩ ⟨hi, hl⟩
 dsimp only at hi hl
 have hll := rowsX_len hl
 have hkl := chTo_len hn (k := i) (by omega)
 by_cases hik : i < k
 ·((repeat' (first | refine stx ?_ | (refine stq ?_ ?_ <;> (intro hc; ((try simp at hc) <;> try contradiction))) | fail)) <;> try (exfalso; omega))
  ((first | refine awpL_ghost (Ghost.newTok 3 false) ?_ | refine awp_ghost (Ghost.newTok 3 false) ?_ | refine awpH_ghost (Ghost.newTok 3 false) ?_ | refine awpHop_ghost (Ghost.newTok 3 false) ?_); rintro _ _ ⟨rfl, rfl⟩)
  refine w_G hE (fun x : Nat × List Row × Nat => x.1 ≤ l.length ∧ rowsX x.2.1 = midC n i x.1 0) (fun x => l.length - x.1)
   (fun x => [(0, vI n), (1, vI k), (5, vS 1 1 0 l.length cap), (6, vI i), (7, vS 3 1 0 x.2.1.length x.2.2), (8, vI x.1)])
   (fun x => [(1, .own 24 cap (.rows false true l)), (2, .tok 3 false l), (3, .own 24 x.2.2 (.rows false true x.2.1)), (4, .tok 3 false x.2.1)]) 5 [] (0, [], 0) ⟨Nat.zero_le _, rfl⟩ ⟨w_1, w_2, rfl⟩ ?_
  rintro ⟨j, l2, cap2⟩ ⟨hj, hl2⟩
  dsimp only at hj hl2
  have hl2n : l2.length ≤ 1000 := by rw [rowsX_len hl2]; exact midC_len hn (by omega) (by omega) (by omega)
  by_cases hjl : j < l.length
  ·obtain ⟨hvx, hvm, hvn⟩ := chRow hl hjl
   obtain ⟨-, hvb, f0, f1⟩ := chTo_mem hvm
   have hvl : (l.getD (0 + (j : Int).toNat) rowD).xs.length = i := by rw [hvx, hvn]
   have hnf : (l[j]?.getD rowD).xs.length = i := by rw [← hvl]; simp
   have hbx : ∀ i : Nat, 0 ≤ (l.getD (0 + (j : Int).toNat) rowD).xs.getD i 0 ∧ (l.getD (0 + (j : Int).toNat) rowD).xs.getD i 0 ≤ n := fun i => by
    rw [hvx]
    rcases Nat.lt_or_ge i ((chTo n _).getD j []).length with h | h
    ·have := hvb _ (List.getElem_mem h)
     rw [getD_in h]; omega
    ·rw [List.getD_eq_getElem?_getD, List.getElem?_eq_none h]; simp
   have hb9 := hbx (0 + ((i : Int) - 1).toNat)
   have hb8 := hb9
   simp only [Nat.zero_add, List.getD_eq_getElem?_getD, Int.toNat_natCast] at hb8
   have e8 : ∀ g : Int, g = (l.getD (0 + (j : Int).toNat) rowD).xs.getD (0 + ((i : Int) - 1).toNat) 0 + 1 → 0 < i → g = fromI ((chTo n i).getD j []) i := fun g hg h0 => by
    rw [hg, hvx, fromI, if_pos (by omega)]
    congr 2; omega
   have e9 : i = 0 → 0 = fromI ((chTo n i).getD j []) i := fun h0 => by
    rw [fromI, if_neg (by omega)]
   ((repeat' (first | (refine awp_cut 10 hE (fun _ : Unit => True) (fun _ => [(0, vI n), (1, vI k), (5, vS 1 1 0 l.length cap), (6, vI i), (7, vS 3 1 0 l2.length cap2), (8, vI j), (9, vI (fromI ((chTo n i).getD j []) i))]) (fun _ => [(1, .own 24 cap (.rows false true l)), (2, .tok 3 false l), (3, .own 24 cap2 (.rows false true l2)), (4, .tok 3 false l2)]) 5 ?_ ?_) | refine stp ?_ | (refine stq ?_ ?_ <;> (intro hc; ((try simp at hc) <;> try contradiction))) | fail)) <;> try (exfalso; omega))
   ·rw [← e8 _ rfl (by omega)]
    exact ⟨[], (), trivial, ⟨w_1, w_2, rfl⟩⟩
   ·rw [← e9 (by omega)]
    exact ⟨[], (), trivial, ⟨w_1, w_2, rfl⟩⟩
   rintro ⟨⟩ -
   try dsimp only
   generalize hf : fromI ((chTo n i).getD j []) i = f at *
   clear e8 e9 hnf hb8 hb9 hbx
   ((repeat' (first | refine stx ?_ | (refine stq ?_ ?_ <;> (intro hc; ((try simp at hc) <;> try contradiction))) | fail)) <;> try (exfalso; omega))
   refine w_G hE (fun x : Nat × List Row × Nat => x.1 ≤ ((n : Int) - f).toNat ∧ rowsX x.2.1 = midC n i j x.1) (fun x => ((n : Int) - f).toNat - x.1)
    (fun x => [(0, vI n), (1, vI k), (5, vS 1 1 0 l.length cap), (6, vI i), (7, vS 3 1 0 x.2.1.length x.2.2), (8, vI j), (10, vI (f + (x.1 : Int)))])
    (fun x => [(1, .own 24 cap (.rows false true l)), (2, .tok 3 false l), (3, .own 24 x.2.2 (.rows false true x.2.1)), (4, .tok 3 false x.2.1)]) 5 [] (0, l2, cap2) ⟨Nat.zero_le _, hl2⟩ ⟨w_1, w_2, rfl⟩ ?_
   rintro ⟨m, l3, cap3⟩ ⟨hm, hl3⟩
   dsimp only at hm hl3
   have hl3n : l3.length ≤ 1000 := by rw [rowsX_len hl3]; exact midC_len hn (by omega) (by omega) (by omega)
   by_cases hmw : m < ((n : Int) - f).toNat
   ·((repeat' (first | refine stx ?_ | (refine w_x TT Zz Zz Zz Zz Zz sd ?_; intro cap hcap) | (refine stq ?_ ?_ <;> (intro hc; ((try simp at hc) <;> try contradiction))) | fail)) <;> try (exfalso; omega))
    ((first | refine awpL_ghost (Ghost.freeze 9 4 Zz Zz) ?_ | refine awp_ghost (Ghost.freeze 9 4 Zz Zz) ?_ | refine awpH_ghost (Ghost.freeze 9 4 Zz Zz) ?_ | refine awpHop_ghost (Ghost.freeze 9 4 Zz Zz) ?_); rintro _ _ ⟨a1, rfl, rfl⟩)
    ((repeat' (first | refine stx ?_ | (refine w_x TT Zz Zz Zz Zz Zz sd ?_; intro cap hcap) | (refine stq ?_ ?_ <;> (intro hc; ((try simp at hc) <;> try contradiction))) | fail)) <;> try (exfalso; omega))
    refine ⟨[(3, 11)], (m + 1, _, _), ⟨hmw, ?_⟩, w_4, ⟨w_1, ⟨rfl, rfl, rfl, rfl, trivial⟩, rfl⟩⟩
    show rowsX (l3 ++ [_]) = _
    rw [midC_next, hf, ← hl3, ← hvx]
    simp [rowsX]
   ·obtain rfl : m = ((n : Int) - f).toNat := by omega
    ((repeat' (first | refine stx ?_ | (refine stq ?_ ?_ <;> (intro hc; ((try simp at hc) <;> try contradiction))) | fail)) <;> try (exfalso; omega))
    exact ⟨[], (j + 1, l3, cap3), ⟨hjl, by dsimp only; rw [hl3, ← hf, midC_row (by omega)]⟩, w_4, ⟨w_1, w_2, rfl⟩⟩
  ·obtain rfl : j = l.length := by omega
   ((repeat' (first | refine stx ?_ | (refine stq ?_ ?_ <;> (intro hc; ((try simp at hc) <;> try contradiction))) | fail)) <;> try (exfalso; omega))
   exact ⟨[(1, 3), (2, 4)], (i + 1, l2, cap2), ⟨hik, by dsimp only; rw [hl2, hll, midC_full]⟩, w_4, ⟨w_1, w_2, rfl⟩⟩
 ·obtain rfl : i = k := by omega
  ((repeat' (first | refine stx ?_ | (refine stq ?_ ?_ <;> (intro hc; ((try simp at hc) <;> try contradiction))) | fail)) <;> try (exfalso; omega))
  exact fin rfl w_3 [] (vS 1 1 0 l.length cap) [(1, .own 24 cap (.rows false true l)), (2, .tok 3 false l)] 3 ⟨l, cap, hl, rfl, rfl, rfl⟩ rfl ⟨trivial, ⟨rfl, rfl, trivial⟩, rfl⟩ rfl
end Go.Proofs.YtfkbjkmlpinoeaaGreat
