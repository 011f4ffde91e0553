/-
  TEXTS OF THE PROOF, put together: pRay, pLex, pBox, pChoose.
-/
import Derived.Test.YtfkbjkmlpinoeaaGreatM22
import Derived.Test.YtfkbjkmlpinoeaaGreatM07
import Derived.Test.YtfkbjkmlpinoeaaGreatM20
import Derived.Test.YtfkbjkmlpinoeaaGreatM08
set_option linter.unusedVariables false
set_option linter.unusedSimpArgs false
/-
  PLAIN LAW: of the rays of a cone in three dimensions that lie in one facet's plane, no three differ.
-/
namespace Go.Proofs.YtfkbjkmlpinoeaaGreat

/-- three numbers, and the product of two such -/
structure V3 where
  x : Int
  y : Int
  z : Int
def dt (h v : V3) : Int := h.x * v.x + h.y * v.y + h.z * v.z
def par (u v : V3) : Prop := u.y * v.z = u.z * v.y ∧ u.z * v.x = u.x * v.z ∧ u.x * v.y = u.y * v.x
def tim (a : Int) (v : V3) : V3 := ⟨a * v.x, a * v.y, a * v.z⟩
structure Gen (r : Nat) (h : Nat → V3) (i j : Nat) (v : V3) : Prop where
  nz : ¬ (v.x = 0 ∧ v.y = 0 ∧ v.z = 0)
  lt : i < r ∧ j < r
  hi : dt (h i) v = 0
  hj : dt (h j) v = 0
  gen : ∀ x, dt (h i) x = 0 → dt (h j) x = 0 → ∃ a, x = tim a v
  pos : ∀ k, k < r → 0 ≤ dt (h k) v
theorem dt_tim {h v : V3} {a : Int} : dt h (tim a v) = a * dt h v := by unfold dt tim; grind
theorem tim_par {v : V3} {a b : Int} : par (tim a v) (tim b v) := by unfold par tim; refine ⟨?_, ?_, ?_⟩ <;> grind
theorem sq0 {a : Int} (h : a * a = 0) : a = 0 := by rcases Int.mul_eq_zero.1 h with e | e <;> exact e
theorem Gen.row {r : Nat} {h : Nat → V3} {i j : Nat} {v : V3} (g : Gen r h i j v) : ¬ ((h i).x = 0 ∧ (h i).y = 0 ∧ (h i).z = 0) := fun ⟨e1, e2, e3⟩ => by
  have hall : ∀ x, dt (h j) x = 0 → ∃ a, x = tim a v := fun x hx => g.gen x (by unfold dt; rw [e1, e2, e3]; omega) hx
  generalize h j = H at hall
  obtain ⟨p, q, s⟩ := H
  have hp : ∀ x y : V3, dt ⟨p, q, s⟩ x = 0 → dt ⟨p, q, s⟩ y = 0 → par x y := fun x y hx hy => by
    obtain ⟨a, rfl⟩ := hall x hx
    obtain ⟨b, rfl⟩ := hall y hy
    exact tim_par
  have k1 := hp ⟨q, -p, 0⟩ ⟨s, 0, -p⟩ (by unfold dt; grind) (by unfold dt; grind)
  have k2 := hp ⟨q, -p, 0⟩ ⟨0, s, -q⟩ (by unfold dt; grind) (by unfold dt; grind)
  have k3 := hp ⟨s, 0, -p⟩ ⟨0, s, -q⟩ (by unfold dt; grind) (by unfold dt; grind)
  unfold par at k1 k2 k3
  dsimp only at k1 k2 k3
  have z1 : p = 0 := sq0 (by grind)
  have z2 : q = 0 := sq0 (by grind)
  have z3 : s = 0 := sq0 (by grind)
  subst z1 z2 z3
  have k4 := hp ⟨1, 0, 0⟩ ⟨0, 1, 0⟩ (by unfold dt; grind) (by unfold dt; grind)
  unfold par at k4
  dsimp only at k4
  omega
theorem tim_nz {v u : V3} {a : Int} (hu : ¬ (u.x = 0 ∧ u.y = 0 ∧ u.z = 0)) (e : u = tim a v) : a ≠ 0 := fun h => hu (by subst h; subst e; simp [tim])
theorem unit_two {a b : Int} (h : a * b = 1) : a = 1 ∨ a = -1 := by
  have h1 := congrArg Int.natAbs h
  rw [Int.natAbs_mul] at h1
  have h2 : a.natAbs = 1 := Nat.eq_one_of_mul_eq_one_right h1
  omega
theorem tim_two {u v : V3} {a b : Int} (hu : ¬ (u.x = 0 ∧ u.y = 0 ∧ u.z = 0)) (h1 : u = tim a v) (h2 : v = tim b u) : u = v ∨ u = tim (-1) v := by
  have hab : a * b = 1 := by
    have e : u = tim (a * b) u := by
      conv => lhs; rw [h1, h2]
      simp only [tim]
      congr 1 <;> grind
    obtain ⟨x, y, z⟩ := u
    simp only [tim, V3.mk.injEq] at e
    dsimp only at hu
    have e1 : (a * b - 1) * x = 0 := by grind
    have e2 : (a * b - 1) * y = 0 := by grind
    have e3 : (a * b - 1) * z = 0 := by grind
    rcases Int.mul_eq_zero.1 e1 with c | c
    · omega
    rcases Int.mul_eq_zero.1 e2 with c2 | c2
    · omega
    rcases Int.mul_eq_zero.1 e3 with c3 | c3
    · omega
    exact absurd ⟨c, c2, c3⟩ hu
  rcases unit_two hab with rfl | rfl
  · left; rw [h1]; simp [tim]
  · right; exact h1
theorem par_dt {u v h : V3} (hv : ¬ (v.x = 0 ∧ v.y = 0 ∧ v.z = 0)) (hp : par u v) (h0 : dt h v = 0) : dt h u = 0 := by
  unfold par at hp
  unfold dt at *
  obtain ⟨p1, p2, p3⟩ := hp
  have e1 : v.x * (h.x * u.x + h.y * u.y + h.z * u.z) = 0 := by
    have : v.x * (h.x * u.x + h.y * u.y + h.z * u.z) = u.x * (h.x * v.x + h.y * v.y + h.z * v.z) := by grind
    rw [this, h0, Int.mul_zero]
  have e2 : v.y * (h.x * u.x + h.y * u.y + h.z * u.z) = 0 := by
    have : v.y * (h.x * u.x + h.y * u.y + h.z * u.z) = u.y * (h.x * v.x + h.y * v.y + h.z * v.z) := by grind
    rw [this, h0, Int.mul_zero]
  have e3 : v.z * (h.x * u.x + h.y * u.y + h.z * u.z) = 0 := by
    have : v.z * (h.x * u.x + h.y * u.y + h.z * u.z) = u.z * (h.x * v.x + h.y * v.y + h.z * v.z) := by grind
    rw [this, h0, Int.mul_zero]
  rcases Int.mul_eq_zero.1 e1 with c | c
  · rcases Int.mul_eq_zero.1 e2 with c2 | c2
    · rcases Int.mul_eq_zero.1 e3 with c3 | c3
      · exact absurd ⟨c, c2, c3⟩ hv
      · exact c3
    · exact c2
  · exact c
theorem par_symm {u v : V3} (h : par u v) : par v u := by
  unfold par at *
  exact ⟨by have := h.1; grind, by have := h.2.1; grind, by have := h.2.2; grind⟩
/-- parallel ones are the same, or opposite -/
theorem Gen.par_eq {r : Nat} {h : Nat → V3} {i a b : Nat} {u v : V3} (g1 : Gen r h i a u) (g2 : Gen r h i b v) (hp : par u v) : u = v ∨ u = tim (-1) v := by
  obtain ⟨m, hm⟩ := g2.gen u g1.hi (par_dt g2.nz hp g2.hj)
  obtain ⟨n, hn⟩ := g1.gen v g2.hi (par_dt g1.nz (par_symm hp) g1.hj)
  exact tim_two g1.nz hm hn
theorem Gen.opp {r : Nat} {h : Nat → V3} {i a b : Nat} {u v : V3} (g1 : Gen r h i a u) (g2 : Gen r h i b v) (e : u = tim (-1) v) : ∀ k, k < r → dt (h k) u = 0 := fun k hk => by
  have p1 := g1.pos k hk
  have p2 := g2.pos k hk
  rw [e, dt_tim] at p1 ⊢
  omega
/-- a ray on which all rows vanish: there is but one more, its opposite -/
theorem Gen.all0 {r : Nat} {h : Nat → V3} {i a b : Nat} {u v : V3} (g1 : Gen r h i a u) (g2 : Gen r h i b v) (h0 : ∀ k, k < r → dt (h k) u = 0) : u = v ∨ u = tim (-1) v := by
  obtain ⟨m, hm⟩ := g2.gen u g1.hi (h0 b g2.lt.2)
  have hm0 := tim_nz g1.nz hm
  have ha : dt (h a) v = 0 := by
    have := h0 a g1.lt.2
    rw [hm, dt_tim] at this
    rcases Int.mul_eq_zero.1 this with e | e
    · exact absurd e hm0
    · exact e
  obtain ⟨n, hn⟩ := g1.gen v g2.hi ha
  exact tim_two g1.nz hm hn
theorem tim_inj {u v w : V3} (h1 : u = tim (-1) v) (h2 : u = tim (-1) w) : v = w := by
  obtain ⟨a, b, c⟩ := v
  obtain ⟨d, e, f⟩ := w
  rw [h1] at h2
  simp only [tim, V3.mk.injEq] at h2 ⊢
  omega
/-- two parts of one sign and the third of the other -/
theorem Gen.split {r : Nat} {h : Nat → V3} {i a b c : Nat} {u v w : V3} {A B C : Int} (g1 : Gen r h i a u) (g2 : Gen r h i b v) (g3 : Gen r h i c w)
    (hs : ∀ k, A * dt (h k) u + B * dt (h k) v + C * dt (h k) w = 0) (hA : 0 < A) (hB : 0 < B) (np : ¬ par u w) : False := by
  have e := hs c
  rw [g3.hj, Int.mul_zero, Int.add_zero] at e
  have p1 := g1.pos c g3.lt.2
  have p2 := g2.pos c g3.lt.2
  have q1 := Int.mul_nonneg (Int.le_of_lt hA) p1
  have q2 := Int.mul_nonneg (Int.le_of_lt hB) p2
  have e1 : A * dt (h c) u = 0 := by omega
  rcases Int.mul_eq_zero.1 e1 with z | z
  · omega
  · obtain ⟨m, hm⟩ := g3.gen u g1.hi z
    apply np
    have : par (tim m w) (tim 1 w) := tim_par
    have e2 : tim 1 w = w := by simp [tim]
    rw [e2] at this
    rw [hm]; exact this
theorem Gen.three {r : Nat} {h : Nat → V3} {i a b c : Nat} {u v w : V3} (g1 : Gen r h i a u) (g2 : Gen r h i b v) (g3 : Gen r h i c w) (h1 : u ≠ v) (h2 : v ≠ w) (h3 : u ≠ w) : False := by
  -- none on which all rows vanish
  have n1 : ¬ ∀ k, k < r → dt (h k) u = 0 := fun hz => by
    have e1 := (g1.all0 g2 hz).resolve_left h1
    have e2 := (g1.all0 g3 hz).resolve_left h3
    exact h2 (tim_inj e1 e2)
  have n2 : ¬ ∀ k, k < r → dt (h k) v = 0 := fun hz => by
    have e1 := (g2.all0 g1 hz).resolve_left (Ne.symm h1)
    have e2 := (g2.all0 g3 hz).resolve_left h2
    exact h3 (tim_inj e1 e2)
  have p1 : ¬ par u v := fun hp => n1 (g1.opp g2 ((g1.par_eq g2 hp).resolve_left h1))
  have p2 : ¬ par v w := fun hp => n2 (g2.opp g3 ((g2.par_eq g3 hp).resolve_left h2))
  have p3 : ¬ par u w := fun hp => n1 (g1.opp g3 ((g1.par_eq g3 hp).resolve_left h3))
  -- a relation with three coefficients that are not 0
  obtain ⟨A, B, C, hA, hB, hC, hx, hy, hz⟩ : ∃ A B C : Int, A ≠ 0 ∧ B ≠ 0 ∧ C ≠ 0 ∧ A * u.x + B * v.x + C * w.x = 0 ∧ A * u.y + B * v.y + C * w.y = 0 ∧ A * u.z + B * v.z + C * w.z = 0 := by
    have r1 := g1.hi
    have r2 := g2.hi
    have r3 := g3.hi
    have hr := g1.row
    generalize h i = H at r1 r2 r3 hr
    unfold par at p1 p2 p3
    unfold dt at r1 r2 r3
    by_cases c1 : H.x = 0
    · by_cases c2 : H.y = 0
      · have c3 : H.z ≠ 0 := fun e => hr ⟨c1, c2, e⟩
        refine ⟨v.x * w.y - v.y * w.x, w.x * u.y - w.y * u.x, u.x * v.y - u.y * v.x, ?_, ?_, ?_, by grind, by grind, ?_⟩
        · intro e
          refine p2 ⟨?_, ?_, by omega⟩
          · have : H.z * (v.y * w.z - v.z * w.y) = 0 := by grind
            rcases Int.mul_eq_zero.1 this with f | f <;> omega
          · have : H.z * (v.z * w.x - v.x * w.z) = 0 := by grind
            rcases Int.mul_eq_zero.1 this with f | f <;> omega
        · intro e
          refine p3 ⟨?_, ?_, by grind⟩
          · have : H.z * (u.y * w.z - u.z * w.y) = 0 := by grind
            rcases Int.mul_eq_zero.1 this with f | f <;> omega
          · have : H.z * (u.z * w.x - u.x * w.z) = 0 := by grind
            rcases Int.mul_eq_zero.1 this with f | f <;> omega
        · intro e
          refine p1 ⟨?_, ?_, by omega⟩
          · have : H.z * (u.y * v.z - u.z * v.y) = 0 := by grind
            rcases Int.mul_eq_zero.1 this with f | f <;> omega
          · have : H.z * (u.z * v.x - u.x * v.z) = 0 := by grind
            rcases Int.mul_eq_zero.1 this with f | f <;> omega
        · have : H.z * ((v.x * w.y - v.y * w.x) * u.z + (w.x * u.y - w.y * u.x) * v.z + (u.x * v.y - u.y * v.x) * w.z) = 0 := by grind
          rcases Int.mul_eq_zero.1 this with f | f
          · omega
          · exact f
      · refine ⟨v.z * w.x - v.x * w.z, w.z * u.x - w.x * u.z, u.z * v.x - u.x * v.z, ?_, ?_, ?_, by grind, ?_, by grind⟩
        · intro e
          refine p2 ⟨?_, by omega, ?_⟩
          · have : H.y * (v.y * w.z - v.z * w.y) = 0 := by grind
            rcases Int.mul_eq_zero.1 this with f | f <;> omega
          · have : H.y * (v.x * w.y - v.y * w.x) = 0 := by grind
            rcases Int.mul_eq_zero.1 this with f | f <;> omega
        · intro e
          refine p3 ⟨?_, by grind, ?_⟩
          · have : H.y * (u.y * w.z - u.z * w.y) = 0 := by grind
            rcases Int.mul_eq_zero.1 this with f | f <;> omega
          · have : H.y * (u.x * w.y - u.y * w.x) = 0 := by grind
            rcases Int.mul_eq_zero.1 this with f | f <;> omega
        · intro e
          refine p1 ⟨?_, by omega, ?_⟩
          · have : H.y * (u.y * v.z - u.z * v.y) = 0 := by grind
            rcases Int.mul_eq_zero.1 this with f | f <;> omega
          · have : H.y * (u.x * v.y - u.y * v.x) = 0 := by grind
            rcases Int.mul_eq_zero.1 this with f | f <;> omega
        · have : H.y * ((v.z * w.x - v.x * w.z) * u.y + (w.z * u.x - w.x * u.z) * v.y + (u.z * v.x - u.x * v.z) * w.y) = 0 := by grind
          rcases Int.mul_eq_zero.1 this with f | f
          · omega
          · exact f
    · refine ⟨v.y * w.z - v.z * w.y, w.y * u.z - w.z * u.y, u.y * v.z - u.z * v.y, ?_, ?_, ?_, ?_, by grind, by grind⟩
      · intro e
        refine p2 ⟨by omega, ?_, ?_⟩
        · have : H.x * (v.z * w.x - v.x * w.z) = 0 := by grind
          rcases Int.mul_eq_zero.1 this with f | f <;> omega
        · have : H.x * (v.x * w.y - v.y * w.x) = 0 := by grind
          rcases Int.mul_eq_zero.1 this with f | f <;> omega
      · intro e
        refine p3 ⟨by grind, ?_, ?_⟩
        · have : H.x * (u.z * w.x - u.x * w.z) = 0 := by grind
          rcases Int.mul_eq_zero.1 this with f | f <;> omega
        · have : H.x * (u.x * w.y - u.y * w.x) = 0 := by grind
          rcases Int.mul_eq_zero.1 this with f | f <;> omega
      · intro e
        refine p1 ⟨by omega, ?_, ?_⟩
        · have : H.x * (u.z * v.x - u.x * v.z) = 0 := by grind
          rcases Int.mul_eq_zero.1 this with f | f <;> omega
        · have : H.x * (u.x * v.y - u.y * v.x) = 0 := by grind
          rcases Int.mul_eq_zero.1 this with f | f <;> omega
      · have : H.x * ((v.y * w.z - v.z * w.y) * u.x + (w.y * u.z - w.z * u.y) * v.x + (u.y * v.z - u.z * v.y) * w.x) = 0 := by grind
        rcases Int.mul_eq_zero.1 this with f | f
        · omega
        · exact f
  have hs : ∀ k, A * dt (h k) u + B * dt (h k) v + C * dt (h k) w = 0 := fun k => by
    unfold dt
    grind
  have hs' : ∀ k, -A * dt (h k) u + -B * dt (h k) v + -C * dt (h k) w = 0 := fun k => by have := hs k; grind
  have sw : ∀ {x y : V3}, ¬ par x y → ¬ par y x := fun hn hp => hn (par_symm hp)
  have allp : ∀ {A B C : Int}, (∀ k, A * dt (h k) u + B * dt (h k) v + C * dt (h k) w = 0) → 0 < A → 0 < B → 0 < C → False := fun {A B C} hs hA hB hC => n1 fun k hk => by
    have e := hs k
    have q1 := Int.mul_nonneg (Int.le_of_lt hA) (g1.pos k hk)
    have q2 := Int.mul_nonneg (Int.le_of_lt hB) (g2.pos k hk)
    have q3 := Int.mul_nonneg (Int.le_of_lt hC) (g3.pos k hk)
    have e1 : A * dt (h k) u = 0 := by omega
    rcases Int.mul_eq_zero.1 e1 with z | z
    · omega
    · exact z
  have two : ∀ {A B C : Int}, (∀ k, A * dt (h k) u + B * dt (h k) v + C * dt (h k) w = 0) → (0 < A ∧ 0 < B) ∨ (0 < B ∧ 0 < C) ∨ (0 < A ∧ 0 < C) → False := fun {A B C} hs hh => by
    rcases hh with ⟨a1, a2⟩ | ⟨a1, a2⟩ | ⟨a1, a2⟩
    · exact Gen.split g1 g2 g3 hs a1 a2 p3
    · exact Gen.split (A := B) (B := C) (C := A) g2 g3 g1 (fun k => by have := hs k; omega) a1 a2 (sw p1)
    · exact Gen.split (A := A) (B := C) (C := B) g1 g3 g2 (fun k => by have := hs k; omega) a1 a2 p1
  rcases Int.lt_or_gt_of_ne hA with a | a <;> rcases Int.lt_or_gt_of_ne hB with b | b <;> rcases Int.lt_or_gt_of_ne hC with c | c
  · exact two hs' (.inl ⟨by omega, by omega⟩)
  · exact two hs' (.inl ⟨by omega, by omega⟩)
  · exact two hs' (.inr (.inr ⟨by omega, by omega⟩))
  · exact two hs (.inr (.inl ⟨by omega, by omega⟩))
  · exact two hs' (.inr (.inl ⟨by omega, by omega⟩))
  · exact two hs (.inr (.inr ⟨by omega, by omega⟩))
  · exact two hs (.inl ⟨by omega, by omega⟩)
  · exact two hs (.inl ⟨by omega, by omega⟩)
end Go.Proofs.YtfkbjkmlpinoeaaGreat

/-
  PLAIN LAW: rows in lexicographic order, each once: sorted and made compact by the one, put into their places by the other.
-/
namespace Go.Proofs.YtfkbjkmlpinoeaaGreat

def cmpL : List Int → List Int → Int
  | [], [] => 0
  | [], _ :: _ => -1
  | _ :: _, [] => 1
  | a :: s, b :: t => if a < b then -1 else if b < a then 1 else cmpL s t
theorem cmpL_self : ∀ s, cmpL s s = 0
  | [] => rfl
  | a :: s => by simp [cmpL, cmpL_self s]
theorem cmpL_eq : ∀ {s t : List Int}, cmpL s t = 0 → s = t
  | [], [], _ => rfl
  | [], _ :: _, h => by simp [cmpL] at h
  | _ :: _, [], h => by simp [cmpL] at h
  | a :: s, b :: t, h => by
    rw [cmpL] at h
    split at h
    · omega
    · split at h
      · omega
      · rw [cmpL_eq h, show a = b by omega]
theorem cmpL_neg : ∀ (s t : List Int), cmpL t s = - cmpL s t
  | [], [] => rfl
  | [], _ :: _ => rfl
  | _ :: _, [] => rfl
  | a :: s, b :: t => by
    have := cmpL_neg s t
    simp only [cmpL]
    split <;> split <;> first | omega | (split <;> omega)
theorem cmpL_bd : ∀ (s t : List Int), cmpL s t = -1 ∨ cmpL s t = 0 ∨ cmpL s t = 1
  | [], [] => by simp [cmpL]
  | [], _ :: _ => by simp [cmpL]
  | _ :: _, [] => by simp [cmpL]
  | a :: s, b :: t => by
    rw [cmpL]
    split
    · simp
    · split
      · simp
      · exact cmpL_bd s t
theorem cmpL_trans : ∀ {s t u : List Int}, cmpL s t < 0 → cmpL t u < 0 → cmpL s u < 0
  | [], [], _, h, _ => by simp [cmpL] at h
  | [], _ :: _, [], _, h => by simp [cmpL] at h
  | [], _ :: _, _ :: _, _, _ => by simp [cmpL]
  | _ :: _, [], _, h, _ => by simp [cmpL] at h
  | _ :: _, _ :: _, [], _, h => by simp [cmpL] at h
  | a :: s, b :: t, c :: u, h1, h2 => by
    rw [cmpL] at h1 h2 ⊢
    split at h1
    · split at h2
      · rw [if_pos (by omega)]; omega
      · split at h2
        · omega
        · rw [if_pos (by omega)]; omega
    · split at h1
      · omega
      · split at h2
        · rw [if_pos (by omega)]; omega
        · split at h2
          · omega
          · rw [if_neg (by omega), if_neg (by omega)]
            exact cmpL_trans h1 h2
def StrictL (l : List (List Int)) : Prop := l.Pairwise fun x y => cmpL x y < 0
/-- strictly ordered lists with the same members are the same -/
theorem strict_ext : ∀ {l m : List (List Int)}, StrictL l → StrictL m → (∀ x, x ∈ l ↔ x ∈ m) → l = m
  | [], [], _, _, _ => rfl
  | [], y :: m, _, _, h => by have := (h y).2 (by simp); cases this
  | x :: l, [], _, _, h => by have := (h x).1 (by simp); cases this
  | x :: l, y :: m, h1, h2, h => by
    have a1 := List.pairwise_cons.1 h1
    have a2 := List.pairwise_cons.1 h2
    have e : x = y := by
      rcases List.mem_cons.1 ((h x).1 (by simp)) with e | e
      · exact e
      · rcases List.mem_cons.1 ((h y).2 (by simp)) with f | f
        · exact f.symm
        · have g1 := a2.1 x e
          have g2 := a1.1 y f
          have := cmpL_neg x y
          omega
    subst e
    rw [strict_ext a1.2 a2.2 fun z => ?_]
    constructor
    · intro hz
      rcases List.mem_cons.1 ((h z).1 (List.mem_cons_of_mem _ hz)) with e | e
      · subst e
        have := a1.1 z hz
        rw [cmpL_self] at this
        omega
      · exact e
    · intro hz
      rcases List.mem_cons.1 ((h z).2 (List.mem_cons_of_mem _ hz)) with e | e
      · subst e
        have := a2.1 z hz
        rw [cmpL_self] at this
        omega
      · exact e
/-- the reference's: a row into its place, once -/
def addL : List (List Int) → List Int → List (List Int)
  | [], v => [v]
  | x :: l, v => if cmpL x v < 0 then x :: addL l v else if cmpL v x < 0 then v :: x :: l else x :: l
theorem mem_addL : ∀ {l : List (List Int)} {v x : List Int}, x ∈ addL l v ↔ x = v ∨ x ∈ l
  | [], v, x => by simp [addL]
  | y :: l, v, x => by
    rw [addL]
    split
    · rw [List.mem_cons, mem_addL, List.mem_cons]
      constructor <;> (intro h; rcases h with h | h | h <;> simp [h])
    · split
      · simp
      · have : y = v := by
          have := cmpL_neg y v
          exact cmpL_eq (by omega)
        subst this
        simp
theorem addL_strict : ∀ {l : List (List Int)} {v : List Int}, StrictL l → StrictL (addL l v)
  | [], v, _ => by simp [addL, StrictL]
  | y :: l, v, h => by
    have a := List.pairwise_cons.1 h
    rw [addL]
    split
    · rename_i c
      refine List.pairwise_cons.2 ⟨fun z hz => ?_, addL_strict a.2⟩
      rcases mem_addL.1 hz with rfl | hz
      · exact c
      · exact a.1 z hz
    · split
      · rename_i c
        refine List.pairwise_cons.2 ⟨fun z hz => ?_, h⟩
        rcases List.mem_cons.1 hz with rfl | hz
        · exact c
        · exact cmpL_trans c (a.1 z hz)
      · exact h
theorem addL_len : ∀ (l : List (List Int)) (v : List Int), (addL l v).length ≤ l.length + 1
  | [], v => by simp [addL]
  | y :: l, v => by
    have := addL_len l v
    rw [addL]
    split
    · simp; omega
    · split <;> simp
def addsL (l : List (List Int)) : List (List Int) := l.foldl addL []
theorem foldL_strict : ∀ {l acc : List (List Int)}, StrictL acc → StrictL (l.foldl addL acc)
  | [], _, h => h
  | _ :: l, _, h => foldL_strict (l := l) (addL_strict h)
theorem mem_foldL : ∀ {l acc : List (List Int)} {x : List Int}, x ∈ l.foldl addL acc ↔ x ∈ acc ∨ x ∈ l
  | [], acc, x => by simp
  | y :: l, acc, x => by
    rw [List.foldl_cons, mem_foldL, mem_addL, List.mem_cons]
    constructor
    · rintro ((h | h) | h)
      · exact .inr (.inl h)
      · exact .inl h
      · exact .inr (.inr h)
    · rintro (h | h | h)
      · exact .inl (.inr h)
      · exact .inl (.inl h)
      · exact .inr h
theorem addsL_strict (l : List (List Int)) : StrictL (addsL l) := foldL_strict List.Pairwise.nil
theorem mem_addsL {l : List (List Int)} {x : List Int} : x ∈ addsL l ↔ x ∈ l := by simp [addsL, mem_foldL]
/-- the members of a strictly ordered list are as many as its places: a list with no three different members has at most two of them -/
theorem strict_two {l : List (List Int)} (hs : StrictL l) (h : ∀ x ∈ l, ∀ y ∈ l, ∀ z ∈ l, x ≠ y → y ≠ z → x ≠ z → False) : l.length ≤ 2 := by
  match l, hs, h with
  | [], _, _ => simp
  | [_], _, _ => simp
  | [_, _], _, _ => simp
  | x :: y :: z :: l, hs, h =>
    have a1 := List.pairwise_cons.1 hs
    have a2 := List.pairwise_cons.1 a1.2
    have ne : ∀ {p q : List Int}, cmpL p q < 0 → p ≠ q := fun hc e => by subst e; rw [cmpL_self] at hc; omega
    exact (h x (by simp) y (by simp) z (by simp) (ne (a1.1 y (by simp))) (ne (a2.1 z (by simp))) (ne (a1.1 z (by simp)))).elim
theorem StrictL.filter {l : List (List Int)} (hs : StrictL l) (p : List Int → Bool) : StrictL (l.filter p) := List.Pairwise.filter p hs
/-- a list whose members all belong to one of n groups of at most b members -/
theorem groups_len {l : List (List Int)} (n b : Nat) (G : Nat → List Int → Prop) (hG : ∀ x ∈ l, ∃ i, i < n ∧ G i x) (hb : ∀ i, i < n → ∀ m : List (List Int), m.Sublist l → (∀ x ∈ m, G i x) → m.length ≤ b) : l.length ≤ n * b := by
  induction n generalizing l with
  | zero =>
    cases l with
    | nil => simp
    | cons x l => obtain ⟨i, hi, _⟩ := hG x (by simp); omega
  | succ n ih =>
    classical
    have e : l.length = (l.filter fun x => decide (G n x)).length + (l.filter fun x => !decide (G n x)).length := by
      clear hG hb ih
      induction l with
      | nil => simp
      | cons x l ih => by_cases c : G n x <;> simp [c] <;> omega
    have h1 := hb n (by omega) (l.filter fun x => decide (G n x)) List.filter_sublist fun x hx => by simpa using (List.mem_filter.1 hx).2
    have h2 := ih (l := l.filter fun x => !decide (G n x)) (fun x hx => by
      obtain ⟨hx1, hx2⟩ := List.mem_filter.1 hx
      obtain ⟨i, hi, hg⟩ := hG x hx1
      refine ⟨i, ?_, hg⟩
      rcases Nat.lt_or_ge i n with c | c
      · exact c
      · obtain rfl : i = n := by omega
        simp [hg] at hx2) fun i hi m hm hx => hb i (by omega) m (hm.trans List.filter_sublist) hx
    rw [Nat.succ_mul]; omega
theorem adds_two {l : List (List Int)} (h : ∀ x ∈ l, ∀ y ∈ l, ∀ z ∈ l, x ≠ y → y ≠ z → x ≠ z → False) : (addsL l).length ≤ 2 :=
  strict_two (addsL_strict l) fun x hx y hy z hz => h x (mem_addsL.1 hx) y (mem_addsL.1 hy) z (mem_addsL.1 hz)
theorem adds_groups {l : List (List Int)} (n : Nat) (G : Nat → List Int → Prop) (hG : ∀ x ∈ l, ∃ i, i < n ∧ G i x) (h : ∀ i, i < n → ∀ x y z, G i x → G i y → G i z → x ≠ y → y ≠ z → x ≠ z → False) : (addsL l).length ≤ n * 2 :=
  groups_len n 2 G (fun x hx => hG x (mem_addsL.1 hx)) fun i hi m hm hx => strict_two (List.Pairwise.sublist hm (addsL_strict l)) fun x h1 y h2 z h3 => h i hi x y z (hx x h1) (hx y h2) (hx z h3)

end Go.Proofs.YtfkbjkmlpinoeaaGreat

/-
  PLAIN LAW: the vectors of a box, in lexicographic order; lists of rows.
-/
namespace Go.Proofs.YtfkbjkmlpinoeaaGreat
open Go.RowKit

def widW (lo hi : List Int) (k : Nat) : Int := hi.getD k 0 - lo.getD k 0 + 1
def cntW (lo hi : List Int) : Nat → Int
  | 0 => 1
  | k + 1 => cntW lo hi k * widW lo hi k
def spanL (a : Int) (n : Nat) : List Int := (List.range n).map fun m : Nat => a + (m : Int)
def extL (lo hi : List Int) (k : Nat) (v : List Int) : List (List Int) := (spanL (lo.getD k 0) (widW lo hi k).toNat).map fun n => v ++ [n]
def boxTo (lo hi : List Int) : Nat → List (List Int)
  | 0 => [[]]
  | k + 1 => (boxTo lo hi k).flatMap (extL lo hi k)
def okTo (lo hi : List Int) : Nat → Bool
  | 0 => true
  | k + 1 => okTo lo hi k && decide (cntW lo hi (k + 1) ≤ 4000)
def boxO (lo hi : List Int) : Option (List (List Int)) := if okTo lo hi lo.length then some (boxTo lo hi lo.length) else none
theorem extL_len {lo hi : List Int} {k : Nat} {v : List Int} : (extL lo hi k v).length = (widW lo hi k).toNat := by simp [extL, spanL]
theorem flat_const {α β : Type} {f : α → List β} {n : Nat} (h : ∀ x, (f x).length = n) : ∀ (l : List α), (l.flatMap f).length = l.length * n
  | [] => by simp
  | x :: l => by rw [List.flatMap_cons, List.length_append, h, flat_const h l, List.length_cons, Nat.succ_mul]; omega
theorem box_len {lo hi : List Int} (hw : ∀ k, k < lo.length → 1 ≤ widW lo hi k) : ∀ k, k ≤ lo.length → ((boxTo lo hi k).length : Int) = cntW lo hi k ∧ 1 ≤ cntW lo hi k
  | 0, _ => by simp [boxTo, cntW]
  | k + 1, h => by
    obtain ⟨h1, h2⟩ := box_len hw k (by omega)
    have h3 := hw k (by omega)
    have e : ((widW lo hi k).toNat : Int) = widW lo hi k := by omega
    refine ⟨?_, ?_⟩
    · rw [boxTo, flat_const fun v => extL_len, cntW, ← h1, Int.natCast_mul, e]
    · rw [cntW]
      have := Int.mul_le_mul h2 h3 (by omega) (by omega)
      omega
theorem okTo_mono {lo hi : List Int} {k : Nat} (h : okTo lo hi k = false) : ∀ m, okTo lo hi (k + m) = false
  | 0 => h
  | m + 1 => by rw [← Nat.add_assoc, okTo, okTo_mono h m]; rfl
theorem boxO_no {lo hi : List Int} {k : Nat} (hk : k ≤ lo.length) (h : okTo lo hi k = false) : boxO lo hi = none := by
  have := okTo_mono h (lo.length - k)
  rw [show k + (lo.length - k) = lo.length by omega] at this
  simp [boxO, this]
theorem okTo_cnt {lo hi : List Int} : ∀ {k : Nat}, okTo lo hi k = true → cntW lo hi k ≤ 4000
  | 0, _ => by simp [cntW]
  | k + 1, h => by simp only [okTo, Bool.and_eq_true, decide_eq_true_eq] at h; exact h.2
def rowsX (l : List Row) : List (List Int) := l.map Row.xs
/-- what the box gives back: headers, and the rows asleep -/
def BoxR (th t : TypeId) (L : List (List Int)) (k : Nat) (v : AV) (Hout : List (Nat × Blk)) (n1 : Nat) : Prop := ∃ l cap, rowsX l = L ∧ v = .tup [.one (.sl k 1 0 l.length cap), .one (.bool true)] ∧ Hout = [(k, .own th cap (.rows false true l)), (k + 1, .tok t false l)] ∧ n1 = k + 2
theorem span_bd {lo hi : List Int} {k : Nat} (h : ∀ n ∈ lo, numB n = true) (h' : ∀ n ∈ hi, numB n = true) (hk : k < lo.length) (hl : lo.length = hi.length) : (-400000000 ≤ lo[k] ∧ lo[k] ≤ 400000000) ∧ (-400000000 ≤ hi[k] ∧ hi[k] ≤ 400000000) :=
  ⟨numB_true.1 (h _ (List.getElem_mem hk)), numB_true.1 (h' _ (List.getElem_mem (by omega)))⟩
theorem widW_at {lo hi : List Int} {k : Nat} (hk : k < lo.length) (hk' : k < hi.length) : widW lo hi k = hi[k] - lo[k] + 1 := by simp [widW, hk, hk']
theorem box_row {lo hi : List Int} : ∀ {k : Nat}, ∀ v ∈ boxTo lo hi k, v.length = k
  | 0, v, h => by simp [boxTo] at h; simp [h]
  | k + 1, v, h => by
    simp only [boxTo, extL, List.mem_flatMap, List.mem_map] at h
    obtain ⟨u, hu, n, _, rfl⟩ := h
    simp [box_row u hu]
theorem spanL_next {a : Int} {m : Nat} : spanL a (m + 1) = spanL a m ++ [a + (m : Int)] := by simp [spanL, List.range_succ]
/-- the new rows: those of the first j rows whole, m of the next one -/
def midL (lo hi : List Int) (i j m : Nat) : List (List Int) := ((boxTo lo hi i).take j).flatMap (extL lo hi i) ++ (spanL (lo.getD i 0) m).map fun n => (boxTo lo hi i).getD j [] ++ [n]
theorem midL_zero {lo hi : List Int} {i j : Nat} : midL lo hi i j 0 = ((boxTo lo hi i).take j).flatMap (extL lo hi i) := by simp [midL, spanL]
theorem midL_next {lo hi : List Int} {i j m : Nat} : midL lo hi i j (m + 1) = midL lo hi i j m ++ [(boxTo lo hi i).getD j [] ++ [lo.getD i 0 + (m : Int)]] := by
  simp [midL, spanL_next]
theorem midL_row {lo hi : List Int} {i j : Nat} (hj : j < (boxTo lo hi i).length) : midL lo hi i j (widW lo hi i).toNat = midL lo hi i (j + 1) 0 := by
  rw [midL_zero, List.take_succ_eq_append_getElem hj, List.flatMap_append]
  simp [midL, extL, hj]
theorem midL_full {lo hi : List Int} {i : Nat} : midL lo hi i (boxTo lo hi i).length 0 = boxTo lo hi (i + 1) := by rw [midL_zero, List.take_length, boxTo]
theorem midL_len {lo hi : List Int} {i j m : Nat} (hj : j < (boxTo lo hi i).length) (hm : m ≤ (widW lo hi i).toNat) : (midL lo hi i j m).length ≤ (boxTo lo hi i).length * (widW lo hi i).toNat := by
  have h1 : (midL lo hi i j m).length = j * (widW lo hi i).toNat + m := by
    rw [midL, List.length_append, flat_const fun v => extL_len, List.length_take, Nat.min_eq_left (by omega)]
    simp [spanL]
  have h2 : (j + 1) * (widW lo hi i).toNat ≤ (boxTo lo hi i).length * (widW lo hi i).toNat := Nat.mul_le_mul_right _ hj
  rw [Nat.succ_mul] at h2
  omega
theorem rowsX_len {l : List Row} {L : List (List Int)} (h : rowsX l = L) : l.length = L.length := by rw [← h]; simp [rowsX]
theorem rowsX_at {l : List Row} {L : List (List Int)} (h : rowsX l = L) {j : Nat} (hj : j < l.length) : (l.getD (0 + (j : Int).toNat) rowD).xs = L.getD j [] := by
  rw [← h]; simp [rowsX, hj]
theorem midL_eq {lo hi : List Int} {i j m : Nat} (hj : j < (boxTo lo hi i).length) : (midL lo hi i j m).length = j * (widW lo hi i).toNat + m := by
  rw [midL, List.length_append, flat_const fun v => extL_len, List.length_take, Nat.min_eq_left (by omega)]
  simp [spanL]
end Go.Proofs.YtfkbjkmlpinoeaaGreat

/-
  PLAIN LAW: the ascending choices of k of n numbers, in order.
-/
namespace Go.Proofs.YtfkbjkmlpinoeaaGreat

theorem getD_in {α : Type} {l : List α} {i : Nat} {d : α} (h : i < l.length) : l.getD i d = l[i] := by simp [h]
theorem getD_appL {α : Type} {l m : List α} {i : Nat} {d : α} (h : i < l.length) : (l ++ m).getD i d = l.getD i d := by
  rw [List.getD_eq_getElem?_getD, List.getElem?_append_left h, ← List.getD_eq_getElem?_getD]
theorem getD_appR {α : Type} {l m : List α} {i : Nat} {d : α} (h : l.length ≤ i) : (l ++ m).getD i d = m.getD (i - l.length) d := by
  rw [List.getD_eq_getElem?_getD, List.getElem?_append_right h, ← List.getD_eq_getElem?_getD]
/-- the first number that may follow -/
def fromI (v : List Int) (k : Nat) : Int := if 0 < k then v.getD (k - 1) 0 + 1 else 0
def extC (n k : Nat) (v : List Int) : List (List Int) := (spanL (fromI v k) ((n : Int) - fromI v k).toNat).map fun x => v ++ [x]
def chTo (n : Nat) : Nat → List (List Int)
  | 0 => [[]]
  | k + 1 => (chTo n k).flatMap (extC n k)
theorem fromI_snoc {u : List Int} {k : Nat} {x : Int} (h : u.length = k) : fromI (u ++ [x]) (k + 1) = x + 1 := by
  subst h
  simp [fromI]
theorem chTo_mem {n : Nat} : ∀ {k : Nat} {v : List Int}, v ∈ chTo n k → v.length = k ∧ (∀ x ∈ v, 0 ≤ x ∧ x < (n : Int)) ∧ 0 ≤ fromI v k ∧ fromI v k ≤ n
  | 0, v, h => by
    simp only [chTo, List.mem_singleton] at h
    subst h
    simp [fromI]
  | k + 1, v, h => by
    simp only [chTo, extC, spanL, List.mem_flatMap, List.mem_map, List.mem_range] at h
    obtain ⟨u, hu, x, ⟨m, hm, rfl⟩, rfl⟩ := h
    obtain ⟨h1, h2, h3, h4⟩ := chTo_mem hu
    refine ⟨by simp [h1], fun x hx => ?_, ?_, ?_⟩
    · rcases List.mem_append.1 hx with hx | hx
      · exact h2 x hx
      · have := List.mem_singleton.1 hx
        omega
    · rw [fromI_snoc h1]; omega
    · rw [fromI_snoc h1]; omega
theorem extC_len (n k : Nat) (v : List Int) (h : 0 ≤ fromI v k) : (extC n k v).length ≤ n := by simp [extC, spanL]; omega
theorem chFlat_len {n k : Nat} : ∀ {l : List (List Int)}, (∀ v ∈ l, v ∈ chTo n k) → (l.flatMap (extC n k)).length ≤ l.length * n
  | [], _ => by simp
  | v :: l, h => by
    have h1 := extC_len n k v (chTo_mem (h v (by simp))).2.2.1
    have h2 := chFlat_len (l := l) fun u hu => h u (by simp [hu])
    rw [List.flatMap_cons, List.length_append, List.length_cons, Nat.succ_mul]; omega
theorem chTo_len {n : Nat} (hn : n ≤ 8) : ∀ {k : Nat}, k ≤ 2 → (chTo n k).length ≤ 64 ∧ (k = 0 → (chTo n k).length = 1) ∧ (k = 1 → (chTo n k).length ≤ 8)
  | 0, _ => by simp [chTo]
  | 1, _ => by
    have := chFlat_len (n := n) (k := 0) (l := chTo n 0) fun v h => h
    simp only [chTo, List.length_singleton, Nat.one_mul] at this ⊢
    omega
  | 2, _ => by
    have h1 := (chTo_len hn (k := 1) (by omega)).2.2 rfl
    have := chFlat_len (n := n) (k := 1) (l := chTo n 1) fun v h => h
    have h2 := Nat.mul_le_mul h1 hn
    rw [chTo]
    omega
/-- the new choices: those of the first j whole, m of the next one -/
def midC (n k j m : Nat) : List (List Int) := ((chTo n k).take j).flatMap (extC n k) ++ (spanL (fromI ((chTo n k).getD j []) k) m).map fun x => (chTo n k).getD j [] ++ [x]
theorem midC_zero {n k j : Nat} : midC n k j 0 = ((chTo n k).take j).flatMap (extC n k) := by simp [midC, spanL]
theorem midC_next {n k j m : Nat} : midC n k j (m + 1) = midC n k j m ++ [(chTo n k).getD j [] ++ [fromI ((chTo n k).getD j []) k + (m : Int)]] := by
  simp [midC, spanL_next]
theorem midC_row {n k j : Nat} (hj : j < (chTo n k).length) : midC n k j ((n : Int) - fromI ((chTo n k).getD j []) k).toNat = midC n k (j + 1) 0 := by
  rw [midC_zero, List.take_succ_eq_append_getElem hj, List.flatMap_append]
  simp [midC, extC, hj]
theorem midC_full {n k : Nat} : midC n k (chTo n k).length 0 = chTo n (k + 1) := by rw [midC_zero, List.take_length, chTo]
theorem midC_len {n k j m : Nat} (hn : n ≤ 8) (hk : k ≤ 1) (hj : j ≤ (chTo n k).length) (hm : m ≤ 8) : (midC n k j m).length ≤ 1000 := by
  have h1 := chFlat_len (n := n) (k := k) (l := (chTo n k).take j) fun v h => List.mem_of_mem_take h
  have h2 := (chTo_len hn (k := k) (by omega)).1
  have h3 : ((chTo n k).take j).length ≤ 64 := by rw [List.length_take]; omega
  have h4 := Nat.mul_le_mul h3 hn
  simp only [midC, List.length_append, List.length_map, spanL, List.length_range]
  omega
theorem mem_span {a x : Int} {n : Nat} : x ∈ spanL a n ↔ a ≤ x ∧ x < a + n := by
  simp only [spanL, List.mem_map, List.mem_range]
  constructor
  · rintro ⟨m, hm, rfl⟩; omega
  · rintro ⟨h1, h2⟩; exact ⟨(x - a).toNat, by omega, by omega⟩
theorem chTo_next {n k : Nat} {v : List Int} {x : Int} (h : v ∈ chTo n k) (h1 : fromI v k ≤ x) (h2 : x < n) : v ++ [x] ∈ chTo n (k + 1) := by
  rw [chTo, List.mem_flatMap]
  refine ⟨v, h, ?_⟩
  rw [extC, List.mem_map]
  exact ⟨x, mem_span.2 ⟨h1, by omega⟩, rfl⟩
theorem chTo_one {n i : Nat} (h : i < n) : [(i : Int)] ∈ chTo n 1 := by
  have := chTo_next (n := n) (k := 0) (v := []) (x := i) (by simp [chTo]) (by simp [fromI]) (by omega)
  simpa using this
theorem chTo_two {n i j : Nat} (h : i < j) (h2 : j < n) : [(i : Int), (j : Int)] ∈ chTo n 2 := by
  have := chTo_next (n := n) (k := 1) (v := [(i : Int)]) (x := j) (chTo_one (by omega)) (by simp [fromI]; omega) (by omega)
  simpa using this
end Go.Proofs.YtfkbjkmlpinoeaaGreat
