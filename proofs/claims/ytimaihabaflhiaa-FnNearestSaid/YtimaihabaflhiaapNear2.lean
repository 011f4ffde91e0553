/-
  PLAIN LAW of nearest ratios: none of the ratios with a denominator up to the bound is nearer than the one that is found.
-/
import Derived.Test.YtimaihabaflhiaapNear
set_option linter.unusedVariables false
set_option linter.unusedSimpArgs false
namespace Go.Proofs.Ytimaihabaflhiaa

theorem near_mem {N D : Int} (hN : -10000 ≤ N ∧ N ≤ 10000) (hD : 1 ≤ D) {B : Nat} (h1 : 1 ≤ B) (h2 : B ≤ 100) :
    (ratioB (minN N D (lstTo N D B)).1 (minN N D (lstTo N D B)).2 = true ∧ (minN N D (lstTo N D B)).2 ≤ B) ∧ ∀ y ∈ lstTo N D B, dis N D (minN N D (lstTo N D B)) * y.2 ≤ dis N D y * (minN N D (lstTo N D B)).2 := by
  have hne : lstTo N D B ≠ [] := by
    intro e
    have := (mem_lstTo (N := N) (D := D) (i := 0) (k := B) (by omega)).1
    rw [e] at this; cases this
  have hall := lst_all hN hD h2
  obtain ⟨g1, g2⟩ := minN_good (N := N) (D := D) hne (fun y hy => (ratioB_true (hall y hy).1).1)
  refine ⟨hall _ g1, fun y hy => ?_⟩
  have := g2 y hy
  rw [cmp_lt] at this
  omega
theorem dis_scale {N D n q k a b : Int} (hk : 1 ≤ k) (h1 : n = k * a) (h2 : q = k * b) : ((n * D - N * q).natAbs : Int) = k * dis N D (a, b) := by
  have e : n * D - N * q = k * (a * D - N * b) := by rw [h1, h2, Int.mul_sub, Int.mul_assoc, Int.mul_left_comm k N b]
  rw [e, Int.natAbs_mul]
  simp only [dis]
  push_cast
  rw [show ((k.natAbs : Nat) : Int) = k by omega]
theorem near_all {N D : Int} (hN : -10000 ≤ N ∧ N ≤ 10000) (hD : 1 ≤ D) {B : Nat} (h1 : 1 ≤ B) (h2 : B ≤ 100) {p q : Int} (hq1 : 1 ≤ q) (hq2 : q ≤ B) :
    dis N D (minN N D (lstTo N D B)) * q ≤ dis N D (p, q) * (minN N D (lstTo N D B)).2 := by
  obtain ⟨⟨m1, m2⟩, m3⟩ := near_mem hN hD h1 h2
  obtain ⟨m4, _⟩ := ratioB_true m1
  generalize minN N D (lstTo N D B) = M at *
  obtain ⟨i, hi⟩ : ∃ i : Nat, q = (i : Int) + 1 := ⟨(q - 1).toNat, by omega⟩
  have hib : i < B := by omega
  have hl := lo_num hN hD (d := q) hq1 (by omega)
  have hf := (floor_iff (x := N * q) (q := N * q / D) hD).1 rfl
  obtain ⟨a1, a2⟩ := mem_lstTo (N := N) (D := D) hib
  unfold entA at a1
  unfold entB at a2
  rw [← hi] at a1 a2
  have key : ∀ n : Int, numB n = true → mkR n q ∈ lstTo N D B → dis N D M * q ≤ ((n * D - N * q).natAbs : Int) * M.2 := fun n hn hm => by
    obtain ⟨k, k1, k2, k3, k4⟩ := mk_spec (n := n) (d := q) hq1 (by omega) hn
    have := m3 _ hm
    rw [dis_scale k1 k2 k3]
    have hmul := Int.mul_le_mul_of_nonneg_left this (show 0 ≤ k by omega)
    have e1 : k * (dis N D M * (mkR n q).2) = dis N D M * q := by rw [Int.mul_left_comm, ← k3]
    have e2 : k * (dis N D ((mkR n q).1, (mkR n q).2) * M.2) = k * dis N D ((mkR n q).1, (mkR n q).2) * M.2 := (Int.mul_assoc _ _ _).symm
    rw [e1] at hmul
    rw [← e2]
    exact hmul
  generalize N * q / D = f at *
  have hM : 0 ≤ M.2 := by omega
  rcases Int.lt_or_le f p with c | c
  · have hk := key (f + 1) (numB_true.2 (by omega)) a2
    have hle := Int.mul_le_mul_of_nonneg_right (show f + 1 ≤ p by omega) (show 0 ≤ D by omega)
    have e3 : D * (f + 1) = (f + 1) * D := Int.mul_comm ..
    have : (((f + 1) * D - N * q).natAbs : Int) ≤ dis N D (p, q) := by simp only [dis]; omega
    exact Int.le_trans hk (Int.mul_le_mul_of_nonneg_right this hM)
  · have hk := key f (numB_true.2 (by omega)) a1
    have hle := Int.mul_le_mul_of_nonneg_right c (show 0 ≤ D by omega)
    have e3 : D * f = f * D := Int.mul_comm ..
    have : ((f * D - N * q).natAbs : Int) ≤ dis N D (p, q) := by simp only [dis]; omega
    exact Int.le_trans hk (Int.mul_le_mul_of_nonneg_right this hM)
theorem ratio_unique {a b c d : Int} (h1 : ratioB a b = true) (h2 : ratioB c d = true) (h : a * d = c * b) : a = c ∧ b = d := by
  obtain ⟨p1, p2, p3, p4, p5⟩ := ratioB_true h1
  obtain ⟨q1, q2, q3, q4, q5⟩ := ratioB_true h2
  have hn : a.natAbs * d.natAbs = c.natAbs * b.natAbs := by rw [← Int.natAbs_mul, ← Int.natAbs_mul, h]
  have c1 : Nat.Coprime a.natAbs b.natAbs := by have := p5; simp only [Int.gcd] at this; unfold Nat.Coprime; omega
  have c2 : Nat.Coprime c.natAbs d.natAbs := by have := q5; simp only [Int.gcd] at this; unfold Nat.Coprime; omega
  have d1 : b.natAbs ∣ d.natAbs := c1.symm.dvd_of_dvd_mul_left ⟨c.natAbs, by rw [hn, Nat.mul_comm]⟩
  have d2 : d.natAbs ∣ b.natAbs := c2.symm.dvd_of_dvd_mul_left ⟨a.natAbs, by rw [← hn, Nat.mul_comm]⟩
  have e := Nat.dvd_antisymm d1 d2
  have hbd : b = d := by omega
  subst hbd
  exact ⟨Int.eq_of_mul_eq_mul_right (by omega) h, rfl⟩
theorem near_self {N D : Int} (hr : ratioB N D = true) (hN : -10000 ≤ N ∧ N ≤ 10000) (hD : 1 ≤ D) {B : Nat} (h1 : 1 ≤ B) (h2 : B ≤ 100) (hb : D ≤ B) : minN N D (lstTo N D B) = (N, D) := by
  obtain ⟨⟨m1, m2⟩, _⟩ := near_mem hN hD h1 h2
  have h := near_all hN hD h1 h2 (p := N) hD hb
  obtain ⟨m4, _⟩ := ratioB_true m1
  generalize minN N D (lstTo N D B) = M at *
  have e0 : dis N D (N, D) = 0 := by simp [dis]
  rw [e0, Int.zero_mul] at h
  have hz : dis N D M = 0 := by
    have h0 : 0 ≤ dis N D M := by simp only [dis]; omega
    rcases Int.lt_or_eq_of_le h0 with c | c
    · have := Int.mul_le_mul_of_nonneg_right (show 1 ≤ dis N D M by omega) (show 0 ≤ D by omega)
      omega
    · exact c.symm
  have he : M.1 * D = N * M.2 := by simp only [dis] at hz; omega
  obtain ⟨u1, u2⟩ := ratio_unique m1 hr he
  exact Prod.ext u1 u2
theorem low_spec {n d : Int} (hd : 0 < d) (h : ratioB (lowR n d).1 (lowR n d).2 = true) : ∃ g : Int, 1 ≤ g ∧ n = g * (lowR n d).1 ∧ d = g * (lowR n d).2 := by
  have hg := gcd_pos_of (n := n) (d := d) (by omega)
  have e1 := Int.mul_tdiv_cancel' (Int.gcd_dvd_left (a := n) (b := d))
  have e2 := Int.mul_tdiv_cancel' (Int.gcd_dvd_right (a := n) (b := d))
  rw [lowR_pos hd] at h ⊢
  unfold redR at h ⊢
  split at h
  · rename_i hh
    rw [if_pos hh]
    exact ⟨_, by omega, e1.symm, e2.symm⟩
  · simp [ratioB] at h
theorem add_cmp {N D : Int} (hr : ratioB N D = true) (hN : -10000 ≤ N ∧ N ≤ 10000) (hD : 1 ≤ D) {B : Nat} (h1 : 1 ≤ B) (h2 : B ≤ 100) {p q : Int} (hpq : ratioB p q = true) (hq2 : q ≤ B)
    (ha : ratioB (addR (minN N D (lstTo N D B)).1 (minN N D (lstTo N D B)).2 (-N) D).1 (addR (minN N D (lstTo N D B)).1 (minN N D (lstTo N D B)).2 (-N) D).2 = true) (hb : ratioB (addR p q (-N) D).1 (addR p q (-N) D).2 = true) :
    ((addR (minN N D (lstTo N D B)).1 (minN N D (lstTo N D B)).2 (-N) D).1.natAbs : Int) * (addR p q (-N) D).2 ≤ ((addR p q (-N) D).1.natAbs : Int) * (addR (minN N D (lstTo N D B)).1 (minN N D (lstTo N D B)).2 (-N) D).2 := by
  obtain ⟨⟨m1, m2⟩, _⟩ := near_mem hN hD h1 h2
  obtain ⟨q1, _⟩ := ratioB_true hpq
  have h := near_all hN hD h1 h2 (p := p) q1 hq2
  obtain ⟨m4, _⟩ := ratioB_true m1
  generalize minN N D (lstTo N D B) = M at *
  obtain ⟨x, y⟩ := M
  dsimp only at *
  have hneg : ratioB (-N) D = true := by
    obtain ⟨r1, r2, r3, r4, r5⟩ := ratioB_true hr
    simp only [ratioB, Bool.and_eq_true, decide_eq_true_eq, beq_iff_eq]
    rw [Int.neg_gcd]
    refine ⟨by omega, by omega⟩
  have f : ∀ u v : Int, ratioB u v = true → addR u v (-N) D = lowR (u * D + -N * v) (v * D) := fun u v hu => by simp [addR, hu, hneg]
  rw [f x y m1] at ha ⊢
  rw [f p q hpq] at hb ⊢
  obtain ⟨g, g1, g2, g3⟩ := low_spec (Int.mul_pos (by omega) (by omega)) ha
  obtain ⟨k, k1, k2, k3⟩ := low_spec (Int.mul_pos (by omega) (by omega)) hb
  generalize lowR (x * D + -N * y) (y * D) = a at *
  generalize lowR (p * D + -N * q) (q * D) = b at *
  have d1 : dis N D (x, y) = g * (a.1.natAbs : Int) := by
    have e : x * D - N * y = g * a.1 := by rw [← g2, Int.neg_mul]; rfl
    simp only [dis, e, Int.natAbs_mul]
    push_cast
    rw [show ((g.natAbs : Nat) : Int) = g by omega]
  have d2 : dis N D (p, q) = k * (b.1.natAbs : Int) := by
    have e : p * D - N * q = k * b.1 := by rw [← k2, Int.neg_mul]; rfl
    simp only [dis, e, Int.natAbs_mul]
    push_cast
    rw [show ((k.natAbs : Nat) : Int) = k by omega]
  rw [d1, d2] at h
  have h5 := Int.mul_le_mul_of_nonneg_right h (show 0 ≤ D by omega)
  have e1 : g * (a.1.natAbs : Int) * q * D = g * k * ((a.1.natAbs : Int) * b.2) := by
    rw [Int.mul_assoc _ q D, k3]; grind
  have e2 : k * (b.1.natAbs : Int) * y * D = g * k * ((b.1.natAbs : Int) * a.2) := by
    rw [Int.mul_assoc _ y D, g3]; grind
  rw [e1, e2] at h5
  exact Int.le_of_mul_le_mul_left h5 (Int.mul_pos (by omega) (by omega))
end Go.Proofs.Ytimaihabaflhiaa
