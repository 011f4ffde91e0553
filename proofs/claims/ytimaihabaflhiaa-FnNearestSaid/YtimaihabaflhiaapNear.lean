/-
  THE PLAIN LAW of nearest ratios: the first nearest ratio in lowest terms is the least one of the list. No program in sight.
-/
import Derived.Test.YtimaihabaflhiaapMk
set_option linter.unusedVariables false
set_option linter.unusedSimpArgs false
namespace Go.Proofs.Ytimaihabaflhiaa

def dis (N D : Int) (p : Int × Int) : Int := ((p.1 * D - N * p.2).natAbs : Int)
def cmpR (N D : Int) (a b : Int × Int) : Int := if dis N D a * b.2 ≠ dis N D b * a.2 then dis N D a * b.2 - dis N D b * a.2 else if a.2 ≠ b.2 then a.2 - b.2 else a.1 - b.1
def stepN (N D : Int) (m x : Int × Int) : Int × Int := if cmpR N D x m < 0 then x else m
def minN (N D : Int) : List (Int × Int) → Int × Int
  | [] => (0, 0)
  | x :: l => l.foldl (stepN N D) x
theorem minN_app {N D : Int} {x : Int × Int} : ∀ {l : List (Int × Int)}, l ≠ [] → minN N D (l ++ [x]) = stepN N D (minN N D l) x
  | y :: l, _ => by simp [minN, List.foldl_append]
theorem cmp_lt {N D : Int} {a b : Int × Int} : cmpR N D a b < 0 ↔ dis N D a * b.2 < dis N D b * a.2 ∨ (dis N D a * b.2 = dis N D b * a.2 ∧ (a.2 < b.2 ∨ (a.2 = b.2 ∧ a.1 < b.1))) := by
  unfold cmpR
  split
  · omega
  · split <;> omega
theorem cmp_trans {N D : Int} {a b c : Int × Int} (ha : 1 ≤ a.2) (hb : 1 ≤ b.2) (hc : 1 ≤ c.2) (h1 : cmpR N D a b < 0) (h2 : cmpR N D b c < 0) : cmpR N D a c < 0 := by
  rw [cmp_lt] at h1 h2 ⊢
  have q1 : dis N D a * b.2 ≤ dis N D b * a.2 := by omega
  have q2 : dis N D b * c.2 ≤ dis N D c * b.2 := by omega
  have m1 := Int.mul_le_mul_of_nonneg_right q1 (show 0 ≤ c.2 by omega)
  have m2 := Int.mul_le_mul_of_nonneg_right q2 (show 0 ≤ a.2 by omega)
  have e1 : dis N D a * b.2 * c.2 = dis N D a * c.2 * b.2 := by rw [Int.mul_right_comm]
  have e2 : dis N D b * a.2 * c.2 = dis N D b * c.2 * a.2 := by rw [Int.mul_right_comm]
  have e3 : dis N D c * b.2 * a.2 = dis N D c * a.2 * b.2 := by rw [Int.mul_right_comm]
  have q3 : dis N D a * c.2 ≤ dis N D c * a.2 := Int.le_of_mul_le_mul_right (by omega) (show 0 < b.2 by omega)
  rcases Int.lt_or_eq_of_le q3 with h | h
  · exact .inl h
  · refine .inr ⟨h, ?_⟩
    have e4 : dis N D a * c.2 * b.2 = dis N D c * a.2 * b.2 := by rw [h]
    have f1 : dis N D a * b.2 = dis N D b * a.2 := by
      have : dis N D a * b.2 * c.2 = dis N D b * a.2 * c.2 := by omega
      exact Int.eq_of_mul_eq_mul_right (by omega) this
    have f2 : dis N D b * c.2 = dis N D c * b.2 := by
      have : dis N D b * c.2 * a.2 = dis N D c * b.2 * a.2 := by omega
      exact Int.eq_of_mul_eq_mul_right (by omega) this
    omega
theorem cmp_self {N D : Int} {a : Int × Int} : cmpR N D a a = 0 := by simp [cmpR]
theorem min_good {N D : Int} : ∀ (r : List (Int × Int)) {l : List (Int × Int)} {m : Int × Int}, (∀ y ∈ r, 1 ≤ y.2) → (∀ y ∈ l, 1 ≤ y.2) → m ∈ l → (∀ y ∈ l, ¬cmpR N D y m < 0) →
    r.foldl (stepN N D) m ∈ l ++ r ∧ ∀ y ∈ l ++ r, ¬cmpR N D y (r.foldl (stepN N D) m) < 0
  | [], l, m, _, _, hm, h => by rw [List.foldl_nil, List.append_nil]; exact ⟨hm, h⟩
  | x :: r, l, m, hr, hl, hm, h => by
    have e : l ++ x :: r = (l ++ [x]) ++ r := by simp
    rw [e, List.foldl_cons]
    refine min_good r (fun y hy => hr y (by simp [hy])) (fun y hy => ?_) ?_ ?_
    · rcases List.mem_append.1 hy with hy | hy
      · exact hl y hy
      · rw [List.mem_singleton.1 hy]; exact hr x (by simp)
    · unfold stepN; split
      · simp
      · simp [hm]
    · intro y hy
      unfold stepN; split
      · rename_i hx
        rcases List.mem_append.1 hy with hy | hy
        · exact fun hlt => h y hy (cmp_trans (hl y hy) (hr x (by simp)) (hl m hm) hlt hx)
        · rw [List.mem_singleton.1 hy, cmp_self]; omega
      · rename_i hx
        rcases List.mem_append.1 hy with hy | hy
        · exact h y hy
        · rw [List.mem_singleton.1 hy]; exact hx
theorem minN_good {N D : Int} {l : List (Int × Int)} (h0 : l ≠ []) (hl : ∀ y ∈ l, 1 ≤ y.2) : minN N D l ∈ l ∧ ∀ y ∈ l, ¬cmpR N D y (minN N D l) < 0 := by
  cases l with
  | nil => exact absurd rfl h0
  | cons x r =>
    have := min_good (N := N) (D := D) r (l := [x]) (m := x) (fun y hy => hl y (by simp [hy])) (fun y hy => hl y (by simp [List.mem_singleton.1 hy])) (by simp) (fun y hy => by rw [List.mem_singleton.1 hy, cmp_self]; omega)
    exact this
def stepS (N D d : Int) (b x : Int × Int) : Int × Int := if x.2 = d ∧ (b.2 = 0 ∨ dis N D x * b.2 < dis N D b * x.2) then x else b
theorem step_same {N D d n : Int} {l : List (Int × Int)} {x : Int × Int} (h1 : ∀ y ∈ l, 1 ≤ y.2 ∧ y.2 ≤ d ∧ (y.2 = d → y.1 < n)) (h2 : (x.2 = d ∧ x.1 = n) ∨ x ∈ l) : stepS N D d (minN N D l) x = minN N D (l ++ [x]) := by
  by_cases h0 : l = []
  · subst h0
    rcases h2 with ⟨h2, _⟩ | h2
    · simp [stepS, minN, h2]
    · cases h2
  · obtain ⟨g1, g2⟩ := minN_good (N := N) (D := D) h0 (fun y hy => (h1 y hy).1)
    rw [minN_app h0]
    obtain ⟨q1, q2, q3⟩ := h1 _ g1
    unfold stepS stepN
    rcases h2 with ⟨h2, h3⟩ | h2
    · have : (x.2 = d ∧ ((minN N D l).2 = 0 ∨ dis N D x * (minN N D l).2 < dis N D (minN N D l) * x.2)) ↔ cmpR N D x (minN N D l) < 0 := by
        rw [cmp_lt]; omega
      simp only [this]
    · have h4 := g2 x h2
      rw [if_neg h4, if_neg]
      intro ⟨_, h5⟩
      apply h4
      rw [cmp_lt]
      omega
def entA (N D : Int) (i : Nat) : Int × Int := mkR (N * ((i : Int) + 1) / D) ((i : Int) + 1)
def entB (N D : Int) (i : Nat) : Int × Int := mkR (N * ((i : Int) + 1) / D + 1) ((i : Int) + 1)
def lstTo (N D : Int) : Nat → List (Int × Int)
  | 0 => []
  | k + 1 => lstTo N D k ++ [entA N D k, entB N D k]
def bestTo (N D : Int) : Nat → Int × Int
  | 0 => (0, 0)
  | k + 1 => stepS N D ((k : Int) + 1) (stepS N D ((k : Int) + 1) (bestTo N D k) (entA N D k)) (entB N D k)
theorem mem_lstTo {N D : Int} {i : Nat} : ∀ {k : Nat}, i < k → entA N D i ∈ lstTo N D k ∧ entB N D i ∈ lstTo N D k
  | k + 1, h => by
    by_cases e : i = k
    · subst e; simp [lstTo]
    · have := mem_lstTo (N := N) (D := D) (show i < k by omega)
      simp [lstTo, this]
theorem floor_iff {x D q : Int} (hD : 1 ≤ D) : x / D = q ↔ D * q ≤ x ∧ x < D * (q + 1) := by
  have h1 := Int.mul_ediv_add_emod x D
  have h2 := Int.emod_nonneg x (show D ≠ 0 by omega)
  have h3 := Int.emod_lt_of_pos x (show 0 < D by omega)
  constructor
  · intro e; subst e; rw [Int.mul_add]; omega
  · rintro ⟨a, b⟩
    have c1 : D * q < D * (x / D + 1) := by rw [Int.mul_add]; omega
    have c2 : D * (x / D) < D * (q + 1) := by omega
    have d1 := Int.lt_of_mul_lt_mul_left c1 (by omega)
    have d2 := Int.lt_of_mul_lt_mul_left c2 (by omega)
    omega
theorem lo_num {N D : Int} (hN : -10000 ≤ N ∧ N ≤ 10000) (hD : 1 ≤ D) {d : Int} (h1 : 1 ≤ d) (h2 : d ≤ 100) : -1000000 ≤ N * d / D ∧ N * d / D ≤ 1000000 := by
  have a1 := Int.mul_le_mul_of_nonneg_right hN.1 (show 0 ≤ d by omega)
  have a2 := Int.mul_le_mul_of_nonneg_right hN.2 (show 0 ≤ d by omega)
  have h := (floor_iff (x := N * d) (q := N * d / D) hD).1 rfl
  constructor
  · rcases Int.lt_or_le (N * d / D) (-1000000) with c | c
    · have := Int.mul_le_mul_of_nonneg_left (show N * d / D + 1 ≤ -1000000 by omega) (show 0 ≤ D by omega)
      omega
    · exact c
  · rcases Int.lt_or_le 1000000 (N * d / D) with c | c
    · have := Int.mul_le_mul_of_nonneg_left (show 1000001 ≤ N * d / D by omega) (show 0 ≤ D by omega)
      omega
    · omega
/-- What an entry is: its own, or an earlier one. -/
theorem ent_is {N D : Int} (hN : -10000 ≤ N ∧ N ≤ 10000) (hD : 1 ≤ D) {n : Int} {i : Nat} (hi : i < 100) (hn : n = N * ((i : Int) + 1) / D ∨ n = N * ((i : Int) + 1) / D + 1) :
    ratioB (mkR n ((i : Int) + 1)).1 (mkR n ((i : Int) + 1)).2 = true ∧ (mkR n ((i : Int) + 1)).2 ≤ (i : Int) + 1 ∧ (((mkR n ((i : Int) + 1)).2 = (i : Int) + 1 ∧ (mkR n ((i : Int) + 1)).1 = n) ∨ mkR n ((i : Int) + 1) ∈ lstTo N D i) := by
  have hb := lo_num hN hD (d := (i : Int) + 1) (by omega) (by omega)
  have hnum : numB n = true := numB_true.2 (by omega)
  obtain ⟨g, g1, g2, g3, g4⟩ := mk_spec (n := n) (d := (i : Int) + 1) (by omega) (by omega) hnum
  generalize mkR n ((i : Int) + 1) = p at *
  obtain ⟨r1, r2, r3, r4, r5⟩ := ratioB_true g4
  have hle : p.2 ≤ (i : Int) + 1 := by
    have := Int.mul_le_mul_of_nonneg_right g1 (show 0 ≤ p.2 by omega)
    omega
  refine ⟨g4, hle, ?_⟩
  by_cases e : g = 1
  · subst e; exact .inl ⟨by omega, by omega⟩
  · right
    have hlt : p.2 * 2 ≤ (i : Int) + 1 := by
      have := Int.mul_le_mul_of_nonneg_right (show 2 ≤ g by omega) (show 0 ≤ p.2 by omega)
      omega
    obtain ⟨j, hj⟩ : ∃ j : Nat, p.2 = (j : Int) + 1 := ⟨(p.2 - 1).toNat, by omega⟩
    have hji : j < i := by omega
    have e1 : N * ((i : Int) + 1) = g * (N * p.2) := by rw [g3, Int.mul_left_comm]
    have hD0 : 0 ≤ D := by omega
    have hg0 : 0 < g := by omega
    have key : p.1 = N * p.2 / D ∨ p.1 = N * p.2 / D + 1 := by
      rcases hn with hn | hn
      · left
        have h := (floor_iff (x := N * ((i : Int) + 1)) (q := n) hD).1 hn.symm
        rw [e1, g2] at h
        refine ((floor_iff hD).2 ⟨?_, ?_⟩).symm
        · refine Int.le_of_mul_le_mul_left ?_ hg0
          have : D * (g * p.1) = g * (D * p.1) := Int.mul_left_comm ..
          omega
        · refine Int.lt_of_mul_lt_mul_left (a := g) ?_ (by omega)
          have a1 : D * (g * p.1 + 1) = g * (D * p.1) + D := by rw [Int.mul_add, Int.mul_left_comm]; omega
          have a2 : g * (D * (p.1 + 1)) = g * (D * p.1) + g * D := by rw [Int.mul_add D, Int.mul_add]; simp
          have a3 := Int.mul_le_mul_of_nonneg_right g1 hD0
          omega
      · right
        have h := (floor_iff (x := N * ((i : Int) + 1)) (q := n - 1) hD).1 (by omega)
        rw [e1, g2] at h
        have : N * p.2 / D = p.1 - 1 := by
          refine (floor_iff hD).2 ⟨?_, ?_⟩
          · refine Int.le_of_mul_le_mul_left ?_ hg0
            have a1 : D * (g * p.1 - 1) = g * (D * p.1) - D := by rw [Int.mul_sub, Int.mul_left_comm]; omega
            have a2 : g * (D * (p.1 - 1)) = g * (D * p.1) - g * D := by rw [Int.mul_sub D, Int.mul_sub]; simp
            have a3 := Int.mul_le_mul_of_nonneg_right g1 hD0
            omega
          · refine Int.lt_of_mul_lt_mul_left (a := g) ?_ (by omega)
            have a1 : D * (g * p.1 - 1 + 1) = g * (D * p.1) := by rw [Int.sub_add_cancel, Int.mul_left_comm]
            rw [Int.sub_add_cancel]
            omega
        omega
    have hm := mk_low g4
    rw [hj] at key hm
    have := mem_lstTo (N := N) (D := D) hji
    rcases key with key | key
    · have h1 := this.1
      unfold entA at h1
      rwa [← key, hm] at h1
    · have h1 := this.2
      unfold entB at h1
      rwa [← key, hm] at h1
theorem lst_all {N D : Int} (hN : -10000 ≤ N ∧ N ≤ 10000) (hD : 1 ≤ D) : ∀ {k : Nat}, k ≤ 100 → ∀ y ∈ lstTo N D k, ratioB y.1 y.2 = true ∧ y.2 ≤ k
  | 0, _, y, h => by cases h
  | k + 1, hk, y, h => by
    rw [lstTo] at h
    rcases List.mem_append.1 h with h | h
    · have := lst_all hN hD (show k ≤ 100 by omega) y h
      exact ⟨this.1, by omega⟩
    · rcases List.mem_cons.1 h with rfl | h
      · have := ent_is (n := N * ((k : Int) + 1) / D) hN hD (show k < 100 by omega) (.inl rfl)
        exact ⟨this.1, by have := this.2.1; unfold entA; omega⟩
      · rw [List.mem_singleton.1 h]
        have := ent_is (n := N * ((k : Int) + 1) / D + 1) hN hD (show k < 100 by omega) (.inr rfl)
        exact ⟨this.1, by have := this.2.1; unfold entB; omega⟩
theorem best_half {N D : Int} (hN : -10000 ≤ N ∧ N ≤ 10000) (hD : 1 ≤ D) {k : Nat} (hk : k < 100) : stepS N D ((k : Int) + 1) (minN N D (lstTo N D k)) (entA N D k) = minN N D (lstTo N D k ++ [entA N D k]) := by
  have h := ent_is (n := N * ((k : Int) + 1) / D) hN hD hk (.inl rfl)
  refine step_same (n := N * ((k : Int) + 1) / D) (fun y hy => ?_) h.2.2
  have := lst_all hN hD (show k ≤ 100 by omega) y hy
  have h1 := (ratioB_true this.1).1
  exact ⟨h1, by omega, by omega⟩
theorem best_step {N D : Int} (hN : -10000 ≤ N ∧ N ≤ 10000) (hD : 1 ≤ D) {k : Nat} (hk : k < 100) : stepS N D ((k : Int) + 1) (minN N D (lstTo N D k ++ [entA N D k])) (entB N D k) = minN N D (lstTo N D (k + 1)) := by
  have ha := ent_is (n := N * ((k : Int) + 1) / D) hN hD hk (.inl rfl)
  have h := ent_is (n := N * ((k : Int) + 1) / D + 1) hN hD hk (.inr rfl)
  have e : lstTo N D (k + 1) = (lstTo N D k ++ [entA N D k]) ++ [entB N D k] := by simp [lstTo]
  rw [e]
  refine step_same (n := N * ((k : Int) + 1) / D + 1) (fun y hy => ?_) ?_
  · rcases List.mem_append.1 hy with hy | hy
    · have := lst_all hN hD (show k ≤ 100 by omega) y hy
      have h1 := (ratioB_true this.1).1
      exact ⟨h1, by omega, by omega⟩
    · rw [List.mem_singleton.1 hy]
      have h1 := (ratioB_true ha.1).1
      refine ⟨h1, ha.2.1, fun e => ?_⟩
      rcases ha.2.2 with ⟨_, h3⟩ | h3
      · unfold entA; omega
      · have := lst_all hN hD (show k ≤ 100 by omega) _ h3
        unfold entA at e; omega
  · rcases h.2.2 with h2 | h2
    · exact .inl h2
    · exact .inr (List.mem_append_left _ h2)
theorem best_eq {N D : Int} (hN : -10000 ≤ N ∧ N ≤ 10000) (hD : 1 ≤ D) : ∀ {k : Nat}, k ≤ 100 → bestTo N D k = minN N D (lstTo N D k)
  | 0, _ => rfl
  | k + 1, hk => by
    rw [bestTo, best_eq hN hD (show k ≤ 100 by omega), best_half hN hD (by omega), best_step hN hD (by omega)]
end Go.Proofs.Ytimaihabaflhiaa
