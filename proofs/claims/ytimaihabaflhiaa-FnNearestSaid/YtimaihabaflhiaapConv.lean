/-
  THE PLAIN LAW of convergents: the first terms of a continued fraction, folded from the back, give what the recurrence from the front gives. No program in sight.
-/
import Derived.Test.YtimaihabaflhiaabFrom
set_option linter.unusedVariables false
set_option linter.unusedSimpArgs false
namespace Go.Proofs.Ytimaihabaflhiaa

def fp : Nat → Nat × Nat
  | 0 => (0, 1)
  | k + 1 => ((fp k).2, (fp k).1 + (fp k).2)
def fib (k : Nat) : Nat := (fp k).1
theorem fib_add (k : Nat) : fib (k + 2) = fib k + fib (k + 1) := rfl
theorem fib_zero : fib 0 = 0 := rfl
theorem fib_one : fib 1 = 1 := rfl
theorem cf_fib : ∀ (k : Nat) (n : Int) (d : Nat), k + 1 ≤ (cfTerms n d).length → fib (k + 1) ≤ d
  | 0, n, d, h => by
    by_cases h0 : d = 0
    · subst h0; rw [cfTerms_zero] at h; simp at h
    · rw [fib_one]; omega
  | 1, n, d, h => by
    by_cases h0 : d = 0
    · subst h0; rw [cfTerms_zero] at h; simp at h
    · rw [fib_add, fib_zero, fib_one]; omega
  | k + 2, n, d, h => by
    by_cases h0 : d = 0
    · subst h0; rw [cfTerms_zero] at h; simp at h
    · rw [cfTerms_succ h0, List.length_cons] at h
      have h1 := Int.emod_lt_of_pos n (show 0 < (d : Int) by omega)
      have h2 := Int.emod_nonneg n (show (d : Int) ≠ 0 by omega)
      generalize hr : (n % (d : Int)).toNat = r at h
      have hrd : r < d := by omega
      have a1 := cf_fib (k + 1) d r (by omega)
      by_cases hr0 : r = 0
      · rw [hr0, cfTerms_zero] at h; simp at h
      · rw [cfTerms_succ hr0, List.length_cons] at h
        have e : ((d : Int) % (r : Int)).toNat = d % r := by rw [← Int.natCast_emod]; exact Int.toNat_natCast _
        rw [e] at h
        have a2 := cf_fib k r (d % r) (by omega)
        have a3 := Nat.div_add_mod d r
        have a4 : 1 ≤ d / r := Nat.div_pos (by omega) (by omega)
        have a5 := Nat.mul_le_mul_left r a4
        rw [fib_add (k + 1)]
        omega
def cP : List Int → Int × Int
  | [] => (1, 0)
  | a :: r => (a * (cP r).1 + (cP r).2, (cP r).1)
theorem cP_two (a b : Int) : ∀ zs : List Int, (cP (zs ++ [b, a])).1 = a * (cP (zs ++ [b])).1 + (cP zs).1 ∧ (cP (zs ++ [b, a])).2 = a * (cP (zs ++ [b])).2 + (cP zs).2
  | [] => by simp [cP, Int.mul_comm]
  | c :: zs => by
    obtain ⟨h1, h2⟩ := cP_two a b zs
    simp only [List.cons_append, cP, h1, h2]
    refine ⟨?_, trivial⟩
    rw [Int.mul_add, Int.mul_add, Int.mul_left_comm c a]; omega
theorem fib_44 : fib 44 = 701408733 := by
  have f0 := fib_zero
  have f1 := fib_one
  have f2 : fib 2 = 1 := by rw [fib_add 0, f0, f1]
  have f3 : fib 3 = 2 := by rw [fib_add 1, f1, f2]
  have f4 : fib 4 = 3 := by rw [fib_add 2, f2, f3]
  have f5 : fib 5 = 5 := by rw [fib_add 3, f3, f4]
  have f6 : fib 6 = 8 := by rw [fib_add 4, f4, f5]
  have f7 : fib 7 = 13 := by rw [fib_add 5, f5, f6]
  have f8 : fib 8 = 21 := by rw [fib_add 6, f6, f7]
  have f9 : fib 9 = 34 := by rw [fib_add 7, f7, f8]
  have f10 : fib 10 = 55 := by rw [fib_add 8, f8, f9]
  have f11 : fib 11 = 89 := by rw [fib_add 9, f9, f10]
  have f12 : fib 12 = 144 := by rw [fib_add 10, f10, f11]
  have f13 : fib 13 = 233 := by rw [fib_add 11, f11, f12]
  have f14 : fib 14 = 377 := by rw [fib_add 12, f12, f13]
  have f15 : fib 15 = 610 := by rw [fib_add 13, f13, f14]
  have f16 : fib 16 = 987 := by rw [fib_add 14, f14, f15]
  have f17 : fib 17 = 1597 := by rw [fib_add 15, f15, f16]
  have f18 : fib 18 = 2584 := by rw [fib_add 16, f16, f17]
  have f19 : fib 19 = 4181 := by rw [fib_add 17, f17, f18]
  have f20 : fib 20 = 6765 := by rw [fib_add 18, f18, f19]
  have f21 : fib 21 = 10946 := by rw [fib_add 19, f19, f20]
  have f22 : fib 22 = 17711 := by rw [fib_add 20, f20, f21]
  have f23 : fib 23 = 28657 := by rw [fib_add 21, f21, f22]
  have f24 : fib 24 = 46368 := by rw [fib_add 22, f22, f23]
  have f25 : fib 25 = 75025 := by rw [fib_add 23, f23, f24]
  have f26 : fib 26 = 121393 := by rw [fib_add 24, f24, f25]
  have f27 : fib 27 = 196418 := by rw [fib_add 25, f25, f26]
  have f28 : fib 28 = 317811 := by rw [fib_add 26, f26, f27]
  have f29 : fib 29 = 514229 := by rw [fib_add 27, f27, f28]
  have f30 : fib 30 = 832040 := by rw [fib_add 28, f28, f29]
  have f31 : fib 31 = 1346269 := by rw [fib_add 29, f29, f30]
  have f32 : fib 32 = 2178309 := by rw [fib_add 30, f30, f31]
  have f33 : fib 33 = 3524578 := by rw [fib_add 31, f31, f32]
  have f34 : fib 34 = 5702887 := by rw [fib_add 32, f32, f33]
  have f35 : fib 35 = 9227465 := by rw [fib_add 33, f33, f34]
  have f36 : fib 36 = 14930352 := by rw [fib_add 34, f34, f35]
  have f37 : fib 37 = 24157817 := by rw [fib_add 35, f35, f36]
  have f38 : fib 38 = 39088169 := by rw [fib_add 36, f36, f37]
  have f39 : fib 39 = 63245986 := by rw [fib_add 37, f37, f38]
  have f40 : fib 40 = 102334155 := by rw [fib_add 38, f38, f39]
  have f41 : fib 41 = 165580141 := by rw [fib_add 39, f39, f40]
  have f42 : fib 42 = 267914296 := by rw [fib_add 40, f40, f41]
  have f43 : fib 43 = 433494437 := by rw [fib_add 41, f41, f42]
  have f44 : fib 44 = 701408733 := by rw [fib_add 42, f42, f43]
  exact f44
theorem cf_le {n : Int} {d : Nat} (h : d ≤ 400000000) : (cfTerms n d).length ≤ 43 := by
  rcases Nat.lt_or_ge (cfTerms n d).length 44 with c | c
  · omega
  · have := cf_fib 43 n d c
    rw [fib_44] at this
    omega
theorem cf_pos : ∀ {d : Nat} {n : Int}, (d : Int) < n → ∀ a ∈ cfTerms n d, 1 ≤ a := fun {d n} hlt a ha => by
  by_cases h0 : d = 0
  · subst h0; rw [cfTerms_zero] at ha; cases ha
  · rw [cfTerms_succ h0] at ha
    have h1 := Int.emod_lt_of_pos n (show 0 < (d : Int) by omega)
    have h2 := Int.emod_nonneg n (show (d : Int) ≠ 0 by omega)
    rcases List.mem_cons.1 ha with rfl | ha
    · exact Int.le_ediv_of_mul_le (by omega) (by omega)
    · exact cf_pos (d := (n % (d : Int)).toNat) (n := d) (by omega) a ha
termination_by d => d
theorem cf_bd : ∀ {d : Nat} {n : Int}, n ≤ 400000000 ∧ 0 ≤ n ∧ d ≤ 400000000 → ∀ a ∈ cfTerms n d, a ≤ 400000000 := fun {d n} hlt a ha => by
  by_cases h0 : d = 0
  · subst h0; rw [cfTerms_zero] at ha; cases ha
  · rw [cfTerms_succ h0] at ha
    have h1 := Int.emod_lt_of_pos n (show 0 < (d : Int) by omega)
    have h2 := Int.emod_nonneg n (show (d : Int) ≠ 0 by omega)
    rcases List.mem_cons.1 ha with rfl | ha
    · have := Int.ediv_le_self (a := n) (d : Int) hlt.2.1
      omega
    · exact cf_bd (d := (n % (d : Int)).toNat) (n := d) (by omega) a ha
termination_by d => d
theorem lowR_ratio {n d : Int} (h : ratioB n d = true) : lowR n d = (n, d) := by
  obtain ⟨h1, h2, h3, h4, h5⟩ := ratioB_true h
  simp only [lowR, redR, h5, if_neg (show ¬d < 0 by omega)]
  simp [h]
theorem cP_step {a : Int} {r : List Int} (ha : numB a = true) (hr : ratioB (cP r).1 (cP r).2 = true) (h1 : (cP r).2 ≤ (cP r).1) (hb : -400000000 ≤ (cP (a :: r)).1 ∧ (cP (a :: r)).1 ≤ 400000000) :
    stepR a (cP r) = cP (a :: r) ∧ ratioB (cP (a :: r)).1 (cP (a :: r)).2 = true := by
  obtain ⟨g1, g2, g3, g4, g5⟩ := ratioB_true hr
  generalize hp : (cP r).1 = P at *
  generalize hq : (cP r).2 = Q at *
  have hqp : ratioB Q P = true := by
    simp only [ratioB, Bool.and_eq_true, decide_eq_true_eq, beq_iff_eq]
    rw [Int.gcd_comm] at g5
    refine ⟨by omega, by omega⟩
  have e1 : cP (a :: r) = (a * P + Q, P) := by simp only [cP, hp, hq]
  rw [e1] at hb ⊢
  have hres : ratioB (a * P + Q) P = true := by
    simp only [ratioB, Bool.and_eq_true, decide_eq_true_eq, beq_iff_eq]
    have : Int.gcd (a * P + Q) P = 1 := by rw [Int.gcd_mul_right_add_left, Int.gcd_comm]; exact g5
    refine ⟨by omega, by omega⟩
  refine ⟨?_, hres⟩
  have hd : divR 1 1 P Q = (Q, P) := by
    have h11 : ratioB 1 1 = true := ratioB_one (by simp [numB])
    have hP : (P == 0) = false := by simp; omega
    simp only [divR, h11, hr, hP, Int.one_mul]
    exact lowR_ratio hqp
  have hcp : cP r = (P, Q) := by rw [← hp, ← hq]
  have ha1 : ratioB a 1 = true := ratioB_one ha
  rw [stepR, hcp, hd]
  simp only [addR, ha1, hqp, Int.mul_one, Int.one_mul]
  exact lowR_ratio hres
theorem cP_grow {a : Int} {r : List Int} (ha : 1 ≤ a) (h0 : 0 ≤ (cP r).1) (h1 : 0 ≤ (cP r).2) : (cP r).1 ≤ (cP (a :: r)).1 := by
  have := Int.mul_le_mul_of_nonneg_right ha h0
  simp only [cP]; omega
theorem fcB_tail : ∀ {r : List Int}, r ≠ [] → (∀ a ∈ r, 1 ≤ a) → (cP r).1 ≤ 400000000 → fcB r = cP r ∧ ratioB (cP r).1 (cP r).2 = true ∧ 1 ≤ (cP r).2 ∧ (cP r).2 ≤ (cP r).1
  | [a], _, ha, hb => by
    have h1 : 1 ≤ a := ha a (by simp)
    have e : cP [a] = (a, 1) := by simp [cP]
    rw [e] at hb ⊢
    refine ⟨rfl, ratioB_one (numB_true.2 ⟨by omega, hb⟩), by omega, h1⟩
  | a :: b :: r, _, ha, hb => by
    have hb1 : 1 ≤ b := ha b (by simp)
    have ha1 : 1 ≤ a := ha a (by simp)
    have hin : ∀ {r : List Int}, (∀ c ∈ r, 1 ≤ c) → 0 ≤ (cP r).1 ∧ 0 ≤ (cP r).2 := fun {r} => by
      induction r with
      | nil => intro _; simp [cP]
      | cons c r ih =>
        intro h
        obtain ⟨q1, q2⟩ := ih (fun d hd => h d (by simp [hd]))
        have := Int.mul_nonneg (show 0 ≤ c by have := h c (by simp); omega) q1
        simp only [cP]; omega
    have ht : ∀ c ∈ b :: r, 1 ≤ c := fun c hc => ha c (List.mem_cons_of_mem _ hc)
    obtain ⟨p1, p2⟩ := hin ht
    have hg := cP_grow (a := a) (r := b :: r) ha1 p1 p2
    obtain ⟨e1, e2, e3, e4⟩ := fcB_tail (r := b :: r) (by simp) ht (by omega)
    have hm := Int.mul_le_mul_of_nonneg_right ha1 p1
    have hk : a ≤ 400000000 := by
      have h2 := Int.mul_le_mul_of_nonneg_left (show 1 ≤ (cP (b :: r)).1 by omega) (show 0 ≤ a by omega)
      have : (cP (a :: b :: r)).1 = a * (cP (b :: r)).1 + (cP (b :: r)).2 := rfl
      omega
    obtain ⟨f1, f2⟩ := cP_step (a := a) (numB_true.2 ⟨by omega, hk⟩) e2 e4 ⟨by omega, hb⟩
    refine ⟨?_, f2, ?_, hg⟩
    · rw [← f1, ← e1]; rfl
    · show 1 ≤ (cP (b :: r)).1
      omega
/-- The first terms of a number's fraction, with the number not less than 0. -/
theorem cP_in : ∀ {y : Nat} {x : Nat} {k : Nat}, 1 ≤ k → k ≤ (cfTerms x y).length → (cP ((cfTerms x y).take k)).1 ≤ x ∧ (cP ((cfTerms x y).take k)).2 ≤ y ∧ 0 ≤ (cP ((cfTerms x y).take k)).2 ∧ 0 ≤ (cP ((cfTerms x y).take k)).1 := fun {y x k} h1 hk => by
  by_cases h0 : y = 0
  · subst h0; rw [cfTerms_zero] at hk; simp at hk; omega
  · have m1 := Nat.div_add_mod x y
    have m2 := Nat.mod_lt x (show 0 < y by omega)
    have e : cfTerms x y = ((x / y : Nat) : Int) :: cfTerms y (x % y) := by
      rw [cfTerms_succ h0]
      have : ((x : Int) % (y : Int)).toNat = x % y := by rw [← Int.natCast_emod]; exact Int.toNat_natCast _
      rw [this]; simp
    rw [e] at hk ⊢
    obtain ⟨k, rfl⟩ : ∃ j, k = j + 1 := ⟨k - 1, by omega⟩
    rw [List.length_cons] at hk
    rw [List.take_succ_cons]
    have m3 : ((x / y : Nat) : Int) * (y : Int) + ((x % y : Nat) : Int) = x := by
      have : (x / y) * y + x % y = x := by rw [Nat.mul_comm]; exact m1
      exact_mod_cast this
    have hq : (0 : Int) ≤ ((x / y : Nat) : Int) := Int.natCast_nonneg _
    have hrec : k ≠ 0 → (cP ((cfTerms y (x % y)).take k)).1 ≤ y ∧ (cP ((cfTerms y (x % y)).take k)).2 ≤ ((x % y : Nat) : Int) ∧ 0 ≤ (cP ((cfTerms y (x % y)).take k)).2 ∧ 0 ≤ (cP ((cfTerms y (x % y)).take k)).1 := fun h => cP_in (y := x % y) (x := y) (k := k) (by omega) (by omega)
    generalize ((x / y : Nat) : Int) = Q at *
    generalize x % y = R at *
    by_cases hk0 : k = 0
    · subst hk0
      have h2 := Int.mul_le_mul_of_nonneg_left (show (1 : Int) ≤ (y : Int) by omega) hq
      simp only [List.take_zero, cP]
      omega
    · obtain ⟨a1, a2, a3, a4⟩ := hrec hk0
      have h2 := Int.mul_le_mul_of_nonneg_left a1 hq
      have h3 := Int.mul_nonneg hq a4
      simp only [cP]
      omega
termination_by y => y
theorem cf_nat {x y : Nat} (h0 : y ≠ 0) : cfTerms x y = ((x / y : Nat) : Int) :: cfTerms y (x % y) := by
  rw [cfTerms_succ h0]
  have : ((x : Int) % (y : Int)).toNat = x % y := by rw [← Int.natCast_emod]; exact Int.toNat_natCast _
  rw [this]; simp
theorem cP_gap {y r k : Nat} (hr : r < y) (h1 : 1 ≤ k) (hk : k ≤ (cfTerms y r).length) : (r : Int) - (cP ((cfTerms y r).take k)).2 ≤ y - (cP ((cfTerms y r).take k)).1 := by
  by_cases h0 : r = 0
  · subst h0; rw [cfTerms_zero] at hk; simp at hk; omega
  · have m1 := Nat.div_add_mod y r
    have m2 := Nat.mod_lt y (show 0 < r by omega)
    have m4 : 1 ≤ y / r := Nat.div_pos (by omega) (by omega)
    rw [cf_nat h0] at hk ⊢
    obtain ⟨k, rfl⟩ : ∃ j, k = j + 1 := ⟨k - 1, by omega⟩
    rw [List.length_cons] at hk
    rw [List.take_succ_cons]
    have m3 : ((y / r : Nat) : Int) * (r : Int) + ((y % r : Nat) : Int) = y := by
      have : (y / r) * r + y % r = y := by rw [Nat.mul_comm]; exact m1
      exact_mod_cast this
    have hq : (1 : Int) ≤ ((y / r : Nat) : Int) := by exact_mod_cast m4
    have hrec : k ≠ 0 → (cP ((cfTerms r (y % r)).take k)).1 ≤ r ∧ (cP ((cfTerms r (y % r)).take k)).2 ≤ ((y % r : Nat) : Int) ∧ 0 ≤ (cP ((cfTerms r (y % r)).take k)).2 ∧ 0 ≤ (cP ((cfTerms r (y % r)).take k)).1 := fun h => cP_in (y := y % r) (x := r) (k := k) (by omega) (by omega)
    generalize ((y / r : Nat) : Int) = Q at *
    generalize y % r = R at *
    by_cases hk0 : k = 0
    · subst hk0
      have h2 := Int.mul_nonneg (show 0 ≤ Q - 1 by omega) (show (0 : Int) ≤ (r : Int) - 1 by omega)
      rw [Int.sub_mul, Int.mul_sub, Int.one_mul] at h2
      simp only [List.take_zero, cP]
      omega
    · obtain ⟨a1, a2, a3, a4⟩ := hrec hk0
      simp only [cP]
      generalize (cP ((cfTerms r R).take k)).1 = A at *
      have h2 := Int.mul_nonneg (show 0 ≤ Q - 1 by omega) (show (0 : Int) ≤ (r : Int) - A by omega)
      rw [Int.sub_mul, Int.mul_sub, Int.one_mul] at h2
      omega
theorem conv_ok {x : Int} {y k : Nat} (hx : -400000000 ≤ x ∧ x ≤ 400000000) (hy : 1 ≤ y ∧ y ≤ 400000000) (h1 : 1 ≤ k) (hk : k ≤ (cfTerms x y).length) :
    fcOK ((cfTerms x y).take k) = true ∧ fcB ((cfTerms x y).take k) = cP ((cfTerms x y).take k) ∧ ratioB (cP ((cfTerms x y).take k)).1 (cP ((cfTerms x y).take k)).2 = true := by
  have hlen := cf_le (n := x) hy.2
  have m1 := Int.mul_ediv_add_emod x y
  have m2 := Int.emod_nonneg x (show (y : Int) ≠ 0 by omega)
  have m3 := Int.emod_lt_of_pos x (show 0 < (y : Int) by omega)
  obtain ⟨r, hr⟩ : ∃ r : Nat, x % (y : Int) = r := ⟨(x % (y : Int)).toNat, by omega⟩
  have e : cfTerms x y = (x / (y : Int)) :: cfTerms y r := by rw [cfTerms_succ (by omega), hr, Int.toNat_natCast]
  rw [hr] at m1 m3
  generalize x / (y : Int) = a at *
  have hry : r < y := by omega
  have hpos : ∀ c ∈ cfTerms y r, 1 ≤ c := cf_pos (by omega)
  have ha : numB a = true := by
    refine numB_true.2 ?_
    rcases Int.lt_or_le a 0 with c | c
    · have h2 := Int.mul_le_mul_of_nonneg_right (show a ≤ -1 by omega) (show (0 : Int) ≤ (y : Int) - 1 by omega)
      rw [Int.mul_sub, Int.mul_comm a] at h2
      omega
    · have h2 := Int.mul_le_mul_of_nonneg_right (show (1 : Int) ≤ (y : Int) by omega) c
      omega
  rw [e] at hk ⊢
  obtain ⟨k, rfl⟩ : ∃ j, k = j + 1 := ⟨k - 1, by omega⟩
  rw [e, List.length_cons] at hlen
  rw [List.length_cons] at hk
  rw [List.take_succ_cons]
  have key : fcB (a :: (cfTerms y r).take k) = cP (a :: (cfTerms y r).take k) ∧ ratioB (cP (a :: (cfTerms y r).take k)).1 (cP (a :: (cfTerms y r).take k)).2 = true := by
    by_cases hk0 : k = 0
    · subst hk0
      have e : cP [a] = (a, 1) := by simp [cP]
      rw [List.take_zero, e]
      exact ⟨rfl, ratioB_one ha⟩
    · obtain ⟨a1, a2, a3, a4⟩ := cP_in (y := r) (x := y) (k := k) (by omega) (by omega)
      have hgap := cP_gap hry (k := k) (by omega) (by omega)
      have hne : (cfTerms y r).take k ≠ [] := by intro e; have := congrArg List.length e; rw [List.length_take] at this; simp only [List.length_nil] at this; omega
      obtain ⟨b1, b2, b3, b4⟩ := fcB_tail hne (fun c hc => hpos c (List.mem_of_mem_take hc)) (by omega)
      have hb : -400000000 ≤ (cP (a :: (cfTerms y r).take k)).1 ∧ (cP (a :: (cfTerms y r).take k)).1 ≤ 400000000 := by
        simp only [cP]
        generalize (cP ((cfTerms y r).take k)).1 = P at *
        generalize (cP ((cfTerms y r).take k)).2 = Q at *
        rw [Int.mul_comm] at m1
        rcases Int.lt_or_le a 0 with c | c
        · have h2 := Int.mul_le_mul_of_nonneg_right (show a ≤ -1 by omega) (show (0 : Int) ≤ (y : Int) - P by omega)
          have h3 := Int.mul_le_mul_of_nonneg_right (show a ≤ -1 by omega) a4
          rw [Int.mul_sub] at h2
          omega
        · have h2 := Int.mul_le_mul_of_nonneg_left a1 c
          have h3 := Int.mul_nonneg c a4
          omega
      obtain ⟨f1, f2⟩ := cP_step ha b2 b4 hb
      refine ⟨?_, f2⟩
      rw [← f1, ← b1]
      cases hw : (cfTerms y r).take k with
      | nil => exact absurd hw hne
      | cons _ _ => rfl
  refine ⟨?_, key.1, key.2⟩
  refine fcOK_all (by simp) ?_ (fun c hc => ?_) (fun j h0 hj => ?_) (by rw [key.1]; exact key.2)
  · rw [List.length_cons, List.length_take]; omega
  · rcases List.mem_cons.1 hc with rfl | hc
    · exact ha
    · have := hpos c (List.mem_of_mem_take hc)
      refine numB_true.2 ⟨by omega, ?_⟩
      exact cf_bd (by omega) c (List.mem_of_mem_take hc)
  · obtain ⟨j, rfl⟩ : ∃ i, j = i + 1 := ⟨j - 1, by omega⟩
    rw [List.getElem_cons_succ]
    exact hpos _ (List.mem_of_mem_take (List.getElem_mem _))
end Go.Proofs.Ytimaihabaflhiaa
