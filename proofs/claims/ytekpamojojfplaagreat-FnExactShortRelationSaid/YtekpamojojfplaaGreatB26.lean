/-
  TEXTS OF THE PROOF, put together: bGram, pDef, pRoot, pTurn2, pDetL, pVat, pPut, pHil, pHil4.
-/
import Derived.Test.YtekpamojojfplaaGreatB23
import Derived.Test.YtekpamojojfplaaGreatB22
import Derived.Test.YtekpamojojfplaaGreatB25
import Derived.Test.YtekpamojojfplaaGreatB10
import Derived.Test.YtekpamojojfplaaGreatB21
import Derived.Test.YtekpamojojfplaaGreatB09
set_option linter.unusedVariables false
set_option linter.unusedSimpArgs false
namespace Go.Proofs.YtekpamojojfplaaGreat
open Go.RowKit
def sameM (r c r' c' : Int) (xs ys : List Int) : Bool := decide (r = r' ∧ c = c' ∧ xs = ys)
theorem take_all {xs ys : List Int} {k : Nat} (hl : xs.length = ys.length) (hk : ¬ k < xs.length) (h : xs.take k = ys.take k) : xs = ys := by
  rwa [List.take_of_length_le (by omega), List.take_of_length_le (by omega)] at h
theorem take_next {xs ys : List Int} {k : Nat} (h1 : k < xs.length) (h2 : k < ys.length) (h : xs.take k = ys.take k) (he : xs[k] = ys[k]) : xs.take (k + 1) = ys.take (k + 1) := by
  rw [List.take_succ_eq_append_getElem h1, List.take_succ_eq_append_getElem h2, h, he]
theorem d_equalSl (xs ys : List Int) (c d : Nat) (hl : xs.length ≤ 1099511627776) (hl' : ys.length ≤ 1099511627776) : Does Tryz.prog 58 [vS 1 1 0 xs.length c, vS 2 1 0 ys.length d] [(1, .ro (.ints xs)), (2, .ro (.ints ys))] 3 (Ret (vB (decide (xs = ys))) 3) := by
 refine Does.intro TT Tryz.func58 rfl (by kernel_rfl) Zz Zz fun E hE => ?_
 by_cases he : xs.length = ys.length
 ·((repeat' (first | refine stx ?_ | (refine stq ?_ ?_ <;> (intro hc; ((try simp at hc) <;> try contradiction))) | fail)) <;> try (exfalso; omega))
  refine w_G hE (fun k : Nat => k ≤ xs.length ∧ xs.take k = ys.take k) (fun k => xs.length - k)
   (fun k => [(0, vS 1 1 0 xs.length c), (1, vS 2 1 0 ys.length d), (12, vI xs.length), (13, vI k)]) (fun _ => [(1, .ro (.ints xs)), (2, .ro (.ints ys))]) 3 [] 0 ⟨Nat.zero_le _, rfl⟩ ⟨w_1, w_2, rfl⟩ ?_
  rintro k ⟨h1, h2⟩
  by_cases hk : k < xs.length
  ·have hk' : k < ys.length := by omega
   ((repeat' (first | refine stx ?_ | (refine stq ?_ ?_ <;> (intro hc; ((try simp at hc) <;> try contradiction))) | fail)) <;> try (exfalso; omega))
   ·refine fin_ret rfl w_3 (congrArg vB ?_) rfl
    rw [gD hk, gD hk'] at hc
    symm; apply decide_eq_false; intro e; subst e; exact hc rfl
   ·rw [gD hk, gD hk'] at hc
    exact ⟨[], k + 1, ⟨by omega, take_next hk hk' h2 hc⟩, w_4, ⟨w_1, w_2, rfl⟩⟩
  ·((repeat' (first | refine stx ?_ | (refine stq ?_ ?_ <;> (intro hc; ((try simp at hc) <;> try contradiction))) | fail)) <;> try (exfalso; omega))
   refine fin_ret rfl w_3 (congrArg vB ?_) rfl
   simp [take_all he hk h2]
 ·((repeat' (first | refine stx ?_ | (refine stq ?_ ?_ <;> (intro hc; ((try simp at hc) <;> try contradiction))) | fail)) <;> try (exfalso; omega))
  refine fin_ret rfl w_3 (congrArg vB ?_) rfl
  symm; apply decide_eq_false; intro e; subst e; exact he rfl
theorem d_sameI (r c r' c' : Int) (xs ys : List Int) (ca cb : Nat) (hl : xs.length ≤ 1099511627776) (hl' : ys.length ≤ 1099511627776) : Does Tryz.prog 17 [vM r c 1 xs.length ca, vM r' c' 2 ys.length cb] [(1, .ro (.ints xs)), (2, .ro (.ints ys))] 3 (Ret (vB (sameM r c r' c' xs ys)) 3) := by
 refine Does.intro TT Tryz.func17 rfl (by kernel_rfl) Zz Zz fun E hE => ?_
 have hd := d_equalSl xs ys ca cb hl hl'
 cases he : decide (xs = ys)
 all_goals
  rw [he] at hd
  simp only [decide_eq_false_iff_not, decide_eq_true_eq] at he
  ((repeat' (first | refine stx ?_ | refine zqc (hd) ?_ | (refine stq ?_ ?_ <;> (intro hc; ((try simp at hc) <;> try contradiction))) | fail)) <;> try (exfalso; omega))
 all_goals refine fin_ret rfl w_3 (congrArg vB (by rw [Bool.eq_iff_iff]; simp [sameM, he]; try omega)) rfl
def gramB (r c : Int) (xs : List Int) : Bool := sqB r c xs && decide (turnM xs r.toNat c.toNat = xs)
set_option maxHeartbeats 2000000 in
theorem d_gramI (r c : Int) (xs : List Int) (ca : Nat) (hl : xs.length ≤ 1099511627776) : Does Tryz.prog 62 [vM r c 1 xs.length ca] [(1, .ro (.ints xs))] 2 (Ret (vB (gramB r c xs)) 2) := by
 refine Does.intro TT Tryz.func62 rfl (by kernel_rfl) Zz Zz fun E hE => ?_
 have ht := d_turnI r c xs ca hl
 cases hm : isM r c xs
 ·have hs : gramB r c xs = false := by simp [gramB, sqB, hm]
  unfold TurnZ at ht
  rw [hm] at ht
  ((repeat' (first | refine stx ?_ | ((refine zqe (ht) ?_); rintro v Hout n1 ⟨rfl, rfl, rfl⟩) | (refine stq ?_ ?_ <;> (intro hc; ((try simp at hc) <;> try contradiction))) | fail)) <;> try (exfalso; omega))
  refine fin_ret rfl w_3 (congrArg vB hs.symm) rfl
 ·unfold TurnZ at ht
  rw [hm] at ht
  obtain ⟨a, b, rfl, rfl⟩ := isM_pos hm
  obtain ⟨ha, hb, hx, hnum⟩ := isM_nat hm
  simp only [Int.toNat_natCast] at ht
  have hlen : b * a = (turnM xs a b).length := turnM_len.symm
  have hle : (turnM xs a b).length ≤ 1099511627776 := by rw [turnM_len, Nat.mul_comm, ← hx]; exact hl
  rw [hlen] at ht
  have hsm := d_sameI b a a b (turnM xs a b) xs (turnM xs a b).length ca hle hl
  have hg : gramB a b xs = (sqB a b xs && sameM b a a b (turnM xs a b) xs) := by
   rw [Bool.eq_iff_iff]
   simp only [gramB, sameM, Int.toNat_natCast, Bool.and_eq_true, decide_eq_true_eq]
   constructor
   ·rintro ⟨h1, h2⟩
    obtain ⟨n, e1, e2, _⟩ := sqB_dims h1
    exact ⟨h1, by omega, by omega, h2⟩
   ·rintro ⟨h1, _, _, h2⟩
    exact ⟨h1, h2⟩
  rw [hg]
  cases hq : sqB a b xs <;> cases hss : sameM b a a b (turnM xs a b) xs
  all_goals
   rw [hss] at hsm
   ((repeat' (first | refine stx ?_ | ((refine zqe (ht) ?_); rintro v Hout n1 ⟨rfl, rfl, rfl⟩) | (refine zqc (d_sqI _ _ _ _ hl) ?_ <;> simp only [hq]) | refine zqc (hsm) ?_ | (refine stq ?_ ?_ <;> (intro hc; ((try simp at hc) <;> try contradiction))) | fail)) <;> try (exfalso; omega))
  all_goals refine fin_ret rfl w_3 (rfl) rfl
def symTo (xs : List Int) (n i j : Nat) : Prop := ∀ p q, (p < i ∧ q < p) ∨ (p = i ∧ q < j) → xs.getD (p * n + q) 0 = xs.getD (q * n + p) 0
theorem symTo_next {xs : List Int} {n i j : Nat} (h : symTo xs n i j) (he : xs.getD (i * n + j) 0 = xs.getD (j * n + i) 0) : symTo xs n i (j + 1) := fun p q hpq => by
  by_cases c : p = i ∧ q = j
  · obtain ⟨rfl, rfl⟩ := c; exact he
  · exact h p q (by omega)
theorem symTo_row {xs : List Int} {n i : Nat} (h : symTo xs n i i) : symTo xs n (i + 1) 0 := fun p q hpq => h p q (by omega)
theorem turn_sym {xs : List Int} {n : Nat} (hx : xs.length = n * n) : turnM xs n n = xs ↔ symTo xs n n 0 := by
  have key : turnM xs n n = xs ↔ ∀ p q, p < n → q < n → xs.getD (q * n + p) 0 = xs.getD (p * n + q) 0 := by
    constructor
    · intro h p q hp hq
      have h1 : (turnM xs n n).getD (p * n + q) 0 = xs.getD (q * n + p) 0 := by
        have hlt : p * n + q < n * n := cell_lt hp hq
        obtain ⟨e1, e2⟩ := turn_idx (j := p) hq
        rw [List.getD_eq_getElem?_getD, List.getElem?_eq_getElem (by rw [turnM_len]; exact hlt)]
        simp only [turnM, List.getElem_map, List.getElem_range, e1, e2, Option.getD_some]
      rw [← h1, h]
    · intro h
      apply List.ext_getElem (by rw [turnM_len, hx])
      intro k h1 h2
      simp only [turnM, List.getElem_map, List.getElem_range]
      have hn : 0 < n := by
        rcases Nat.eq_zero_or_pos n with e | e
        · subst e; simp [turnM] at h1
        · exact e
      have hk : k < n * n := by rw [← hx]; exact h2
      have h3 := h (k / n) (k % n) (Nat.div_lt_of_lt_mul hk) (Nat.mod_lt _ hn)
      rw [h3, Nat.mul_comm, Nat.div_add_mod]
      simp [h2]
  rw [key]
  constructor
  · intro h p q hpq
    rcases hpq with ⟨h1, h2⟩ | ⟨_, h2⟩
    · exact (h p q h1 (by omega)).symm
    · omega
  · intro h p q hp hq
    rcases Nat.lt_trichotomy p q with c | c | c
    · exact h q p (.inl ⟨hq, c⟩)
    · subst c; rfl
    · exact (h p q (.inl ⟨hp, c⟩)).symm
set_option maxHeartbeats 2000000 in
theorem d_gramS (r c : Int) (xs : List Int) (ca : Nat) (hl : xs.length ≤ 1099511627776) : Does Tryz.prog 64 [vM r c 1 xs.length ca] [(1, .ro (.ints xs))] 2 (Ret (vB (gramB r c xs)) 2) := by
 refine Does.intro TT Tryz.func64 rfl (by kernel_rfl) Zz Zz fun E hE => ?_
 cases hq : sqB r c xs
 ·have hs : gramB r c xs = false := by simp [gramB, hq]
  ((repeat' (first | refine stx ?_ | (refine stq ?_ ?_ <;> (intro hc; ((try simp at hc) <;> try contradiction))) | fail)) <;> try (exfalso; omega))
  refine w_G hE (fun _ : Nat => True) (fun k => k)
   (fun k => [(1, .one (.ptr 2 3 0 0)), (3, vI 0)]) (fun _ => [(1, .ro (.ints xs)), (2, .own 26 1 (.lit [.int r, .int c, .sl 1 1 0 xs.length ca]))]) 3 [] 0 trivial ⟨w_1, w_2, rfl⟩ ?_
  rintro k -
  ((repeat' (first | refine stx ?_ | (refine zqc (d_sqS _ _ _ _ hl) ?_ <;> simp only [hq]) | (refine stq ?_ ?_ <;> (intro hc; ((try simp at hc) <;> try contradiction))) | fail)) <;> try (exfalso; omega))
  all_goals refine fin_ret rfl w_3 (congrArg vB hs.symm) rfl
 ·obtain ⟨n, rfl, rfl, hn, hx, hnum⟩ := sqB_dims hq
  have hg : gramB n n xs = decide (turnM xs n n = xs) := by simp [gramB, hq]
  rw [hg]
  ((repeat' (first | refine stx ?_ | (refine stq ?_ ?_ <;> (intro hc; ((try simp at hc) <;> try contradiction))) | fail)) <;> try (exfalso; omega))
  refine w_G hE (fun i : Nat => i ≤ n ∧ symTo xs n i 0) (fun i => n - i)
   (fun i => [(1, .one (.ptr 2 3 0 0)), (3, vI i)]) (fun _ => [(1, .ro (.ints xs)), (2, .own 26 1 (.lit [.int n, .int n, .sl 1 1 0 xs.length ca]))]) 3 [] 0 ⟨Nat.zero_le _, fun p q h => by omega⟩ ⟨w_1, w_2, rfl⟩ ?_
  rintro i ⟨hi, hsy⟩
  by_cases hin : i < n
  ·((repeat' (first | refine stx ?_ | (refine zqc (d_sqS _ _ _ _ hl) ?_ <;> simp only [hq]) | (refine stq ?_ ?_ <;> (intro hc; ((try simp at hc) <;> try contradiction))) | fail)) <;> try (exfalso; omega))
   refine w_G hE (fun j : Nat => j ≤ i ∧ symTo xs n i j) (fun j => i - j)
    (fun j => [(1, .one (.ptr 2 3 0 0)), (3, vI i), (4, vI j)]) (fun _ => [(1, .ro (.ints xs)), (2, .own 26 1 (.lit [.int n, .int n, .sl 1 1 0 xs.length ca]))]) 3 [] 0 ⟨Nat.zero_le _, hsy⟩ ⟨w_1, w_2, rfl⟩ ?_
   rintro j ⟨hj, hsj⟩
   by_cases hji : j < i
   ·have hjn : j < n := by omega
    have b1 := cell_facts hin hjn (by omega) (show n ≤ 24 by omega)
    have b2 := cell_facts hjn hin (by omega) (show n ≤ 24 by omega)
    rw [← hx] at b1 b2
    have e1 := cell_natT (p := i) (k := j) (c := n)
    have e2 := cell_natT (p := j) (k := i) (c := n)
    have c1 := d_cell12 n n i j xs _ ca rfl (by omega) (by omega) b1.2 hl
    have c2 := d_cell12 n n j i xs _ ca rfl (by omega) (by omega) b2.2 hl
    rw [e1] at c1
    rw [e2] at c2
    ((repeat' (first | refine stx ?_ | refine zqc (c1) ?_ | refine zqc (c2) ?_ | (refine stq ?_ ?_ <;> (intro hc; ((try simp at hc) <;> try contradiction))) | fail)) <;> try (exfalso; omega))
    ·refine fin_ret rfl w_3 (congrArg vB ?_) rfl
     symm; apply decide_eq_false
     intro e
     have := (turn_sym hx).1 e i j (.inl ⟨hin, hji⟩)
     simp only [List.getD_eq_getElem?_getD] at this
     exact hc this
    ·refine ⟨[], j + 1, ⟨by omega, symTo_next hsj (by simp only [List.getD_eq_getElem?_getD]; exact hc)⟩, w_4, ⟨w_1, w_2, rfl⟩⟩
   ·obtain rfl : j = i := by omega
    ((repeat' (first | refine stx ?_ | (refine stq ?_ ?_ <;> (intro hc; ((try simp at hc) <;> try contradiction))) | fail)) <;> try (exfalso; omega))
    exact ⟨[], j + 1, ⟨by omega, symTo_row hsj⟩, w_4, ⟨w_1, w_2, rfl⟩⟩
  ·obtain rfl : i = n := by omega
   ((repeat' (first | refine stx ?_ | (refine zqc (d_sqS _ _ _ _ hl) ?_ <;> simp only [hq]) | (refine stq ?_ ?_ <;> (intro hc; ((try simp at hc) <;> try contradiction))) | fail)) <;> try (exfalso; omega))
   refine fin_ret rfl w_3 (congrArg vB (by symm; rw [decide_eq_true_eq]; exact (turn_sym hx).2 hsy)) rfl
theorem mulZ_some {r n n' c : Int} {xs ys p : List Int} (h : mulZ r n n' c xs ys = some p) : isM r n xs = true ∧ isM n' c ys = true ∧ n = n' ∧ isM r c p = true := by
  unfold mulZ at h
  split at h
  · rename_i hh
    cases h
    simp only [Bool.and_eq_true, beq_iff_eq] at hh
    obtain ⟨⟨⟨h1, h2⟩, rfl⟩, h3⟩ := hh
    obtain ⟨r, n, rfl, rfl⟩ := isM_pos h1
    obtain ⟨n', c, _, rfl⟩ := isM_pos h2
    obtain ⟨g1, _⟩ := isM_nat h1
    obtain ⟨_, g2, _⟩ := isM_nat h2
    refine ⟨h1, h2, rfl, ?_⟩
    simp only [Int.toNat_natCast] at h3 ⊢
    rw [isM_mul g1 g2]; exact h3
  · cases h
theorem isM_le {r c : Int} {xs : List Int} (h : isM r c xs = true) : xs.length ≤ 576 := by
  obtain ⟨⟨h1, h2, h3, h4, h5⟩, _⟩ := isM_true h
  have := (side_bd h1 h2 h3 h4).2
  omega
theorem isM_turn {a b : Nat} {xs : List Int} (h : isM a b xs = true) : isM b a (turnM xs a b) = true := by
  obtain ⟨h1, h2, h3, h4⟩ := isM_nat h
  have hn : (turnM xs a b).all numB = true := by
    rw [List.all_eq_true]
    intro x hx
    obtain ⟨p, _, rfl⟩ := List.mem_map.1 hx
    exact numB_true.2 (num_getD h4 _)
  simp only [isM, hn, Bool.and_true, decide_eq_true_eq]
  exact ⟨by omega, by omega, by omega, by omega, by rw [turnM_len]; simp⟩
def chgZ (gr gc : Int) (gx : List Int) (ur uc : Int) (ux : List Int) : Option (List Int) := match gramB gr gc gx with
  | true => match mulZ ur uc gr gc ux gx with
    | some p => mulZ ur gc uc ur p (turnM ux ur.toNat uc.toNat)
    | none => none
  | false => none
def isoB (gr gc : Int) (gx : List Int) (hr hc : Int) (hx : List Int) (ur uc : Int) (ux : List Int) : Bool := match chgZ hr hc hx ur uc ux with
  | some z => sameM ur ur gr gc z gx && unimB ur uc ux
  | none => false
end Go.Proofs.YtekpamojojfplaaGreat
namespace Go.Proofs.YtekpamojojfplaaGreat
def posL (l : List Int) : Bool := l.all fun n => decide (0 < n)
def defB (r c : Int) (xs : List Int) : Bool := (match leadO r c xs with
  | some l => posL l
  | none => false) && gramB r c xs
end Go.Proofs.YtekpamojojfplaaGreat
namespace Go.Proofs.YtekpamojojfplaaGreat
def rtTo (n : Int) : Nat → Nat → Nat
  | 0, r => r
  | f + 1, r => if ((r : Int) + 1) * ((r : Int) + 1) ≤ n then rtTo n f (r + 1) else r
def rootN (n : Int) : Nat := rtTo n n.toNat 0
theorem rt_stop {n : Int} {r : Nat} (h : ¬ ((r : Int) + 1) * ((r : Int) + 1) ≤ n) : ∀ f, rtTo n f r = r
  | 0 => rfl
  | f + 1 => by rw [rtTo, if_neg h]
theorem rt_in {n : Int} {r : Nat} (h : ((r : Int) + 1) * ((r : Int) + 1) ≤ n) : (r : Int) + 1 ≤ n := by
  have : (r : Int) + 1 ≤ ((r : Int) + 1) * ((r : Int) + 1) := by
    have := Int.mul_le_mul_of_nonneg_left (show (1 : Int) ≤ (r : Int) + 1 by omega) (show (0 : Int) ≤ (r : Int) + 1 by omega)
    omega
  omega
theorem rt_next {n : Int} {r : Nat} (h : ((r : Int) + 1) * ((r : Int) + 1) ≤ n) : rtTo n (n.toNat - r) r = rtTo n (n.toNat - (r + 1)) (r + 1) := by
  have := rt_in h
  rw [show n.toNat - r = (n.toNat - (r + 1)) + 1 by omega, rtTo, if_pos h]
theorem rt_spec {n : Int} : ∀ {f r : Nat}, n.toNat ≤ r + f → (r : Int) * r ≤ n → ((rtTo n f r : Nat) : Int) * (rtTo n f r : Nat) ≤ n ∧ n < ((rtTo n f r : Nat) + 1 : Int) * ((rtTo n f r : Nat) + 1 : Int)
  | 0, r, h, hr => by
    rw [rtTo]
    refine ⟨hr, ?_⟩
    have := Int.mul_le_mul_of_nonneg_left (show (1 : Int) ≤ (r : Int) + 1 by omega) (show (0 : Int) ≤ (r : Int) + 1 by omega)
    omega
  | f + 1, r, h, hr => by
    rw [rtTo]
    split
    · rename_i h1
      exact rt_spec (r := r + 1) (by omega) (by exact_mod_cast h1)
    · rename_i h1
      exact ⟨hr, by omega⟩
theorem rootN_spec {n : Int} (h : 0 ≤ n) : ((rootN n : Nat) : Int) * (rootN n : Nat) ≤ n ∧ n < ((rootN n : Nat) + 1 : Int) * ((rootN n : Nat) + 1 : Int) := rt_spec (by omega) (by omega)
theorem rt_bd2 {n : Int} : ∀ {f r : Nat}, rtTo n f r ≤ r + f
  | 0, r => by rw [rtTo]; omega
  | f + 1, r => by
    rw [rtTo]
    split
    · have := rt_bd2 (n := n) (f := f) (r := r + 1); omega
    · omega
theorem root_bd (n : Int) : rootN n ≤ n.toNat := by
  have := rt_bd2 (n := n) (f := n.toNat) (r := 0)
  unfold rootN; omega
theorem tdiv_bdN {x d : Int} (hx : -400000000 ≤ x ∧ x ≤ 400000000) : -400000000 ≤ x.tdiv d ∧ x.tdiv d ≤ 400000000 := by
  have := Int.natAbs_tdiv_le_natAbs x d
  omega
def bxTo (a : List Int) (n : Nat) (bound d : Int) : Nat → Option (List Int)
  | 0 => some []
  | i + 1 => (bxTo a n bound d i).bind fun l => if numB (bound * a.getD (i * n + i) 0) = true then some (l ++ [((rootN ((bound * a.getD (i * n + i) 0).tdiv d) : Nat) : Int)]) else none
theorem bxTo_len {a : List Int} {n : Nat} {bound d : Int} : ∀ {i : Nat} {l : List Int}, bxTo a n bound d i = some l → l.length = i
  | 0, l, h => by cases h; rfl
  | i + 1, l, h => by
    rw [bxTo, Option.bind_eq_some_iff] at h
    obtain ⟨l0, h1, h2⟩ := h
    split at h2
    · cases h2
      rw [List.length_append, bxTo_len h1]; rfl
    · cases h2
theorem bxTo_none {a : List Int} {n : Nat} {bound d : Int} {i : Nat} (h : bxTo a n bound d i = none) : ∀ m, bxTo a n bound d (i + m) = none
  | 0 => h
  | m + 1 => by rw [← Nat.add_assoc, bxTo, bxTo_none h m]; rfl
def boxG (r c : Int) (g : List Int) (bound : Int) : Option (List Int) := (adjZ r c g).bind fun a => if (defB r c g && inB bound 0 10000) = true then bxTo a r.toNat bound ((detB r c g).getD 0) r.toNat else none
theorem ldR_full {xs : List Int} {n : Nat} : ∀ {i : Nat}, ldR xs n n i = xs.take (i * n)
  | 0 => by simp [ldR]
  | i + 1 => by
    rw [ldR_next, ldR_full, Nat.succ_mul, List.take_add]
theorem leadTo_last {xs : List Int} {c : Nat} : ∀ {k : Nat} {l : List Int}, leadTo xs c k = some l → ∀ i, i < k → detZ (i + 1) (ldR xs c (i + 1) (i + 1)) = some (l.getD i 0)
  | 0, l, h, i, hi => by omega
  | k + 1, l, h, i, hi => by
    rw [leadTo, Option.bind_eq_some_iff] at h
    obtain ⟨l0, h1, h2⟩ := h
    obtain ⟨d, h3, rfl⟩ := Option.map_eq_some_iff.1 h2
    have hl := leadTo_len h1
    by_cases c : i < k
    · rw [leadTo_last h1 i c, List.getD_eq_getElem?_getD, List.getD_eq_getElem?_getD, List.getElem?_append_left (by omega)]
    · obtain rfl : i = k := by omega
      rw [h3, List.getD_eq_getElem?_getD, List.getElem?_append_right (by omega), hl, Nat.sub_self]; rfl
theorem defB_all {r c : Int} {xs : List Int} (h : defB r c xs = true) : ∃ n : Nat, r = n ∧ c = n ∧ n ≤ 6 ∧ xs.length = n * n ∧ xs.all numB = true ∧ turnM xs n n = xs ∧ sqB r c xs = true ∧ ∀ i, i < n → ∃ d, detZ (i + 1) (ldR xs n (i + 1) (i + 1)) = some d ∧ 0 < d := by
  have h0 := h
  simp only [defB, Bool.and_eq_true] at h
  obtain ⟨h1, h2⟩ := h
  simp only [gramB, Bool.and_eq_true, decide_eq_true_eq] at h2
  obtain ⟨n, rfl, rfl, hn, hx, hnum⟩ := sqB_dims h2.1
  refine ⟨n, rfl, rfl, hn, hx, hnum, by simpa using h2.2, h2.1, fun i hi => ?_⟩
  have hle : leadO n n xs = leadTo xs n n := by rw [leadO, if_pos h2.1]; simp
  rw [hle] at h1
  cases hl : leadTo xs n n with
  | none => rw [hl] at h1; cases h1
  | some l =>
    rw [hl] at h1
    refine ⟨_, leadTo_last hl i hi, ?_⟩
    have hll := leadTo_len hl
    have := List.all_eq_true.1 (show l.all (fun n => decide (0 < n)) = true from h1) (l.getD i 0) (by
      rw [List.getD_eq_getElem?_getD, List.getElem?_eq_getElem (by omega), Option.getD_some]; exact List.getElem_mem _)
    exact of_decide_eq_true this
theorem defB_det {r c : Int} {xs : List Int} (h : defB r c xs = true) : ∃ d, detB r c xs = some d ∧ 0 < d := by
  obtain ⟨n, rfl, rfl, hn, hx, -, -, hs, hd⟩ := defB_all h
  have e : detB n n xs = detZ n xs := by rw [detB, if_pos hs, Int.toNat_natCast]
  rw [e]
  cases n with
  | zero => exact ⟨1, rfl, by omega⟩
  | succ m =>
    obtain ⟨d, h1, h2⟩ := hd m (by omega)
    refine ⟨d, ?_, h2⟩
    rwa [ldR_full, List.take_of_length_le (by omega)] at h1
end Go.Proofs.YtekpamojojfplaaGreat
namespace Go.Proofs.YtekpamojojfplaaGreat
def vecL (v : List Int) : Vec := fun k => v.getD k 0
theorem turnM_at {P : List Int} {k c p l : Nat} (hp : p < k) (hl : l < c) : (turnM P k c).getD (l * k + p) 0 = P.getD (p * c + l) 0 := by
  have hlt : l * k + p < c * k := cell_lt hl hp
  obtain ⟨e1, e2⟩ := turn_idx (j := l) hp
  rw [getD_in (by rw [turnM_len]; exact hlt)]
  simp only [turnM, List.getElem_map, List.getElem_range, e1, e2]
end Go.Proofs.YtekpamojojfplaaGreat
namespace Go.Proofs.YtekpamojojfplaaGreat
def mxL (n : Nat) (xs : List Int) : Mx := fun i j => xs.getD (i * n + j) 0
theorem getD_app {l m : List Int} {k : Nat} (h : k < l.length) : (l ++ m).getD k 0 = l.getD k 0 := by
  rw [List.getD_eq_getElem?_getD, List.getD_eq_getElem?_getD, List.getElem?_append_left h]
theorem getD_apR {l m : List Int} {k : Nat} (h : l.length ≤ k) : (l ++ m).getD k 0 = m.getD (k - l.length) 0 := by
  rw [List.getD_eq_getElem?_getD, List.getD_eq_getElem?_getD, List.getElem?_append_right h]
theorem minRow_at {xs : List Int} {off col : Nat} : ∀ {j b : Nat}, b < (minRow xs off col j).length → (minRow xs off col j).getD b 0 = xs.getD (off + skp col b) 0
  | 0, b, h => by simp [minRow] at h
  | j + 1, b, h => by
    unfold minRow at h ⊢
    have hl := minRow_len (xs := xs) (off := off) (col := col) (j := j)
    split
    · rename_i e
      rw [if_pos e] at h
      exact minRow_at h
    · rename_i e
      rw [if_neg e, List.length_append, List.length_singleton] at h
      by_cases c : b < (minRow xs off col j).length
      · rw [getD_app c]; exact minRow_at c
      · rw [getD_apR (by omega), show b - (minRow xs off col j).length = 0 by omega]
        show xs.getD (off + j) 0 = _
        congr 2
        unfold skp
        split at hl <;> split <;> omega
theorem minM_at {xs : List Int} {n row col : Nat} (hc : col < n + 1) : ∀ {i a b : Nat}, skp row a < i → b < n → (minM xs (n + 1) row col i).getD (a * n + b) 0 = xs.getD (skp row a * (n + 1) + skp col b) 0
  | 0, a, b, h, _ => by omega
  | i + 1, a, b, h, hb => by
    have hl := minM_lenR (xs := xs) (row := row) hc (i := i)
    unfold minM
    split
    · rename_i e
      exact minM_at hc (by unfold skp at *; split at h <;> split <;> omega) hb
    · rename_i e
      by_cases c : skp row a < i
      · rw [getD_app]
        · exact minM_at hc c hb
        · rw [hl]
          have : a + 1 ≤ (if row < i then i - 1 else i) := by unfold skp at c; split at c <;> split <;> omega
          have := Nat.mul_le_mul_right n this
          rw [Nat.add_mul] at this; omega
      · have e1 : skp row a = i := by omega
        have e2 : (if row < i then i - 1 else i) = a := by unfold skp at e1; split at e1 <;> split <;> omega
        rw [e2] at hl
        rw [getD_apR (by omega), hl, show a * n + b - a * n = b by omega, minRow_at (by rw [minRow_len, if_pos hc]; omega), e1]
theorem detTo_sg {xs : List Int} {d : Nat → Option Int} {f : Nat → Int} : ∀ {j : Nat} {s : Int}, detTo xs d j = some s → (∀ i, i < j → ∀ v, d i = some v → v = f i) → s = sg (fun i => sgnN i * xs.getD i 0 * f i) j
  | 0, s, h, _ => by cases h; rfl
  | j + 1, s, h, hf => by
    unfold detTo at h
    split at h
    · cases h
    · rename_i s0 h0
      have ih := detTo_sg h0 fun i hi => hf i (by omega)
      rw [sg, ← ih]
      split at h
      · rename_i e
        cases h
        rw [e]; omega
      · split at h
        · cases h
        · rename_i v hv
          cases h
          rw [← hf j (by omega) v hv]
          unfold sgnN
          split <;> grind
theorem detZ_F : ∀ {n : Nat} {xs : List Int} {v : Int}, detZ n xs = some v → v = detF n (mxL n xs)
  | 0, xs, v, h => by cases h; rfl
  | n + 1, xs, v, h => by
    rw [detZ] at h
    have h2 : detTo xs (fun j => detZ n (minM xs (n + 1) 0 j (n + 1))) (n + 1) = some v := by
      unfold fitO at h
      split at h
      · cases h
      · rename_i s hs
        split at h
        · cases h; exact hs
        · cases h
    have := detTo_sg (f := fun j => detF n (minF (mxL (n + 1) xs) 0 j)) h2 fun j hj v hv => by
      rw [detZ_F hv]
      exact detF_congr fun a b ha hb => by
        show (minM xs (n + 1) 0 j (n + 1)).getD (a * n + b) 0 = xs.getD (skp 0 a * (n + 1) + skp j b) 0
        exact minM_at hj (skp_lt ha) hb
    rw [this, detF]
    exact sg_congr fun j hj => by
      show _ = sgnN j * xs.getD (0 * (n + 1) + j) 0 * _
      rw [Nat.zero_mul, Nat.zero_add]
theorem ldR_at {xs : List Int} {c k : Nat} (hk : k ≤ c) : ∀ {i p q : Nat}, i * c ≤ xs.length → p < i → q < k → (ldR xs c k i).getD (p * k + q) 0 = xs.getD (p * c + q) 0
  | 0, p, q, _, h, _ => by omega
  | i + 1, p, q, hx, hp, hq => by
    have hx2 : i * c ≤ xs.length := by rw [Nat.succ_mul] at hx; omega
    have hl := ldR_len (xs := xs) hk hx2
    rw [ldR_next]
    by_cases e : p < i
    · rw [getD_app (by
        rw [hl]
        have := Nat.mul_le_mul_right k (show p + 1 ≤ i by omega)
        rw [Nat.add_mul] at this; omega)]
      exact ldR_at hk hx2 e hq
    · obtain rfl : p = i := by omega
      rw [getD_apR (by omega), hl, show p * k + q - p * k = q by omega, List.getD_eq_getElem?_getD, List.getD_eq_getElem?_getD, List.getElem?_take, if_pos hq, List.getElem?_drop]
theorem defB_pos {r c : Int} {xs : List Int} (h : defB r c xs = true) : ∃ n : Nat, r = n ∧ c = n ∧ n ≤ 6 ∧ xs.length = n * n ∧ xs.all numB = true ∧ SymM n (mxL n xs) ∧ PosM n (mxL n xs) ∧ ∀ k, k < n → 0 < detF (k + 1) (mxL n xs) := by
  obtain ⟨n, rfl, rfl, hn, hx, hnum, ht, hs, hd⟩ := defB_all h
  have hsym : SymM n (mxL n xs) := fun i j hi hj => by
    show xs.getD (i * n + j) 0 = xs.getD (j * n + i) 0
    have := turnM_at (P := xs) (k := n) (c := n) (p := j) (l := i) hj hi
    rwa [ht] at this
  have hdet : ∀ k, k < n → 0 < detF (k + 1) (mxL n xs) := fun k hk => by
    obtain ⟨d, h1, h2⟩ := hd k hk
    rw [detZ_F h1] at h2
    rwa [detF_congr (M' := mxL n xs) fun i j hi hj => by
      show (ldR xs n (k + 1) (k + 1)).getD (i * (k + 1) + j) 0 = xs.getD (i * n + j) 0
      refine ldR_at (by omega) ?_ hi hj
      rw [hx]; exact Nat.mul_le_mul_right n (by omega)] at h2
  exact ⟨n, rfl, rfl, hn, hx, hnum, hsym, sylv hsym hdet, hdet⟩
end Go.Proofs.YtekpamojojfplaaGreat
namespace Go.Proofs.YtekpamojojfplaaGreat
def vatO (r c : Int) (g v : List Int) : Option Int := if gramB r c g && decide ((v.length : Int) = r) then (mulZ 1 v.length r c v g).bind fun p => (mulZ 1 c v.length 1 p v).map fun z => z.getD 0 0 else none
def posF : List Int → Bool
  | [] => false
  | x :: t => if x = 0 then posF t else decide (0 < x)
theorem dotTo_sg {xs ys : List Int} {n c i j : Nat} : ∀ k, dotTo xs ys n c i j k = sg (fun t => xs.getD (i * n + t) 0 * ys.getD (t * c + j) 0) k
  | 0 => rfl
  | k + 1 => by rw [dotTo, sg, dotTo_sg k]
theorem mulM_getD {r n c i j : Nat} {xs ys : List Int} (hi : i < r) (hj : j < c) : (mulM r n c xs ys).getD (i * c + j) 0 = sg (fun t => xs.getD (i * n + t) 0 * ys.getD (t * c + j) 0) n := by
  have h := cell_lt hi hj
  rw [List.getD_eq_getElem?_getD, List.getElem?_eq_getElem (by rw [mulM_len]; exact h), Option.getD_some, mulM_at hi hj, dotTo_sg]
theorem mulZ_eq {r n n' c : Int} {xs ys p : List Int} (h : mulZ r n n' c xs ys = some p) : p = mulM r.toNat n.toNat c.toNat xs ys := by
  unfold mulZ at h
  split at h
  · cases h; rfl
  · cases h
theorem gramB_nat {r c : Int} {g : List Int} (h : gramB r c g = true) : ∃ n : Nat, r = n ∧ c = n ∧ n ≤ 6 ∧ g.length = n * n ∧ g.all numB = true ∧ SymM n (mxL n g) := by
  simp only [gramB, Bool.and_eq_true, decide_eq_true_eq] at h
  obtain ⟨n, rfl, rfl, hn, hx, hnum⟩ := sqB_dims h.1
  refine ⟨n, rfl, rfl, hn, hx, hnum, fun i j hi hj => ?_⟩
  show g.getD (i * n + j) 0 = g.getD (j * n + i) 0
  have := turnM_at (P := g) (k := n) (c := n) (p := j) (l := i) hj hi
  have ht := h.2
  simp only [Int.toNat_natCast] at ht
  rwa [ht] at this
theorem vatO_some {r c : Int} {g v : List Int} {z : Int} (h : vatO r c g v = some z) : ∃ n : Nat, r = n ∧ c = n ∧ gramB r c g = true ∧ v.length = n ∧ v.all numB = true ∧ numB z = true ∧ z = bilM n (mxL n g) (vecL v) (vecL v) := by
  unfold vatO at h
  split at h
  · rename_i hc
    simp only [Bool.and_eq_true, decide_eq_true_eq] at hc
    obtain ⟨n, rfl, rfl, hn, hx, hnum, hs⟩ := gramB_nat hc.1
    have hvl : v.length = n := by omega
    obtain ⟨p, hp, h⟩ := Option.bind_eq_some_iff.1 h
    obtain ⟨q, hq, rfl⟩ := Option.map_eq_some_iff.1 h
    have h1 := mulZ_some hp
    have h2 := mulZ_some hq
    have hv := (isM_nat (r := 1) (c := v.length) (by simpa using h1.1)).2.2.2
    have hqn := (isM_nat (r := 1) (c := 1) (by simpa using h2.2.2.2)).2.2.2
    refine ⟨n, rfl, rfl, hc.1, hvl, hv, numB_true.2 (num_getD hqn 0), ?_⟩
    have ep := mulZ_eq hp
    have eq := mulZ_eq hq
    rw [hvl] at ep
    simp only [Int.toNat_natCast, Int.toNat_one] at ep eq
    have hq0 : q.getD 0 0 = sg (fun t => p.getD (0 * n + t) 0 * v.getD (t * 1 + 0) 0) n := by
      rw [eq]; exact mulM_getD (i := 0) (j := 0) (r := 1) (c := 1) (by omega) (by omega)
    rw [hq0, bilM_sym hs, bilM_two, sg_swap]
    refine sg_congr fun t ht => ?_
    have hpt : p.getD (0 * n + t) 0 = sg (fun k => v.getD (0 * n + k) 0 * g.getD (k * n + t) 0) n := by
      rw [ep]; exact mulM_getD (i := 0) (r := 1) (by omega) ht
    rw [hpt, Int.mul_comm, ← sg_mul]
    refine sg_congr fun k hk => ?_
    show v.getD (t * 1 + 0) 0 * (v.getD (0 * n + k) 0 * g.getD (k * n + t) 0) = v.getD k 0 * g.getD (k * n + t) 0 * v.getD t 0
    rw [Nat.mul_one, Nat.add_zero, Nat.zero_mul, Nat.zero_add]; grind
  · cases h
theorem posF_ne : ∀ {v : List Int}, posF v = true → ∃ k, k < v.length ∧ v.getD k 0 ≠ 0
  | [], h => by cases h
  | x :: t, h => by
    unfold posF at h
    split at h
    · obtain ⟨k, hk, h2⟩ := posF_ne h
      exact ⟨k + 1, by simpa using hk, by simpa using h2⟩
    · rename_i hx
      exact ⟨0, by simp, by simpa using hx⟩
theorem vat_pos {r c : Int} {g v : List Int} {z : Int} (hd : defB r c g = true) (hv : posF v = true) (h : vatO r c g v = some z) : 1 ≤ z := by
  obtain ⟨n, rfl, rfl, -, hvl, -, -, rfl⟩ := vatO_some h
  obtain ⟨n', e, -, -, -, -, -, hp, -⟩ := defB_pos hd
  obtain rfl : n' = n := by omega
  obtain ⟨k, hk, h0⟩ := posF_ne hv
  exact hp _ ⟨k, by omega, h0⟩
def unitV (j : Nat) : Vec := fun k => if k = j then 1 else 0
end Go.Proofs.YtekpamojojfplaaGreat
namespace Go.Proofs.YtekpamojojfplaaGreat
theorem strict_of {l : List (List Int × Int)} (h : l.Pairwise fun x y => ¬ cmpV y x < 0) (hn : l.Nodup) : StrictV l := by
  refine (h.and hn).imp ?_
  rintro x y ⟨h1, h2⟩
  rcases Int.lt_trichotomy (cmpV x y) 0 with c | c | c
  · exact c
  · exact absurd (cmpV_eq c) h2
  · exact absurd ((cmpV_neg x y).2 c) h1
theorem putV_at {x : List Int × Int} : ∀ {L : List (List Int × Int)} {k : Nat}, k ≤ L.length → (∀ j, k ≤ j → j < L.length → 0 < cmpV (L.getD j ([], 0)) x) → (k = 0 ∨ ¬ 0 < cmpV (L.getD (k - 1) ([], 0)) x) → putV L x = L.take k ++ x :: L.drop k
  | [], k, hk, _, _ => by
    have : k = 0 := by simpa using hk
    subst this; simp [putV]
  | y :: L, 0, _, h, _ => by
    have ha : (y :: L).all (fun y => decide (0 < cmpV y x)) = true := List.all_eq_true.2 fun z hz => by
      obtain ⟨j, hj, rfl⟩ := List.mem_iff_getElem.1 hz
      have := h j (by omega) hj
      rw [getD_in hj] at this
      exact decide_eq_true this
    rw [putV, if_pos ha]; rfl
  | y :: L, k + 1, hk, h, h2 => by
    have hn : ¬ 0 < cmpV ((y :: L).getD k ([], 0)) x := by
      rcases h2 with h2 | h2
      · omega
      · exact h2
    have hkl : k < (y :: L).length := by omega
    have ha : ¬ (y :: L).all (fun y => decide (0 < cmpV y x)) = true := fun ha => by
      have := List.all_eq_true.1 ha _ (List.getElem_mem hkl)
      rw [← getD_in (d := ([], 0)) hkl] at this
      exact hn (of_decide_eq_true this)
    have ih := putV_at (x := x) (L := L) (k := k) (by simpa using hk) (fun j h1 h3 => by simpa using h (j + 1) (by omega) (by simpa using h3)) (by
      rcases k with _ | k
      · exact .inl rfl
      · right; simpa using hn)
    rw [putV, if_neg ha, ih]; rfl
theorem putV_strict {x : List Int × Int} {L : List (List Int × Int)} (h : StrictV L) (hx : x ∉ L) : StrictV (putV L x) := by
  induction L with
  | nil => simp [putV, StrictV]
  | cons y L ih =>
    have h1 := List.pairwise_cons.1 h
    rw [putV]
    split
    · rename_i ha
      refine List.pairwise_cons.2 ⟨fun z hz => ?_, h⟩
      have := of_decide_eq_true (List.all_eq_true.1 ha z hz)
      exact (cmpV_neg z x).2 this
    · rename_i ha
      have hyx : cmpV y x < 0 := by
        rcases Int.lt_trichotomy (cmpV y x) 0 with c | c | c
        · exact c
        · exact absurd (cmpV_eq c) (fun e => hx (by rw [e]; simp))
        · exfalso
          apply ha
          refine List.all_eq_true.2 fun z hz => decide_eq_true ?_
          rcases List.mem_cons.1 hz with e | e
          · rw [e]; exact c
          · exact (cmpV_neg z x).1 (cmpV_trans ((cmpV_neg y x).2 c) (h1.1 z e))
      refine List.pairwise_cons.2 ⟨fun z hz => ?_, ih h1.2 fun e => hx (by simp [e])⟩
      rcases mem_putV.1 hz with e | e
      · rw [e]; exact hyx
      · exact h1.1 z e
def putsV (L : List (List Int × Int)) : List (List Int × Int) := L.foldl putV []
theorem putsV_snoc (L : List (List Int × Int)) (x : List Int × Int) : putsV (L ++ [x]) = putV (putsV L) x := by simp [putsV]
theorem mem_puts {L : List (List Int × Int)} {x : List Int × Int} : x ∈ putsV L ↔ x ∈ L := by
  suffices h : ∀ (L M : List (List Int × Int)), x ∈ L.foldl putV M ↔ x ∈ M ∨ x ∈ L by have := h L []; simpa [putsV] using this
  intro L
  induction L with
  | nil => intro M; simp
  | cons y L ih =>
    intro M
    rw [List.foldl_cons, ih, mem_putV, List.mem_cons]
    constructor
    · rintro ((h | h) | h)
      · exact .inr (.inl h)
      · exact .inl h
      · exact .inr (.inr h)
    · rintro (h | h | h)
      · exact .inl (.inr h)
      · exact .inl (.inl h)
      · exact .inr h
theorem puts_strict {L : List (List Int × Int)} (h : L.Nodup) : StrictV (putsV L) := by
  suffices hs : ∀ (L M : List (List Int × Int)), L.Nodup → StrictV M → (∀ x ∈ L, x ∉ M) → StrictV (L.foldl putV M) by
    exact hs L [] h List.Pairwise.nil fun x _ h => by cases h
  intro L
  induction L with
  | nil => intro M _ h _; exact h
  | cons y L ih =>
    intro M h1 h2 h3
    have h4 := List.pairwise_cons.1 h1
    rw [List.foldl_cons]
    refine ih _ h4.2 (putV_strict h2 (h3 y (by simp))) fun x hx hm => ?_
    rcases mem_putV.1 hm with e | e
    · exact h4.1 x hx e.symm
    · exact h3 x (by simp [hx]) e
end Go.Proofs.YtekpamojojfplaaGreat
namespace Go.Proofs.YtekpamojojfplaaGreat
theorem box_le {lo hi : List Int} : ∀ {t : Nat}, t ≤ lo.length → ∀ v ∈ boxTo lo hi t, ∀ k, k < t → lo.getD k 0 ≤ v.getD k 0 ∧ v.getD k 0 < lo.getD k 0 + widW lo hi k
  | 0, _, v, _, k, hk => by omega
  | t + 1, ht, v, h, k, hk => by
    simp only [boxTo, extL, spanL, List.mem_flatMap, List.mem_map, List.mem_range] at h
    obtain ⟨u, hu, n, ⟨m, hm, rfl⟩, rfl⟩ := h
    have hul := box_row u hu
    by_cases c : k < t
    · have := box_le (by omega) u hu k c
      rw [getD_appL (by omega)]; exact this
    · obtain rfl : k = t := by omega
      have e : (u ++ [lo.getD k 0 + (m : Int)]).getD k 0 = lo.getD k 0 + (m : Int) := by
        rw [getD_appR (by omega), show k - u.length = 0 by omega]; rfl
      rw [e]
      have : 0 < widW lo hi k := by omega
      omega
theorem ok_wid {lo hi : List Int} (hw : ∀ k, k < lo.length → 1 ≤ widW lo hi k) : ∀ {t : Nat}, t ≤ lo.length → okTo lo hi t = true → ∀ k, k < t → widW lo hi k ≤ 4000
  | 0, _, _, k, hk => by omega
  | t + 1, ht, h, k, hk => by
    rw [okTo, Bool.and_eq_true, decide_eq_true_eq, cntW] at h
    by_cases c : k < t
    · exact ok_wid hw (by omega) h.1 k c
    · obtain rfl : k = t := by omega
      have h1 := (box_len hw k (by omega)).2
      have h2 := hw k ht
      have := Int.mul_le_mul_of_nonneg_right h1 (show 0 ≤ widW lo hi k by omega)
      omega
theorem box_sm {w : List Int} {L : List (List Int)} (hw : ∀ k, 0 ≤ w.getD k 0) (h : boxO (w.map fun x => -x) w = some L) : ∀ v ∈ L, v.length = w.length ∧ ∀ k, k < w.length → -2000 ≤ v.getD k 0 ∧ v.getD k 0 ≤ 2000 := by
  have hn : ∀ k, (w.map fun x => -x).getD k 0 = -(w.getD k 0) := fun k => by
    simp only [List.getD_eq_getElem?_getD, List.getElem?_map]; cases w[k]? <;> simp
  have hwd : ∀ k, widW (w.map fun x => -x) w k = 2 * w.getD k 0 + 1 := fun k => by rw [widW, hn]; omega
  have hl : (w.map fun x => -x).length = w.length := List.length_map _
  unfold boxO at h
  split at h
  · rename_i hok
    injection h with h
    subst h
    intro v hv
    rw [hl] at hv
    refine ⟨box_row v hv, fun k hk => ?_⟩
    have h1 := box_le (by omega) v hv k hk
    have h2 := ok_wid (fun k _ => by rw [hwd]; have := hw k; omega) (Nat.le_refl _) hok k (by omega)
    rw [hwd] at h1 h2
    rw [hn] at h1
    omega
  · cases h
theorem box_4000 {lo hi : List Int} {L : List (List Int)} (hw : ∀ k, k < lo.length → 1 ≤ widW lo hi k) (h : boxO lo hi = some L) : L.length ≤ 4000 := by
  unfold boxO at h
  split at h
  · rename_i hok
    injection h with h
    have h1 := (box_len hw lo.length (Nat.le_refl _)).1
    have h2 := okTo_cnt hok
    rw [h] at h1; omega
  · cases h
theorem neg_wid {w : List Int} (hw : ∀ k, 0 ≤ w.getD k 0) (k : Nat) : 1 ≤ widW (w.map fun x => -x) w k := by
  have hn : (w.map fun x => -x).getD k 0 = -(w.getD k 0) := by
    simp only [List.getD_eq_getElem?_getD, List.getElem?_map]; cases w[k]? <;> simp
  rw [widW, hn]; have := hw k; omega
theorem neg_num {w : List Int} (h : w.all numB = true) : ∀ n ∈ w.map fun x => -x, numB n = true := fun n hn => by
  obtain ⟨m, hm, rfl⟩ := List.mem_map.1 hn
  have := numB_true.1 (List.all_eq_true.1 h m hm)
  exact numB_true.2 (by omega)
theorem all_num {v : List Int} (h : ∀ k, k < v.length → -400000000 ≤ v.getD k 0 ∧ v.getD k 0 ≤ 400000000) : v.all numB = true := List.all_eq_true.2 fun x hx => by
  obtain ⟨k, hk, rfl⟩ := List.mem_iff_getElem.1 hx
  have := h k hk
  rw [getD_in hk] at this
  exact numB_true.2 this
end Go.Proofs.YtekpamojojfplaaGreat
namespace Go.Proofs.YtekpamojojfplaaGreat
theorem box_nodup {lo hi : List Int} : ∀ t, (boxTo lo hi t).Nodup
  | 0 => by simp [boxTo]
  | t + 1 => by
    have ih := box_nodup (lo := lo) (hi := hi) t
    rw [boxTo, List.flatMap, List.Nodup, List.pairwise_flatten]
    refine ⟨fun l hl => ?_, List.pairwise_map.2 (ih.imp_of_mem ?_)⟩
    · obtain ⟨u, hu, rfl⟩ := List.mem_map.1 hl
      unfold extL spanL
      rw [List.map_map]
      refine List.pairwise_map.2 (List.nodup_range.imp fun {x y} h e => h ?_)
      have := List.append_cancel_left e
      simp at this
      omega
    · intro u v hu hv hne x hx y hy e
      subst e
      unfold extL at hx hy
      obtain ⟨n, _, rfl⟩ := List.mem_map.1 hx
      obtain ⟨m, _, e⟩ := List.mem_map.1 hy
      exact hne (List.append_inj_left e.symm (by rw [box_row u hu, box_row v hv]))
end Go.Proofs.YtekpamojojfplaaGreat
