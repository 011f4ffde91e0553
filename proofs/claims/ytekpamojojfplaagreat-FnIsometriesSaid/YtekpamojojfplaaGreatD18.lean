/-
  TEXTS OF THE PROOF, put together: bGram, pDef, pRoot, pTurn2.
-/
import Derived.Test.YtekpamojojfplaaGreatD15
import Derived.Test.YtekpamojojfplaaGreatD14
import Derived.Test.YtekpamojojfplaaGreatD17
import Derived.Test.YtekpamojojfplaaGreatD16
import Derived.Test.YtekpamojojfplaaGreatD13
set_option linter.unusedVariables false
set_option linter.unusedSimpArgs false
namespace Go.Proofs.YtekpamojojfplaaGreat
open Go.RowKit
def sameM (r c r' c' : Int) (xs ys : List Int) : Bool := decide (r = r' ∧ c = c' ∧ xs = ys)
theorem take_all {xs ys : List Int} {k : Nat} (hl : xs.length = ys.length) (hk : ¬ k < xs.length) (h : xs.take k = ys.take k) : xs = ys := by
  rwa [List.take_of_length_le (by omega), List.take_of_length_le (by omega)] at h
theorem take_next {xs ys : List Int} {k : Nat} (h1 : k < xs.length) (h2 : k < ys.length) (h : xs.take k = ys.take k) (he : xs[k] = ys[k]) : xs.take (k + 1) = ys.take (k + 1) := by
  rw [List.take_succ_eq_append_getElem h1, List.take_succ_eq_append_getElem h2, h, he]
theorem d_equalSl (xs ys : List Int) (c d : Nat) (hl : xs.length ≤ 1099511627776) (hl' : ys.length ≤ 1099511627776) : Does Tryz.prog 58 [vS 1 1 0 xs.length c, vS 2 1 0 ys.length d] [(1, .ro (.ints xs)), (2, .ro (.ints ys))] 3 (Ret (vB (decide (xs = ys))) 3) := by
 refine Does.intro TT Tryz.func58 rfl (by kernel_rfl) Zz Zz fun E hE => ?_
 by_cases he : xs.length = ys.length
 ·((repeat' (first | refine stx ?_ | (refine stq ?_ ?_ <;> (intro hc; ((try simp at hc) <;> try contradiction))) | fail)) <;> try (exfalso; omega))
  refine w_G hE (fun k : Nat => k ≤ xs.length ∧ xs.take k = ys.take k) (fun k => xs.length - k)
   (fun k => [(0, vS 1 1 0 xs.length c), (1, vS 2 1 0 ys.length d), (12, vI xs.length), (13, vI k)]) (fun _ => [(1, .ro (.ints xs)), (2, .ro (.ints ys))]) 3 [] 0 ⟨Nat.zero_le _, rfl⟩ ⟨w_1, w_2, rfl⟩ ?_
  rintro k ⟨h1, h2⟩
  by_cases hk : k < xs.length
  ·have hk' : k < ys.length := by omega
   ((repeat' (first | refine stx ?_ | (refine stq ?_ ?_ <;> (intro hc; ((try simp at hc) <;> try contradiction))) | fail)) <;> try (exfalso; omega))
   ·refine fin_ret rfl w_3 (congrArg vB ?_) rfl
    rw [gD hk, gD hk'] at hc
    symm; apply decide_eq_false; intro e; subst e; exact hc rfl
   ·rw [gD hk, gD hk'] at hc
    exact ⟨[], k + 1, ⟨by omega, take_next hk hk' h2 hc⟩, w_4, ⟨w_1, w_2, rfl⟩⟩
  ·((repeat' (first | refine stx ?_ | (refine stq ?_ ?_ <;> (intro hc; ((try simp at hc) <;> try contradiction))) | fail)) <;> try (exfalso; omega))
   refine fin_ret rfl w_3 (congrArg vB ?_) rfl
   simp [take_all he hk h2]
 ·((repeat' (first | refine stx ?_ | (refine stq ?_ ?_ <;> (intro hc; ((try simp at hc) <;> try contradiction))) | fail)) <;> try (exfalso; omega))
  refine fin_ret rfl w_3 (congrArg vB ?_) rfl
  symm; apply decide_eq_false; intro e; subst e; exact he rfl
theorem d_sameI (r c r' c' : Int) (xs ys : List Int) (ca cb : Nat) (hl : xs.length ≤ 1099511627776) (hl' : ys.length ≤ 1099511627776) : Does Tryz.prog 17 [vM r c 1 xs.length ca, vM r' c' 2 ys.length cb] [(1, .ro (.ints xs)), (2, .ro (.ints ys))] 3 (Ret (vB (sameM r c r' c' xs ys)) 3) := by
 refine Does.intro TT Tryz.func17 rfl (by kernel_rfl) Zz Zz fun E hE => ?_
 have hd := d_equalSl xs ys ca cb hl hl'
 cases he : decide (xs = ys)
 all_goals
  rw [he] at hd
  simp only [decide_eq_false_iff_not, decide_eq_true_eq] at he
  ((repeat' (first | refine stx ?_ | refine zqc (hd) ?_ | (refine stq ?_ ?_ <;> (intro hc; ((try simp at hc) <;> try contradiction))) | fail)) <;> try (exfalso; omega))
 all_goals refine fin_ret rfl w_3 (congrArg vB (by rw [Bool.eq_iff_iff]; simp [sameM, he]; try omega)) rfl
set_option maxHeartbeats 1000000 in
theorem d_sameS (r c r' c' : Int) (xs ys : List Int) (ca cb : Nat) (hl : xs.length ≤ 1099511627776) (hl' : ys.length ≤ 1099511627776) : Does Tryz.prog 51 [vM r c 1 xs.length ca, vM r' c' 2 ys.length cb] [(1, .ro (.ints xs)), (2, .ro (.ints ys))] 3 (Ret (vB (sameM r c r' c' xs ys)) 3) := by
 refine Does.intro TT Tryz.func51 rfl (by kernel_rfl) Zz Zz fun E hE => ?_
 by_cases h1 : r = r' <;> by_cases h2 : c = c' <;> by_cases h3 : xs.length = ys.length
 case pos =>
  ((repeat' (first | refine stx ?_ | (refine stq ?_ ?_ <;> (intro hc; ((try simp at hc) <;> try contradiction))) | fail)) <;> try (exfalso; omega))
  refine w_G hE (fun k : Nat => k ≤ xs.length ∧ xs.take k = ys.take k) (fun k => xs.length - k)
   (fun k => [(2, .one (.ptr 3 3 0 0)), (3, .one (.ptr 4 3 0 0)), (5, vI k)]) (fun _ => [(1, .ro (.ints xs)), (2, .ro (.ints ys)), (3, .own 26 1 (.lit [.int r, .int c, .sl 1 1 0 xs.length ca])), (4, .own 26 1 (.lit [.int r', .int c', .sl 2 1 0 ys.length cb]))]) 5 [] 0 ⟨Nat.zero_le _, rfl⟩ ⟨w_1, w_2, rfl⟩ ?_
  rintro k ⟨g1, g2⟩
  by_cases hk : k < xs.length
  ·have hk' : k < ys.length := by omega
   ((repeat' (first | refine stx ?_ | (refine stq ?_ ?_ <;> (intro hc; ((try simp at hc) <;> try contradiction))) | fail)) <;> try (exfalso; omega))
   ·refine fin_ret rfl w_3 (congrArg vB ?_) rfl
    rw [gD hk, gD hk'] at hc
    symm; apply decide_eq_false; rintro ⟨_, _, e⟩; subst e; exact hc rfl
   ·rw [gD hk, gD hk'] at hc
    exact ⟨[], k + 1, ⟨by omega, take_next hk hk' g2 hc⟩, w_4, ⟨w_1, w_2, rfl⟩⟩
  ·((repeat' (first | refine stx ?_ | (refine stq ?_ ?_ <;> (intro hc; ((try simp at hc) <;> try contradiction))) | fail)) <;> try (exfalso; omega))
   refine fin_ret rfl w_3 (congrArg vB ?_) rfl
   simp [sameM, h1, h2, take_all h3 hk g2]
 all_goals
  have hs : sameM r c r' c' xs ys = false := decide_eq_false (by rintro ⟨e1, e2, e3⟩; subst e3; simp_all)
  ((repeat' (first | refine stx ?_ | (refine stq ?_ ?_ <;> (intro hc; ((try simp at hc) <;> try contradiction))) | fail)) <;> try (exfalso; omega))
  all_goals refine fin_ret rfl w_3 (congrArg vB hs.symm) rfl
def gramB (r c : Int) (xs : List Int) : Bool := sqB r c xs && decide (turnM xs r.toNat c.toNat = xs)
set_option maxHeartbeats 2000000 in
theorem d_gramI (r c : Int) (xs : List Int) (ca : Nat) (hl : xs.length ≤ 1099511627776) : Does Tryz.prog 62 [vM r c 1 xs.length ca] [(1, .ro (.ints xs))] 2 (Ret (vB (gramB r c xs)) 2) := by
 refine Does.intro TT Tryz.func62 rfl (by kernel_rfl) Zz Zz fun E hE => ?_
 have ht := d_turnI r c xs ca hl
 cases hm : isM r c xs
 ·have hs : gramB r c xs = false := by simp [gramB, sqB, hm]
  unfold TurnZ at ht
  rw [hm] at ht
  ((repeat' (first | refine stx ?_ | ((refine zqe (ht) ?_); rintro v Hout n1 ⟨rfl, rfl, rfl⟩) | (refine stq ?_ ?_ <;> (intro hc; ((try simp at hc) <;> try contradiction))) | fail)) <;> try (exfalso; omega))
  refine fin_ret rfl w_3 (congrArg vB hs.symm) rfl
 ·unfold TurnZ at ht
  rw [hm] at ht
  obtain ⟨a, b, rfl, rfl⟩ := isM_pos hm
  obtain ⟨ha, hb, hx, hnum⟩ := isM_nat hm
  simp only [Int.toNat_natCast] at ht
  have hlen : b * a = (turnM xs a b).length := turnM_len.symm
  have hle : (turnM xs a b).length ≤ 1099511627776 := by rw [turnM_len, Nat.mul_comm, ← hx]; exact hl
  rw [hlen] at ht
  have hsm := d_sameI b a a b (turnM xs a b) xs (turnM xs a b).length ca hle hl
  have hg : gramB a b xs = (sqB a b xs && sameM b a a b (turnM xs a b) xs) := by
   rw [Bool.eq_iff_iff]
   simp only [gramB, sameM, Int.toNat_natCast, Bool.and_eq_true, decide_eq_true_eq]
   constructor
   ·rintro ⟨h1, h2⟩
    obtain ⟨n, e1, e2, _⟩ := sqB_dims h1
    exact ⟨h1, by omega, by omega, h2⟩
   ·rintro ⟨h1, _, _, h2⟩
    exact ⟨h1, h2⟩
  rw [hg]
  cases hq : sqB a b xs <;> cases hss : sameM b a a b (turnM xs a b) xs
  all_goals
   rw [hss] at hsm
   ((repeat' (first | refine stx ?_ | ((refine zqe (ht) ?_); rintro v Hout n1 ⟨rfl, rfl, rfl⟩) | (refine zqc (d_sqI _ _ _ _ hl) ?_ <;> simp only [hq]) | refine zqc (hsm) ?_ | (refine stq ?_ ?_ <;> (intro hc; ((try simp at hc) <;> try contradiction))) | fail)) <;> try (exfalso; omega))
  all_goals refine fin_ret rfl w_3 (rfl) rfl
def symTo (xs : List Int) (n i j : Nat) : Prop := ∀ p q, (p < i ∧ q < p) ∨ (p = i ∧ q < j) → xs.getD (p * n + q) 0 = xs.getD (q * n + p) 0
theorem symTo_next {xs : List Int} {n i j : Nat} (h : symTo xs n i j) (he : xs.getD (i * n + j) 0 = xs.getD (j * n + i) 0) : symTo xs n i (j + 1) := fun p q hpq => by
  by_cases c : p = i ∧ q = j
  · obtain ⟨rfl, rfl⟩ := c; exact he
  · exact h p q (by omega)
theorem symTo_row {xs : List Int} {n i : Nat} (h : symTo xs n i i) : symTo xs n (i + 1) 0 := fun p q hpq => h p q (by omega)
theorem turn_sym {xs : List Int} {n : Nat} (hx : xs.length = n * n) : turnM xs n n = xs ↔ symTo xs n n 0 := by
  have key : turnM xs n n = xs ↔ ∀ p q, p < n → q < n → xs.getD (q * n + p) 0 = xs.getD (p * n + q) 0 := by
    constructor
    · intro h p q hp hq
      have h1 : (turnM xs n n).getD (p * n + q) 0 = xs.getD (q * n + p) 0 := by
        have hlt : p * n + q < n * n := cell_lt hp hq
        obtain ⟨e1, e2⟩ := turn_idx (j := p) hq
        rw [List.getD_eq_getElem?_getD, List.getElem?_eq_getElem (by rw [turnM_len]; exact hlt)]
        simp only [turnM, List.getElem_map, List.getElem_range, e1, e2, Option.getD_some]
      rw [← h1, h]
    · intro h
      apply List.ext_getElem (by rw [turnM_len, hx])
      intro k h1 h2
      simp only [turnM, List.getElem_map, List.getElem_range]
      have hn : 0 < n := by
        rcases Nat.eq_zero_or_pos n with e | e
        · subst e; simp [turnM] at h1
        · exact e
      have hk : k < n * n := by rw [← hx]; exact h2
      have h3 := h (k / n) (k % n) (Nat.div_lt_of_lt_mul hk) (Nat.mod_lt _ hn)
      rw [h3, Nat.mul_comm, Nat.div_add_mod]
      simp [h2]
  rw [key]
  constructor
  · intro h p q hpq
    rcases hpq with ⟨h1, h2⟩ | ⟨_, h2⟩
    · exact (h p q h1 (by omega)).symm
    · omega
  · intro h p q hp hq
    rcases Nat.lt_trichotomy p q with c | c | c
    · exact h q p (.inl ⟨hq, c⟩)
    · subst c; rfl
    · exact (h p q (.inl ⟨hp, c⟩)).symm
set_option maxHeartbeats 2000000 in
theorem d_gramS (r c : Int) (xs : List Int) (ca : Nat) (hl : xs.length ≤ 1099511627776) : Does Tryz.prog 64 [vM r c 1 xs.length ca] [(1, .ro (.ints xs))] 2 (Ret (vB (gramB r c xs)) 2) := by
 refine Does.intro TT Tryz.func64 rfl (by kernel_rfl) Zz Zz fun E hE => ?_
 cases hq : sqB r c xs
 ·have hs : gramB r c xs = false := by simp [gramB, hq]
  ((repeat' (first | refine stx ?_ | (refine stq ?_ ?_ <;> (intro hc; ((try simp at hc) <;> try contradiction))) | fail)) <;> try (exfalso; omega))
  refine w_G hE (fun _ : Nat => True) (fun k => k)
   (fun k => [(1, .one (.ptr 2 3 0 0)), (3, vI 0)]) (fun _ => [(1, .ro (.ints xs)), (2, .own 26 1 (.lit [.int r, .int c, .sl 1 1 0 xs.length ca]))]) 3 [] 0 trivial ⟨w_1, w_2, rfl⟩ ?_
  rintro k -
  ((repeat' (first | refine stx ?_ | (refine zqc (d_sqS _ _ _ _ hl) ?_ <;> simp only [hq]) | (refine stq ?_ ?_ <;> (intro hc; ((try simp at hc) <;> try contradiction))) | fail)) <;> try (exfalso; omega))
  all_goals refine fin_ret rfl w_3 (congrArg vB hs.symm) rfl
 ·obtain ⟨n, rfl, rfl, hn, hx, hnum⟩ := sqB_dims hq
  have hg : gramB n n xs = decide (turnM xs n n = xs) := by simp [gramB, hq]
  rw [hg]
  ((repeat' (first | refine stx ?_ | (refine stq ?_ ?_ <;> (intro hc; ((try simp at hc) <;> try contradiction))) | fail)) <;> try (exfalso; omega))
  refine w_G hE (fun i : Nat => i ≤ n ∧ symTo xs n i 0) (fun i => n - i)
   (fun i => [(1, .one (.ptr 2 3 0 0)), (3, vI i)]) (fun _ => [(1, .ro (.ints xs)), (2, .own 26 1 (.lit [.int n, .int n, .sl 1 1 0 xs.length ca]))]) 3 [] 0 ⟨Nat.zero_le _, fun p q h => by omega⟩ ⟨w_1, w_2, rfl⟩ ?_
  rintro i ⟨hi, hsy⟩
  by_cases hin : i < n
  ·((repeat' (first | refine stx ?_ | (refine zqc (d_sqS _ _ _ _ hl) ?_ <;> simp only [hq]) | (refine stq ?_ ?_ <;> (intro hc; ((try simp at hc) <;> try contradiction))) | fail)) <;> try (exfalso; omega))
   refine w_G hE (fun j : Nat => j ≤ i ∧ symTo xs n i j) (fun j => i - j)
    (fun j => [(1, .one (.ptr 2 3 0 0)), (3, vI i), (4, vI j)]) (fun _ => [(1, .ro (.ints xs)), (2, .own 26 1 (.lit [.int n, .int n, .sl 1 1 0 xs.length ca]))]) 3 [] 0 ⟨Nat.zero_le _, hsy⟩ ⟨w_1, w_2, rfl⟩ ?_
   rintro j ⟨hj, hsj⟩
   by_cases hji : j < i
   ·have hjn : j < n := by omega
    have b1 := cell_facts hin hjn (by omega) (show n ≤ 24 by omega)
    have b2 := cell_facts hjn hin (by omega) (show n ≤ 24 by omega)
    rw [← hx] at b1 b2
    have e1 := cell_natT (p := i) (k := j) (c := n)
    have e2 := cell_natT (p := j) (k := i) (c := n)
    have c1 := d_cell12 n n i j xs _ ca rfl (by omega) (by omega) b1.2 hl
    have c2 := d_cell12 n n j i xs _ ca rfl (by omega) (by omega) b2.2 hl
    rw [e1] at c1
    rw [e2] at c2
    ((repeat' (first | refine stx ?_ | refine zqc (c1) ?_ | refine zqc (c2) ?_ | (refine stq ?_ ?_ <;> (intro hc; ((try simp at hc) <;> try contradiction))) | fail)) <;> try (exfalso; omega))
    ·refine fin_ret rfl w_3 (congrArg vB ?_) rfl
     symm; apply decide_eq_false
     intro e
     have := (turn_sym hx).1 e i j (.inl ⟨hin, hji⟩)
     simp only [List.getD_eq_getElem?_getD] at this
     exact hc this
    ·refine ⟨[], j + 1, ⟨by omega, symTo_next hsj (by simp only [List.getD_eq_getElem?_getD]; exact hc)⟩, w_4, ⟨w_1, w_2, rfl⟩⟩
   ·obtain rfl : j = i := by omega
    ((repeat' (first | refine stx ?_ | (refine stq ?_ ?_ <;> (intro hc; ((try simp at hc) <;> try contradiction))) | fail)) <;> try (exfalso; omega))
    exact ⟨[], j + 1, ⟨by omega, symTo_row hsj⟩, w_4, ⟨w_1, w_2, rfl⟩⟩
  ·obtain rfl : i = n := by omega
   ((repeat' (first | refine stx ?_ | (refine zqc (d_sqS _ _ _ _ hl) ?_ <;> simp only [hq]) | (refine stq ?_ ?_ <;> (intro hc; ((try simp at hc) <;> try contradiction))) | fail)) <;> try (exfalso; omega))
   refine fin_ret rfl w_3 (congrArg vB (by symm; rw [decide_eq_true_eq]; exact (turn_sym hx).2 hsy)) rfl
theorem mulZ_some {r n n' c : Int} {xs ys p : List Int} (h : mulZ r n n' c xs ys = some p) : isM r n xs = true ∧ isM n' c ys = true ∧ n = n' ∧ isM r c p = true := by
  unfold mulZ at h
  split at h
  · rename_i hh
    cases h
    simp only [Bool.and_eq_true, beq_iff_eq] at hh
    obtain ⟨⟨⟨h1, h2⟩, rfl⟩, h3⟩ := hh
    obtain ⟨r, n, rfl, rfl⟩ := isM_pos h1
    obtain ⟨n', c, _, rfl⟩ := isM_pos h2
    obtain ⟨g1, _⟩ := isM_nat h1
    obtain ⟨_, g2, _⟩ := isM_nat h2
    refine ⟨h1, h2, rfl, ?_⟩
    simp only [Int.toNat_natCast] at h3 ⊢
    rw [isM_mul g1 g2]; exact h3
  · cases h
theorem isM_le {r c : Int} {xs : List Int} (h : isM r c xs = true) : xs.length ≤ 576 := by
  obtain ⟨⟨h1, h2, h3, h4, h5⟩, _⟩ := isM_true h
  have := (side_bd h1 h2 h3 h4).2
  omega
theorem isM_turn {a b : Nat} {xs : List Int} (h : isM a b xs = true) : isM b a (turnM xs a b) = true := by
  obtain ⟨h1, h2, h3, h4⟩ := isM_nat h
  have hn : (turnM xs a b).all numB = true := by
    rw [List.all_eq_true]
    intro x hx
    obtain ⟨p, _, rfl⟩ := List.mem_map.1 hx
    exact numB_true.2 (num_getD h4 _)
  simp only [isM, hn, Bool.and_true, decide_eq_true_eq]
  exact ⟨by omega, by omega, by omega, by omega, by rw [turnM_len]; simp⟩
def chgZ (gr gc : Int) (gx : List Int) (ur uc : Int) (ux : List Int) : Option (List Int) := match gramB gr gc gx with
  | true => match mulZ ur uc gr gc ux gx with
    | some p => mulZ ur gc uc ur p (turnM ux ur.toNat uc.toNat)
    | none => none
  | false => none
set_option maxHeartbeats 4000000 in
theorem d_chgI (gr gc ur uc : Int) (gx ux : List Int) (ca cb : Nat) (hl : gx.length ≤ 1099511627776) (hl' : ux.length ≤ 1099511627776) :
    Does Tryz.prog 19 [vM gr gc 1 gx.length ca, vM ur uc 2 ux.length cb] [(1, .ro (.ints gx)), (2, .ro (.ints ux))] 3 (GotZ ur ur 3 (chgZ gr gc gx ur uc ux) 3) := by
  refine Does.intro TT Tryz.func19 rfl (by kernel_rfl) Zz Zz fun E hE => ?_
  have ht := d_turnI ur uc ux cb hl'
  unfold TurnZ at ht
  cases hm : isM ur uc ux
  · have hz : chgZ gr gc gx ur uc ux = none := by
      unfold chgZ
      cases gramB gr gc gx
      · rfl
      · cases ho : mulZ ur uc gr gc ux gx with
        | none => rfl
        | some p => rw [(mulZ_some ho).1] at hm; cases hm
    rw [hm] at ht
    cases hg : gramB gr gc gx
    all_goals ((repeat' (first | refine stx ?_ | ((refine zqe (ht) ?_); rintro v Hout n1 ⟨rfl, rfl, rfl⟩) | (refine zqc (d_gramI _ _ _ _ hl) ?_ <;> simp only [hg]) | (refine stq ?_ ?_ <;> (intro hc; ((try simp at hc) <;> try contradiction))) | fail)) <;> try (exfalso; omega))
    all_goals exact fin rfl w_3 [] (.tup [.agg zeroM, .one (.bool false)]) [] 3 (GotZ.no hz) rfl ⟨trivial, trivial, rfl⟩ rfl
  · rw [hm] at ht
    obtain ⟨a, b, rfl, rfl⟩ := isM_pos hm
    have hmt := isM_turn hm
    have hle : (turnM ux a b).length ≤ 1099511627776 := by have := isM_le hmt; omega
    simp only [Int.toNat_natCast] at ht
    have hlen : b * a = (turnM ux a b).length := turnM_len.symm
    rw [hlen] at ht
    cases hg : gramB gr gc gx
    · have hz : chgZ gr gc gx a b ux = none := by unfold chgZ; rw [hg]
      ((repeat' (first | refine stx ?_ | ((refine zqe (ht) ?_); rintro v Hout n1 ⟨rfl, rfl, rfl⟩) | (refine zqc (d_gramI _ _ _ _ hl) ?_ <;> simp only [hg]) | (refine stq ?_ ?_ <;> (intro hc; ((try simp at hc) <;> try contradiction))) | fail)) <;> try (exfalso; omega))
      exact fin rfl w_3 [] (.tup [.agg zeroM, .one (.bool false)]) [] 3 (GotZ.no hz) rfl ⟨trivial, trivial, rfl⟩ rfl
    · have h1 := d_mulI a b gr gc ux gx cb ca hl' hl
      cases ho : mulZ a b gr gc ux gx with
      | none =>
        have hz : chgZ gr gc gx a b ux = none := by unfold chgZ; rw [hg, ho]
        rw [ho] at h1
        ((repeat' (first | refine stx ?_ | ((refine zqe (ht) ?_); rintro v Hout n1 ⟨rfl, rfl, rfl⟩) | (refine zqc (d_gramI _ _ _ _ hl) ?_ <;> simp only [hg]) | ((refine zqe (h1) ?_); rintro v Hout n1 ⟨rfl, rfl, rfl⟩) | (refine stq ?_ ?_ <;> (intro hc; ((try simp at hc) <;> try contradiction))) | fail)) <;> try (exfalso; omega))
        exact fin rfl w_3 [] (.tup [.agg zeroM, .one (.bool false)]) [] 3 (GotZ.no hz) rfl ⟨trivial, trivial, rfl⟩ rfl
      | some p =>
        have hp := isM_le (mulZ_some ho).2.2.2
        have hz : chgZ gr gc gx a b ux = mulZ a gc b a p (turnM ux a b) := by unfold chgZ; rw [hg, ho]; simp
        rw [hz]
        rw [ho] at h1
        have h2 := fun cp => d_mulI a gc b a p (turnM ux a b) cp (turnM ux a b).length (by omega) hle
        cases ho2 : mulZ a gc b a p (turnM ux a b) with
        | none =>
          rw [ho2] at h2
          ((repeat' (first | refine stx ?_ | ((refine zqe (ht) ?_); rintro v Hout n1 ⟨rfl, rfl, rfl⟩) | (refine zqc (d_gramI _ _ _ _ hl) ?_ <;> simp only [hg]) | ((refine zqe (h1) ?_); rintro v Hout n1 ⟨c1, hc1, rfl, rfl, rfl⟩) | ((refine zqe (h2 _) ?_); rintro v Hout n1 ⟨rfl, rfl, rfl⟩) | (refine stq ?_ ?_ <;> (intro hc; ((try simp at hc) <;> try contradiction))) | fail)) <;> try (exfalso; omega))
          exact fin rfl w_3 [] (.tup [.agg zeroM, .one (.bool false)]) [] 3 (GotZ.no rfl) rfl ⟨trivial, trivial, rfl⟩ rfl
        | some z =>
          rw [ho2] at h2
          ((repeat' (first | refine stx ?_ | ((refine zqe (ht) ?_); rintro v Hout n1 ⟨rfl, rfl, rfl⟩) | (refine zqc (d_gramI _ _ _ _ hl) ?_ <;> simp only [hg]) | ((refine zqe (h1) ?_); rintro v Hout n1 ⟨c1, hc1, rfl, rfl, rfl⟩) | ((refine zqe (h2 _) ?_); rintro v Hout n1 ⟨c2, hc2, rfl, rfl, rfl⟩) | (refine stq ?_ ?_ <;> (intro hc; ((try simp at hc) <;> try contradiction))) | fail)) <;> try (exfalso; omega))
          exact fin rfl w_3 [(3, 10)] (doneV a a 3 z.length c2 true) [(3, .own 3 c2 (.ints z))] 4 (GotZ.yes Zz Zz hc2) rfl ⟨trivial, ⟨rfl, trivial⟩, rfl⟩ rfl
set_option maxHeartbeats 4000000 in
theorem d_chgS (gr gc ur uc : Int) (gx ux : List Int) (ca cb : Nat) (hl : gx.length ≤ 1099511627776) (hl' : ux.length ≤ 1099511627776) :
    Does Tryz.prog 50 [vM gr gc 1 gx.length ca, vM ur uc 2 ux.length cb] [(1, .ro (.ints gx)), (2, .ro (.ints ux))] 3 (GotZ ur ur 3 (chgZ gr gc gx ur uc ux) 3) := by
  refine Does.intro TT Tryz.func50 rfl (by kernel_rfl) Zz Zz fun E hE => ?_
  cases hg : gramB gr gc gx
  · have hz : chgZ gr gc gx ur uc ux = none := by unfold chgZ; rw [hg]
    ((repeat' (first | refine stx ?_ | (refine zqc (d_gramS _ _ _ _ hl) ?_ <;> simp only [hg]) | (refine stq ?_ ?_ <;> (intro hc; ((try simp at hc) <;> try contradiction))) | fail)) <;> try (exfalso; omega))
    exact fin rfl w_3 [] (.tup [.agg zeroM, .one (.bool false)]) [] 3 (GotZ.no hz) rfl ⟨trivial, trivial, rfl⟩ rfl
  · have h1 := d_mulS ur uc gr gc ux gx cb ca hl' hl
    cases ho : mulZ ur uc gr gc ux gx with
    | none =>
      have hz : chgZ gr gc gx ur uc ux = none := by unfold chgZ; rw [hg, ho]
      rw [ho] at h1
      ((repeat' (first | refine stx ?_ | (refine zqc (d_gramS _ _ _ _ hl) ?_ <;> simp only [hg]) | ((refine zqe (h1) ?_); rintro v Hout n1 ⟨rfl, rfl, rfl⟩) | (refine stq ?_ ?_ <;> (intro hc; ((try simp at hc) <;> try contradiction))) | fail)) <;> try (exfalso; omega))
      exact fin rfl w_3 [] (.tup [.agg zeroM, .one (.bool false)]) [] 3 (GotZ.no hz) rfl ⟨trivial, trivial, rfl⟩ rfl
    | some p =>
      obtain ⟨hm, hmg, hcr, hmp⟩ := mulZ_some ho
      obtain ⟨a, b, rfl, rfl⟩ := isM_pos hm
      obtain ⟨ha, hb, hx, hnum⟩ := isM_nat hm
      have hmt := isM_turn hm
      have hle : (turnM ux a b).length ≤ 1099511627776 := by have := isM_le hmt; omega
      have hp := isM_le hmp
      have hz : chgZ gr gc gx a b ux = mulZ a gc b a p (turnM ux a b) := by unfold chgZ; rw [hg, ho]; simp
      have hlen : b * a = (turnM ux a b).length := turnM_len.symm
      have ht := d_turnS a b ux ux.length cb rfl ha hb hx
      unfold TurnO at ht
      rw [hlen] at ht
      rw [hz]
      rw [ho] at h1
      have h2 := fun cp => d_mulS a gc b a p (turnM ux a b) cp (turnM ux a b).length (by omega) hle
      cases ho2 : mulZ a gc b a p (turnM ux a b) with
      | none =>
        rw [ho2] at h2
        ((repeat' (first | refine stp ?_ | (refine zqc (d_gramS _ _ _ _ hl) ?_ <;> simp only [hg]) | ((refine zqe (h1) ?_); rintro v Hout n1 ⟨c1, hc1, rfl, rfl, rfl⟩) | (refine stq ?_ ?_ <;> (intro hc; ((try simp at hc) <;> try contradiction))) | fail)) <;> try (exfalso; omega))
        refine awp_held TM [(4, _), (7, _)] sb rfl (fun ρs => ?_)
        refine zt0 ?_
        refine zt1 ?_
        refine w_u [2, 7] kr rfl ⟨?_, ?_, trivial⟩
        first | (refine zho ?_) | (refine zqf (ht) ?_; rintro v Hout n1 ⟨rfl, rfl, rfl⟩; refine ⟨sb, ?_⟩) | (refine zqf (h2 _) ?_; rintro v Hout n1 ⟨rfl, rfl, rfl⟩; refine ⟨sb, ?_⟩)
        refine w_u [3, 7] kr rfl ⟨?_, ?_, trivial⟩
        first | (refine zho ?_) | (refine zqf (ht) ?_; rintro v Hout n1 ⟨rfl, rfl, rfl⟩; refine ⟨sb, ?_⟩) | (refine zqf (h2 _) ?_; rintro v Hout n1 ⟨rfl, rfl, rfl⟩; refine ⟨sb, ?_⟩)
        refine zt4 ?_
        refine zt5 ?_
        refine zt6 ?_
        refine w_u [7] kr rfl ⟨?_, trivial⟩
        first | (refine zho ?_) | (refine zqf (ht) ?_; rintro v Hout n1 ⟨rfl, rfl, rfl⟩; refine ⟨sb, ?_⟩) | (refine zqf (h2 _) ?_; rintro v Hout n1 ⟨rfl, rfl, rfl⟩; refine ⟨sb, ?_⟩)
        refine w_u [8] kr rfl ⟨?_, trivial⟩
        first | (refine zho ?_) | (refine zqf (ht) ?_; rintro v Hout n1 ⟨rfl, rfl, rfl⟩; refine ⟨sb, ?_⟩) | (refine zqf (h2 _) ?_; rintro v Hout n1 ⟨rfl, rfl, rfl⟩; refine ⟨sb, ?_⟩)
        refine zt9 ?_
        refine w_v kr ?_
        rotate_left
        first | (refine zho ?_) | (refine zqf (ht) ?_; rintro v Hout n1 ⟨rfl, rfl, rfl⟩; refine ⟨sb, ?_⟩) | (refine zqf (h2 _) ?_; rintro v Hout n1 ⟨rfl, rfl, rfl⟩; refine ⟨sb, ?_⟩)
        refine w_u [3] kr rfl ⟨?_, trivial⟩
        first | (refine zho ?_) | (refine zqf (ht) ?_; rintro v Hout n1 ⟨rfl, rfl, rfl⟩; refine ⟨sb, ?_⟩) | (refine zqf (h2 _) ?_; rintro v Hout n1 ⟨rfl, rfl, rfl⟩; refine ⟨sb, ?_⟩)
        refine zt4 ?_
        refine zt5 ?_
        refine zt6 ?_
        refine w_u [8] kr rfl ⟨?_, trivial⟩
        first | (refine zho ?_) | (refine zqf (ht) ?_; rintro v Hout n1 ⟨rfl, rfl, rfl⟩; refine ⟨sb, ?_⟩) | (refine zqf (h2 _) ?_; rintro v Hout n1 ⟨rfl, rfl, rfl⟩; refine ⟨sb, ?_⟩)
        refine zt9 ?_
        refine w_v kr ?_
        rotate_left
        first | (refine zho ?_) | (refine zqf (ht) ?_; rintro v Hout n1 ⟨rfl, rfl, rfl⟩; refine ⟨sb, ?_⟩) | (refine zqf (h2 _) ?_; rintro v Hout n1 ⟨rfl, rfl, rfl⟩; refine ⟨sb, ?_⟩)
        refine w_u [2] kr rfl ⟨?_, trivial⟩
        first | (refine zho ?_) | (refine zqf (ht) ?_; rintro v Hout n1 ⟨rfl, rfl, rfl⟩; refine ⟨sb, ?_⟩) | (refine zqf (h2 _) ?_; rintro v Hout n1 ⟨rfl, rfl, rfl⟩; refine ⟨sb, ?_⟩)
        refine w_u [3] kr rfl ⟨?_, trivial⟩
        first | (refine zho ?_) | (refine zqf (ht) ?_; rintro v Hout n1 ⟨rfl, rfl, rfl⟩; refine ⟨sb, ?_⟩) | (refine zqf (h2 _) ?_; rintro v Hout n1 ⟨rfl, rfl, rfl⟩; refine ⟨sb, ?_⟩)
        refine zt4 ?_
        refine zt5 ?_
        refine zt6 ?_
        refine w_u [8] kr rfl ⟨?_, trivial⟩
        first | (refine zho ?_) | (refine zqf (ht) ?_; rintro v Hout n1 ⟨rfl, rfl, rfl⟩; refine ⟨sb, ?_⟩) | (refine zqf (h2 _) ?_; rintro v Hout n1 ⟨rfl, rfl, rfl⟩; refine ⟨sb, ?_⟩)
        refine zt9 ?_
        refine w_v kr ?_
        rotate_left
        all_goals ((repeat' (first | refine stx ?_ | (refine stq ?_ ?_ <;> (intro hc; ((try simp at hc) <;> try contradiction))) | fail)) <;> try (exfalso; omega))
        all_goals exact fin rfl w_3 [] (.tup [.agg zeroM, .one (.bool false)]) [] 3 (GotZ.no rfl) rfl ⟨trivial, trivial, rfl⟩ rfl
      | some z =>
        rw [ho2] at h2
        ((repeat' (first | refine stp ?_ | (refine zqc (d_gramS _ _ _ _ hl) ?_ <;> simp only [hg]) | ((refine zqe (h1) ?_); rintro v Hout n1 ⟨c1, hc1, rfl, rfl, rfl⟩) | (refine stq ?_ ?_ <;> (intro hc; ((try simp at hc) <;> try contradiction))) | fail)) <;> try (exfalso; omega))
        refine awp_held TM [(4, _), (7, _)] sb rfl (fun ρs => ?_)
        refine zt0 ?_
        refine zt1 ?_
        refine w_u [2, 7] kr rfl ⟨?_, ?_, trivial⟩
        first | (refine zho ?_) | (refine zqf (ht) ?_; rintro v Hout n1 ⟨rfl, rfl, rfl⟩; refine ⟨sb, ?_⟩) | (refine zqf (h2 _) ?_; rintro v Hout n1 ⟨c2, hc2, rfl, rfl, rfl⟩; refine ⟨sb, ?_⟩)
        refine w_u [3, 7] kr rfl ⟨?_, ?_, trivial⟩
        first | (refine zho ?_) | (refine zqf (ht) ?_; rintro v Hout n1 ⟨rfl, rfl, rfl⟩; refine ⟨sb, ?_⟩) | (refine zqf (h2 _) ?_; rintro v Hout n1 ⟨c2, hc2, rfl, rfl, rfl⟩; refine ⟨sb, ?_⟩)
        refine zt4 ?_
        refine zt5 ?_
        refine zt6 ?_
        refine w_u [7] kr rfl ⟨?_, trivial⟩
        first | (refine zho ?_) | (refine zqf (ht) ?_; rintro v Hout n1 ⟨rfl, rfl, rfl⟩; refine ⟨sb, ?_⟩) | (refine zqf (h2 _) ?_; rintro v Hout n1 ⟨c2, hc2, rfl, rfl, rfl⟩; refine ⟨sb, ?_⟩)
        refine w_u [8] kr rfl ⟨?_, trivial⟩
        first | (refine zho ?_) | (refine zqf (ht) ?_; rintro v Hout n1 ⟨rfl, rfl, rfl⟩; refine ⟨sb, ?_⟩) | (refine zqf (h2 _) ?_; rintro v Hout n1 ⟨c2, hc2, rfl, rfl, rfl⟩; refine ⟨sb, ?_⟩)
        refine zt9 ?_
        refine w_v kr ?_
        rotate_left
        first | (refine zho ?_) | (refine zqf (ht) ?_; rintro v Hout n1 ⟨rfl, rfl, rfl⟩; refine ⟨sb, ?_⟩) | (refine zqf (h2 _) ?_; rintro v Hout n1 ⟨c2, hc2, rfl, rfl, rfl⟩; refine ⟨sb, ?_⟩)
        refine w_u [3] kr rfl ⟨?_, trivial⟩
        first | (refine zho ?_) | (refine zqf (ht) ?_; rintro v Hout n1 ⟨rfl, rfl, rfl⟩; refine ⟨sb, ?_⟩) | (refine zqf (h2 _) ?_; rintro v Hout n1 ⟨c2, hc2, rfl, rfl, rfl⟩; refine ⟨sb, ?_⟩)
        refine zt4 ?_
        refine zt5 ?_
        refine zt6 ?_
        refine w_u [8] kr rfl ⟨?_, trivial⟩
        first | (refine zho ?_) | (refine zqf (ht) ?_; rintro v Hout n1 ⟨rfl, rfl, rfl⟩; refine ⟨sb, ?_⟩) | (refine zqf (h2 _) ?_; rintro v Hout n1 ⟨c2, hc2, rfl, rfl, rfl⟩; refine ⟨sb, ?_⟩)
        refine zt9 ?_
        refine w_v kr ?_
        rotate_left
        first | (refine zho ?_) | (refine zqf (ht) ?_; rintro v Hout n1 ⟨rfl, rfl, rfl⟩; refine ⟨sb, ?_⟩) | (refine zqf (h2 _) ?_; rintro v Hout n1 ⟨c2, hc2, rfl, rfl, rfl⟩; refine ⟨sb, ?_⟩)
        refine w_u [2] kr rfl ⟨?_, trivial⟩
        first | (refine zho ?_) | (refine zqf (ht) ?_; rintro v Hout n1 ⟨rfl, rfl, rfl⟩; refine ⟨sb, ?_⟩) | (refine zqf (h2 _) ?_; rintro v Hout n1 ⟨c2, hc2, rfl, rfl, rfl⟩; refine ⟨sb, ?_⟩)
        refine w_u [3] kr rfl ⟨?_, trivial⟩
        first | (refine zho ?_) | (refine zqf (ht) ?_; rintro v Hout n1 ⟨rfl, rfl, rfl⟩; refine ⟨sb, ?_⟩) | (refine zqf (h2 _) ?_; rintro v Hout n1 ⟨c2, hc2, rfl, rfl, rfl⟩; refine ⟨sb, ?_⟩)
        refine zt4 ?_
        refine zt5 ?_
        refine zt6 ?_
        refine w_u [8] kr rfl ⟨?_, trivial⟩
        first | (refine zho ?_) | (refine zqf (ht) ?_; rintro v Hout n1 ⟨rfl, rfl, rfl⟩; refine ⟨sb, ?_⟩) | (refine zqf (h2 _) ?_; rintro v Hout n1 ⟨c2, hc2, rfl, rfl, rfl⟩; refine ⟨sb, ?_⟩)
        refine zt9 ?_
        refine w_v kr ?_
        rotate_left
        all_goals ((repeat' (first | refine stx ?_ | (refine stq ?_ ?_ <;> (intro hc; ((try simp at hc) <;> try contradiction))) | fail)) <;> try (exfalso; omega))
        all_goals first
          | exact fin rfl w_3 [(3, 9)] (doneV a a 3 z.length c2 true) [(3, .own 3 c2 (.ints z))] 4 (GotZ.yes Zz Zz hc2) rfl ⟨trivial, ⟨rfl, trivial⟩, rfl⟩ rfl
          | exact fin rfl w_3 [(3, 10)] (doneV a a 3 z.length c2 true) [(3, .own 3 c2 (.ints z))] 4 (GotZ.yes Zz Zz hc2) rfl ⟨trivial, ⟨rfl, trivial⟩, rfl⟩ rfl
theorem chgZ_len {gr gc ur uc : Int} {gx ux z : List Int} (h : chgZ gr gc gx ur uc ux = some z) : z.length ≤ 576 := by
  unfold chgZ at h
  split at h
  · split at h
    · exact isM_le (mulZ_some h).2.2.2
    · cases h
  · cases h
def isoB (gr gc : Int) (gx : List Int) (hr hc : Int) (hx : List Int) (ur uc : Int) (ux : List Int) : Bool := match chgZ hr hc hx ur uc ux with
  | some z => sameM ur ur gr gc z gx && unimB ur uc ux
  | none => false
set_option maxHeartbeats 4000000 in
theorem d_isoI (gr gc hr hc ur uc : Int) (gx hx ux : List Int) (ca cb cc : Nat) (hl : gx.length ≤ 1099511627776) (hl' : hx.length ≤ 1099511627776) (hl'' : ux.length ≤ 1099511627776) :
    Does Tryz.prog 13 [vM gr gc 1 gx.length ca, vM hr hc 2 hx.length cb, vM ur uc 3 ux.length cc] [(1, .ro (.ints gx)), (2, .ro (.ints hx)), (3, .ro (.ints ux))] 4 (Ret (vB (isoB gr gc gx hr hc hx ur uc ux)) 4) := by
  refine Does.intro TT Tryz.func13 rfl (by kernel_rfl) Zz Zz fun E hE => ?_
  have h1 := d_chgI hr hc ur uc hx ux cb cc hl' hl''
  cases ho : chgZ hr hc hx ur uc ux with
  | none =>
    have hs : isoB gr gc gx hr hc hx ur uc ux = false := by simp [isoB, ho]
    rw [ho] at h1
    ((repeat' (first | refine stx ?_ | ((refine zqe (h1) ?_); rintro v Hout n1 ⟨rfl, rfl, rfl⟩) | (refine stq ?_ ?_ <;> (intro hc; ((try simp at hc) <;> try contradiction))) | fail)) <;> try (exfalso; omega))
    refine fin_ret rfl w_3 (congrArg vB hs.symm) rfl
  | some z =>
    have hz := chgZ_len ho
    have hs : isoB gr gc gx hr hc hx ur uc ux = (sameM ur ur gr gc z gx && unimB ur uc ux) := by simp [isoB, ho]
    rw [ho] at h1
    rw [hs]
    have h2 := fun cp => d_sameI ur ur gr gc z gx cp ca (by omega) hl
    have h3 := d_unimI ur uc ux cc hl''
    cases hss : sameM ur ur gr gc z gx <;> cases hu : unimB ur uc ux
    all_goals
      rw [hss] at h2
      rw [hu] at h3
      ((repeat' (first | refine stx ?_ | ((refine zqe (h1) ?_); rintro v Hout n1 ⟨c1, hc1, rfl, rfl, rfl⟩) | refine zqc (h2 _) ?_ | refine zqc (h3) ?_ | (refine stq ?_ ?_ <;> (intro hc; ((try simp at hc) <;> try contradiction))) | fail)) <;> try (exfalso; omega))
    all_goals refine fin_ret rfl w_3 (rfl) rfl
set_option maxHeartbeats 4000000 in
theorem d_isoS (gr gc hr hc ur uc : Int) (gx hx ux : List Int) (ca cb cc : Nat) (hl : gx.length ≤ 1099511627776) (hl' : hx.length ≤ 1099511627776) (hl'' : ux.length ≤ 1099511627776) :
    Does Tryz.prog 14 [vM gr gc 1 gx.length ca, vM hr hc 2 hx.length cb, vM ur uc 3 ux.length cc] [(1, .ro (.ints gx)), (2, .ro (.ints hx)), (3, .ro (.ints ux))] 4 (Ret (vB (isoB gr gc gx hr hc hx ur uc ux)) 4) := by
  refine Does.intro TT Tryz.func14 rfl (by kernel_rfl) Zz Zz fun E hE => ?_
  have h1 := d_chgS hr hc ur uc hx ux cb cc hl' hl''
  cases ho : chgZ hr hc hx ur uc ux with
  | none =>
    have hs : isoB gr gc gx hr hc hx ur uc ux = false := by simp [isoB, ho]
    rw [ho] at h1
    ((repeat' (first | refine stx ?_ | ((refine zqe (h1) ?_); rintro v Hout n1 ⟨rfl, rfl, rfl⟩) | (refine stq ?_ ?_ <;> (intro hc; ((try simp at hc) <;> try contradiction))) | fail)) <;> try (exfalso; omega))
    refine fin_ret rfl w_3 (congrArg vB hs.symm) rfl
  | some z =>
    have hz := chgZ_len ho
    have hs : isoB gr gc gx hr hc hx ur uc ux = (sameM ur ur gr gc z gx && unimB ur uc ux) := by simp [isoB, ho]
    rw [ho] at h1
    rw [hs]
    have h2 := fun cp => d_sameS ur ur gr gc z gx cp ca (by omega) hl
    have h3 := d_unimS ur uc ux cc hl''
    cases hss : sameM ur ur gr gc z gx <;> cases hu : unimB ur uc ux
    all_goals
      rw [hss] at h2
      rw [hu] at h3
      ((repeat' (first | refine stx ?_ | ((refine zqe (h1) ?_); rintro v Hout n1 ⟨c1, hc1, rfl, rfl, rfl⟩) | refine zqc (h2 _) ?_ | refine zqc (h3) ?_ | (refine stq ?_ ?_ <;> (intro hc; ((try simp at hc) <;> try contradiction))) | fail)) <;> try (exfalso; omega))
    all_goals refine fin_ret rfl w_3 (rfl) rfl
end Go.Proofs.YtekpamojojfplaaGreat
namespace Go.Proofs.YtekpamojojfplaaGreat
def posL (l : List Int) : Bool := l.all fun n => decide (0 < n)
def defB (r c : Int) (xs : List Int) : Bool := (match leadO r c xs with
  | some l => posL l
  | none => false) && gramB r c xs
end Go.Proofs.YtekpamojojfplaaGreat
namespace Go.Proofs.YtekpamojojfplaaGreat
def rtTo (n : Int) : Nat → Nat → Nat
  | 0, r => r
  | f + 1, r => if ((r : Int) + 1) * ((r : Int) + 1) ≤ n then rtTo n f (r + 1) else r
def rootN (n : Int) : Nat := rtTo n n.toNat 0
theorem rt_stop {n : Int} {r : Nat} (h : ¬ ((r : Int) + 1) * ((r : Int) + 1) ≤ n) : ∀ f, rtTo n f r = r
  | 0 => rfl
  | f + 1 => by rw [rtTo, if_neg h]
theorem rt_in {n : Int} {r : Nat} (h : ((r : Int) + 1) * ((r : Int) + 1) ≤ n) : (r : Int) + 1 ≤ n := by
  have : (r : Int) + 1 ≤ ((r : Int) + 1) * ((r : Int) + 1) := by
    have := Int.mul_le_mul_of_nonneg_left (show (1 : Int) ≤ (r : Int) + 1 by omega) (show (0 : Int) ≤ (r : Int) + 1 by omega)
    omega
  omega
theorem rt_next {n : Int} {r : Nat} (h : ((r : Int) + 1) * ((r : Int) + 1) ≤ n) : rtTo n (n.toNat - r) r = rtTo n (n.toNat - (r + 1)) (r + 1) := by
  have := rt_in h
  rw [show n.toNat - r = (n.toNat - (r + 1)) + 1 by omega, rtTo, if_pos h]
theorem rt_spec {n : Int} : ∀ {f r : Nat}, n.toNat ≤ r + f → (r : Int) * r ≤ n → ((rtTo n f r : Nat) : Int) * (rtTo n f r : Nat) ≤ n ∧ n < ((rtTo n f r : Nat) + 1 : Int) * ((rtTo n f r : Nat) + 1 : Int)
  | 0, r, h, hr => by
    rw [rtTo]
    refine ⟨hr, ?_⟩
    have := Int.mul_le_mul_of_nonneg_left (show (1 : Int) ≤ (r : Int) + 1 by omega) (show (0 : Int) ≤ (r : Int) + 1 by omega)
    omega
  | f + 1, r, h, hr => by
    rw [rtTo]
    split
    · rename_i h1
      exact rt_spec (r := r + 1) (by omega) (by exact_mod_cast h1)
    · rename_i h1
      exact ⟨hr, by omega⟩
theorem rootN_spec {n : Int} (h : 0 ≤ n) : ((rootN n : Nat) : Int) * (rootN n : Nat) ≤ n ∧ n < ((rootN n : Nat) + 1 : Int) * ((rootN n : Nat) + 1 : Int) := rt_spec (by omega) (by omega)
theorem rt_bd2 {n : Int} : ∀ {f r : Nat}, rtTo n f r ≤ r + f
  | 0, r => by rw [rtTo]; omega
  | f + 1, r => by
    rw [rtTo]
    split
    · have := rt_bd2 (n := n) (f := f) (r := r + 1); omega
    · omega
theorem root_bd (n : Int) : rootN n ≤ n.toNat := by
  have := rt_bd2 (n := n) (f := n.toNat) (r := 0)
  unfold rootN; omega
theorem tdiv_bdN {x d : Int} (hx : -400000000 ≤ x ∧ x ≤ 400000000) : -400000000 ≤ x.tdiv d ∧ x.tdiv d ≤ 400000000 := by
  have := Int.natAbs_tdiv_le_natAbs x d
  omega
def bxTo (a : List Int) (n : Nat) (bound d : Int) : Nat → Option (List Int)
  | 0 => some []
  | i + 1 => (bxTo a n bound d i).bind fun l => if numB (bound * a.getD (i * n + i) 0) = true then some (l ++ [((rootN ((bound * a.getD (i * n + i) 0).tdiv d) : Nat) : Int)]) else none
theorem bxTo_len {a : List Int} {n : Nat} {bound d : Int} : ∀ {i : Nat} {l : List Int}, bxTo a n bound d i = some l → l.length = i
  | 0, l, h => by cases h; rfl
  | i + 1, l, h => by
    rw [bxTo, Option.bind_eq_some_iff] at h
    obtain ⟨l0, h1, h2⟩ := h
    split at h2
    · cases h2
      rw [List.length_append, bxTo_len h1]; rfl
    · cases h2
theorem bxTo_none {a : List Int} {n : Nat} {bound d : Int} {i : Nat} (h : bxTo a n bound d i = none) : ∀ m, bxTo a n bound d (i + m) = none
  | 0 => h
  | m + 1 => by rw [← Nat.add_assoc, bxTo, bxTo_none h m]; rfl
def boxG (r c : Int) (g : List Int) (bound : Int) : Option (List Int) := (adjZ r c g).bind fun a => if (defB r c g && inB bound 0 10000) = true then bxTo a r.toNat bound ((detB r c g).getD 0) r.toNat else none
theorem ldR_full {xs : List Int} {n : Nat} : ∀ {i : Nat}, ldR xs n n i = xs.take (i * n)
  | 0 => by simp [ldR]
  | i + 1 => by
    rw [ldR_next, ldR_full, Nat.succ_mul, List.take_add]
theorem leadTo_last {xs : List Int} {c : Nat} : ∀ {k : Nat} {l : List Int}, leadTo xs c k = some l → ∀ i, i < k → detZ (i + 1) (ldR xs c (i + 1) (i + 1)) = some (l.getD i 0)
  | 0, l, h, i, hi => by omega
  | k + 1, l, h, i, hi => by
    rw [leadTo, Option.bind_eq_some_iff] at h
    obtain ⟨l0, h1, h2⟩ := h
    obtain ⟨d, h3, rfl⟩ := Option.map_eq_some_iff.1 h2
    have hl := leadTo_len h1
    by_cases c : i < k
    · rw [leadTo_last h1 i c, List.getD_eq_getElem?_getD, List.getD_eq_getElem?_getD, List.getElem?_append_left (by omega)]
    · obtain rfl : i = k := by omega
      rw [h3, List.getD_eq_getElem?_getD, List.getElem?_append_right (by omega), hl, Nat.sub_self]; rfl
theorem defB_all {r c : Int} {xs : List Int} (h : defB r c xs = true) : ∃ n : Nat, r = n ∧ c = n ∧ n ≤ 6 ∧ xs.length = n * n ∧ xs.all numB = true ∧ turnM xs n n = xs ∧ sqB r c xs = true ∧ ∀ i, i < n → ∃ d, detZ (i + 1) (ldR xs n (i + 1) (i + 1)) = some d ∧ 0 < d := by
  have h0 := h
  simp only [defB, Bool.and_eq_true] at h
  obtain ⟨h1, h2⟩ := h
  simp only [gramB, Bool.and_eq_true, decide_eq_true_eq] at h2
  obtain ⟨n, rfl, rfl, hn, hx, hnum⟩ := sqB_dims h2.1
  refine ⟨n, rfl, rfl, hn, hx, hnum, by simpa using h2.2, h2.1, fun i hi => ?_⟩
  have hle : leadO n n xs = leadTo xs n n := by rw [leadO, if_pos h2.1]; simp
  rw [hle] at h1
  cases hl : leadTo xs n n with
  | none => rw [hl] at h1; cases h1
  | some l =>
    rw [hl] at h1
    refine ⟨_, leadTo_last hl i hi, ?_⟩
    have hll := leadTo_len hl
    have := List.all_eq_true.1 (show l.all (fun n => decide (0 < n)) = true from h1) (l.getD i 0) (by
      rw [List.getD_eq_getElem?_getD, List.getElem?_eq_getElem (by omega), Option.getD_some]; exact List.getElem_mem _)
    exact of_decide_eq_true this
theorem defB_det {r c : Int} {xs : List Int} (h : defB r c xs = true) : ∃ d, detB r c xs = some d ∧ 0 < d := by
  obtain ⟨n, rfl, rfl, hn, hx, -, -, hs, hd⟩ := defB_all h
  have e : detB n n xs = detZ n xs := by rw [detB, if_pos hs, Int.toNat_natCast]
  rw [e]
  cases n with
  | zero => exact ⟨1, rfl, by omega⟩
  | succ m =>
    obtain ⟨d, h1, h2⟩ := hd m (by omega)
    refine ⟨d, ?_, h2⟩
    rwa [ldR_full, List.take_of_length_le (by omega)] at h1
end Go.Proofs.YtekpamojojfplaaGreat
namespace Go.Proofs.YtekpamojojfplaaGreat
def vecL (v : List Int) : Vec := fun k => v.getD k 0
theorem turnM_at {P : List Int} {k c p l : Nat} (hp : p < k) (hl : l < c) : (turnM P k c).getD (l * k + p) 0 = P.getD (p * c + l) 0 := by
  have hlt : l * k + p < c * k := cell_lt hl hp
  obtain ⟨e1, e2⟩ := turn_idx (j := l) hp
  rw [getD_in (by rw [turnM_len]; exact hlt)]
  simp only [turnM, List.getElem_map, List.getElem_range, e1, e2]
end Go.Proofs.YtekpamojojfplaaGreat
