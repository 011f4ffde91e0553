/-
  CONTRACTS: the drawing of unimodular matrices (small numbers).
-/
import Derived.Test.YtbgeooalhoaemaabDraw
import Derived.Test.YtbgeooalhoaemaabIdent
import Derived.Test.YtbgeooalhoaemaabDet
set_option linter.unusedVariables false
set_option linter.unusedSimpArgs false
namespace Go.Proofs.Ytbgeooalhoaemaa
open Go.RowKit

theorem prodAB {a b : Int} (A B : Int) (h1 : -A ≤ a) (h2 : a ≤ A) (h3 : -B ≤ b) (h4 : b ≤ B) : -(A * B) ≤ a * b ∧ a * b ≤ A * B := mul_bd h1 h2 h3 h4
theorem d_l1MulB (a b : Int) (ha : -100000 ≤ a ∧ a ≤ 100000) (hb : -10 ≤ b ∧ b ≤ 10) : Does Try.prog 106 [vI a, vI b] [] 1 (Ret (vI (a * b)) 1) := by
  have h := prodAB (a := a) (b := b) 100000 10 ha.1 ha.2 hb.1 hb.2
  refine Does.intro TT Try.func106 rfl (by kernel_rfl) rfl rfl fun E hE => ?_
  ((repeat' (first | (refine awpL_step TT rfl rfl rfl sd ?_) | (refine awpL_nil ?_) | (refine awpL_skip rfl rfl ?_) | (refine awpQ_step TT rfl rfl rfl rfl sd ?_) | (refine awpQ_nil ?_) | (refine awpQ_skip rfl rfl ?_) | (refine awp_seq ?_) | (refine awp_region ?_) | (first | refine awpL_ret (d_fitY _ (numB_true.2 (by omega))) rfl rfl rfl rfl rfl rfl rfl rfl ft rfl rfl ?_ | refine awpQ_ret (d_fitY _ (numB_true.2 (by omega))) rfl rfl rfl rfl rfl rfl rfl rfl ft rfl rfl ?_ | refine awpHop_ret _ (d_fitY _ (numB_true.2 (by omega))) rfl rfl rfl rfl rfl rfl rfl rfl rfl ft rfl rfl sb rfl ?_) | (refine awp_block ?_) | (refine awp_exit ?_) | (refine awp_skip ?_) | (refine awp_ret ?_) | (refine awp_cond_t rfl ?_) | (refine awp_cond_f rfl ?_) | (refine awp_quiet TM rfl (by kernel_rfl) ?_) | ((first | refine awpL_split rfl rfl rfl (fun hc => ?_) (fun hc => ?_) | refine awpQ_split rfl rfl rfl (fun hc => ?_) (fun hc => ?_) | refine awp_cond rfl (fun hc => ?_) (fun hc => ?_)) <;> ((try simp at hc) <;> try contradiction)))) <;> try (exfalso; omega))
  refine fin_ret rfl (by repeat' (first | exact trivial | exact Nat.zero_lt_one | omega | refine ⟨?_, ?_⟩)) (rfl) rfl
theorem d_l1AddB (a b : Int) (ha : -100000000 ≤ a ∧ a ≤ 100000000) (hb : -100000000 ≤ b ∧ b ≤ 100000000) : Does Try.prog 107 [vI a, vI b] [] 1 (Ret (vI (a + b)) 1) := by
  refine Does.intro TT Try.func107 rfl (by kernel_rfl) rfl rfl fun E hE => ?_
  ((repeat' (first | (refine awpL_step TT rfl rfl rfl sd ?_) | (refine awpL_nil ?_) | (refine awpL_skip rfl rfl ?_) | (refine awpQ_step TT rfl rfl rfl rfl sd ?_) | (refine awpQ_nil ?_) | (refine awpQ_skip rfl rfl ?_) | (refine awp_seq ?_) | (refine awp_region ?_) | (first | refine awpL_ret (d_fitY _ (numB_true.2 (by omega))) rfl rfl rfl rfl rfl rfl rfl rfl ft rfl rfl ?_ | refine awpQ_ret (d_fitY _ (numB_true.2 (by omega))) rfl rfl rfl rfl rfl rfl rfl rfl ft rfl rfl ?_ | refine awpHop_ret _ (d_fitY _ (numB_true.2 (by omega))) rfl rfl rfl rfl rfl rfl rfl rfl rfl ft rfl rfl sb rfl ?_) | (refine awp_block ?_) | (refine awp_exit ?_) | (refine awp_skip ?_) | (refine awp_ret ?_) | (refine awp_cond_t rfl ?_) | (refine awp_cond_f rfl ?_) | (refine awp_quiet TM rfl (by kernel_rfl) ?_) | ((first | refine awpL_split rfl rfl rfl (fun hc => ?_) (fun hc => ?_) | refine awpQ_split rfl rfl rfl (fun hc => ?_) (fun hc => ?_) | refine awp_cond rfl (fun hc => ?_) (fun hc => ?_)) <;> ((try simp at hc) <;> try contradiction)))) <;> try (exfalso; omega))
  refine fin_ret rfl (by repeat' (first | exact trivial | exact Nat.zero_lt_one | omega | refine ⟨?_, ?_⟩)) (rfl) rfl
def BC (xs : List Int) (c k : Nat) (B : Int) : Prop := ∀ p : Nat, (p % c < k → -(3 * B) ≤ xs.getD p 0 ∧ xs.getD p 0 ≤ 3 * B) ∧ (k ≤ p % c → -B ≤ xs.getD p 0 ∧ xs.getD p 0 ≤ B)
theorem set_getD {xs : List Int} {q p : Nat} {v : Int} : (xs.set q v).getD p 0 = if q = p ∧ p < xs.length then v else xs.getD p 0 := by
  simp only [List.getD_eq_getElem?_getD, List.getElem?_set]
  by_cases c : q = p
  · subst c
    by_cases h : q < xs.length
    · simp [h]
    · simp [h]
  · simp [c]
theorem BC.set {xs : List Int} {c k q : Nat} {v B : Int} (h : BC xs c k B) (hq : q % c = k) (hB : 0 ≤ B) (hv : -(3 * B) ≤ v ∧ v ≤ 3 * B) : ∀ p : Nat, (p % c < k + 1 → -(3 * B) ≤ (xs.set q v).getD p 0 ∧ (xs.set q v).getD p 0 ≤ 3 * B) ∧ (k + 1 ≤ p % c → -B ≤ (xs.set q v).getD p 0 ∧ (xs.set q v).getD p 0 ≤ B) := fun p => by
  rw [set_getD]
  obtain ⟨h1, h2⟩ := h p
  split
  · rename_i e
    refine ⟨fun _ => hv, fun h3 => ?_⟩
    rw [← e.1, hq] at h3; omega
  · refine ⟨fun h3 => ?_, fun h3 => h2 (by omega)⟩
    rcases Nat.lt_or_ge (p % c) k with q | q
    · exact h1 q
    · have := h2 q; omega
theorem BC.set2 {xs : List Int} {c k q : Nat} {v B : Int} (h : ∀ p : Nat, (p % c < k + 1 → -(3 * B) ≤ xs.getD p 0 ∧ xs.getD p 0 ≤ 3 * B) ∧ (k + 1 ≤ p % c → -B ≤ xs.getD p 0 ∧ xs.getD p 0 ≤ B)) (hq : q % c = k) (hv : -(3 * B) ≤ v ∧ v ≤ 3 * B) : BC (xs.set q v) c (k + 1) B := fun p => by
  rw [set_getD]
  obtain ⟨h1, h2⟩ := h p
  split
  · rename_i e
    refine ⟨fun _ => hv, fun h3 => ?_⟩
    rw [← e.1, hq] at h3; omega
  · exact ⟨h1, h2⟩
theorem cell_natU {p k c : Nat} : 0 + ((p : Int) * c + k).toNat = p * c + k := by
  have e : ((p : Int) * c + k) = ((p * c + k : Nat) : Int) := by simp
  rw [e]; omega
theorem col_idx {p k c : Nat} (h : k < c) : (p * c + k) % c = k := by
  rw [Nat.mul_comm, Nat.mul_add_mod, Nat.mod_eq_of_lt h]
def Bnd (xs : List Int) (B : Int) : Prop := ∀ p : Nat, -B ≤ xs.getD p 0 ∧ xs.getD p 0 ≤ B
theorem BC.zero {xs : List Int} {c : Nat} {B : Int} (h : Bnd xs B) : BC xs c 0 B := fun p => ⟨fun q => by omega, fun _ => h p⟩
theorem BC.full {xs : List Int} {c : Nat} {B : Int} (hc : 0 < c) (h : BC xs c c B) : Bnd xs (3 * B) := fun p => (h p).1 (Nat.mod_lt _ hc)
def DidB (t : TypeId) (cap n : Nat) (B : Int) (v : AV) (Hout : List (Nat × Blk)) (n1 : Nat) : Prop := ∃ ys : List Int, ys.length = n ∧ Bnd ys B ∧ SetM t cap ys v Hout n1
set_option maxHeartbeats 4000000 in
theorem d_l5DoB (n p t cap ca m : Nat) (kind tm B : Int) (xs : List Int) (hm : m = xs.length) (hn : n ≤ 24) (hp : p < n) (ht : t < n) (hx : xs.length = n * n) (hb : Bnd xs B) (hB0 : 0 ≤ B) (hB : B ≤ 1000) (htm : -2 ≤ tm ∧ tm ≤ 2) :
    Does Try.prog 103 [vM n n 1 m ca, .agg [.int kind, .int p, .int t, .int tm]] [(1, .own 3 cap (.ints xs))] 2 (DidB 3 cap (n * n) (3 * B)) := by
  subst hm
  refine Does.intro TT Try.func103 rfl (by kernel_rfl) rfl rfl fun E hE => ?_
  ((repeat' (first | (refine awpL_step TT rfl rfl rfl sd ?_) | (refine awpL_nil ?_) | (refine awpL_skip rfl rfl ?_) | (refine awpQ_step TT rfl rfl rfl rfl sd ?_) | (refine awpQ_nil ?_) | (refine awpQ_skip rfl rfl ?_) | (refine awp_seq ?_) | (refine awp_region ?_) | (refine awp_block ?_) | (refine awp_exit ?_) | (refine awp_skip ?_) | (refine awp_ret ?_) | (refine awp_cond_t rfl ?_) | (refine awp_cond_f rfl ?_) | (refine awp_quiet TM rfl (by kernel_rfl) ?_) | ((first | refine awpL_split rfl rfl rfl (fun hc => ?_) (fun hc => ?_) | refine awpQ_split rfl rfl rfl (fun hc => ?_) (fun hc => ?_) | refine awp_cond rfl (fun hc => ?_) (fun hc => ?_)) <;> ((try simp at hc) <;> try contradiction)))) <;> try (exfalso; omega))
  refine awp_loop hE (fun p : Nat × List Int => p.1 ≤ n ∧ p.2.length = n * n ∧ BC p.2 n p.1 B) (fun p => n - p.1)
    (fun q => [(2, .one (.ptr 2 3 0 0)), (3, .one (.ptr 3 4 0 0)), (4, vI q.1)]) (fun q => [(1, .own 3 cap (.ints q.2)), (2, .own 27 1 (.lit [.int n, .int n, .sl 1 1 0 xs.length ca])), (3, .own 110 1 (.lit [.int kind, .int p, .int t, .int tm]))]) 4 [] (0, xs) ⟨Nat.zero_le _, hx, BC.zero hb⟩ ⟨(by repeat' (first | exact trivial | refine ⟨rfl, ?_⟩ | refine ⟨congrArg some (congrArg vI (by first | omega | (simp; done) | (simp; omega))), ?_⟩ | refine ⟨sl_eqA (by first | omega | (simp; done) | (simp; omega)), ?_⟩)), (by repeat' (first | exact trivial | refine ⟨rfl, ?_⟩)), rfl⟩ ?_
  rintro ⟨k, zs⟩ ⟨hk, hz, hbc⟩
  dsimp only at hk hz hbc ⊢
  by_cases hkc : k < n
  · have b1 := cell_facts hp hkc hn hn
    have b2 := cell_facts ht hkc hn hn
    have e1 := cell_natU (p := p) (k := k) (c := n)
    have e2 := cell_natU (p := t) (k := k) (c := n)
    have c1 := col_idx (p := p) hkc
    have c2 := col_idx (p := t) hkc
    rw [← e1] at c1
    rw [← e2] at c2
    have v1 := (hbc (0 + ((p : Int) * n + k).toNat)).2 (by omega)
    have v2 := (hbc (0 + ((t : Int) * n + k).toNat)).2 (by omega)
    have v3 := prodAB (b := tm) B 2 v2.1 v2.2 htm.1 htm.2
    by_cases hk0 : kind = 0
    · subst hk0
      ((repeat' (first | (refine awpL_step TT rfl rfl rfl sd ?_) | (refine awpL_nil ?_) | (refine awpL_skip rfl rfl ?_) | (refine awpQ_step TT rfl rfl rfl rfl sd ?_) | (refine awpQ_nil ?_) | (refine awpQ_skip rfl rfl ?_) | (refine awp_seq ?_) | (refine awp_region ?_) | (refine awp_block ?_) | (refine awp_exit ?_) | (refine awp_skip ?_) | (refine awp_ret ?_) | (refine awp_cond_t rfl ?_) | (refine awp_cond_f rfl ?_) | (refine awp_quiet TM rfl (by kernel_rfl) ?_) | ((first | refine awpL_split rfl rfl rfl (fun hc => ?_) (fun hc => ?_) | refine awpQ_split rfl rfl rfl (fun hc => ?_) (fun hc => ?_) | refine awp_cond rfl (fun hc => ?_) (fun hc => ?_)) <;> ((try simp at hc) <;> try contradiction)))) <;> try (exfalso; omega))
      all_goals exact ⟨[], (k + 1, _), ⟨by dsimp only; omega, by dsimp only; simp only [List.length_set]; exact hz, by refine BC.set2 (BC.set hbc c1 hB0 ?_) c2 ?_ <;> omega⟩, (by first | omega | (dsimp only; omega)), ⟨(by repeat' (first | exact trivial | refine ⟨rfl, ?_⟩ | refine ⟨congrArg some (congrArg vI (by first | omega | (simp; done) | (simp; omega))), ?_⟩ | refine ⟨sl_eqA (by first | omega | (simp; done) | (simp; omega)), ?_⟩)), ⟨own_ints rfl, rfl, rfl, trivial⟩, rfl⟩⟩
    by_cases hk1 : kind = 1
    · subst hk1
      ((repeat' (first | (refine awpL_step TT rfl rfl rfl sd ?_) | (refine awpL_nil ?_) | (refine awpL_skip rfl rfl ?_) | (refine awpQ_step TT rfl rfl rfl rfl sd ?_) | (refine awpQ_nil ?_) | (refine awpQ_skip rfl rfl ?_) | (refine awp_seq ?_) | (refine awp_region ?_) | (refine awp_block ?_) | (refine awp_exit ?_) | (refine awp_skip ?_) | (refine awp_ret ?_) | (refine awp_cond_t rfl ?_) | (refine awp_cond_f rfl ?_) | ((first | refine awpL_split rfl rfl rfl (fun hc => ?_) (fun hc => ?_) | refine awpQ_split rfl rfl rfl (fun hc => ?_) (fun hc => ?_) | refine awp_cond rfl (fun hc => ?_) (fun hc => ?_)) <;> ((try simp at hc) <;> try contradiction)))) <;> try (exfalso; omega))
      refine awp_held TM [(2, _), (3, _)] sb rfl (fun ρs => ?_)
      refine awpH_take TT 0 rfl kr kr kr nh rfl rfl rfl rfl sd ?_
      refine awpH_take TT 1 rfl kr kr kr nh rfl rfl rfl rfl sd ?_
      refine awpH_take TT 2 rfl kr kr kr nh rfl rfl rfl rfl sd ?_
      refine awpH_take TT 3 rfl kr kr kr nh rfl rfl rfl rfl sd ?_
      refine awpH_take TT 4 rfl kr kr kr nh rfl rfl rfl rfl sd ?_
      refine awpH_take TT 5 rfl kr kr kr nh rfl rfl rfl rfl sd ?_
      refine awpH_take TT 6 rfl kr kr kr nh rfl rfl rfl rfl sd ?_
      refine awpH_take TT 7 rfl kr kr kr nh rfl rfl rfl rfl sd ?_
      refine awpH_take TT 8 rfl kr kr kr nh rfl rfl rfl rfl sd ?_
      refine awpH_take TT 9 rfl kr kr kr nh rfl rfl rfl rfl sd ?_
      refine awpH_all [10] kr rfl ⟨?_, trivial⟩
      first | (refine awpHop_step TT 10 rfl rfl rfl rfl sd sb rfl ?_) | (first | refine awpL_ret (d_l1MulB _ _ (by omega) (by omega)) rfl rfl rfl rfl rfl rfl rfl rfl ft rfl rfl ?_ | refine awpQ_ret (d_l1MulB _ _ (by omega) (by omega)) rfl rfl rfl rfl rfl rfl rfl rfl ft rfl rfl ?_ | refine awpHop_ret _ (d_l1MulB _ _ (by omega) (by omega)) rfl rfl rfl rfl rfl rfl rfl rfl rfl ft rfl rfl sb rfl ?_)
      first | (refine awpH_take TT 11 rfl kr kr kr nh rfl rfl rfl rfl sd ?_) | (refine awpH_idx TT 11 rfl kr kr kr nh rfl rfl rfl rfl rfl sd ?_)
      refine awpH_all [12] kr rfl ⟨?_, trivial⟩
      first | (refine awpHop_step TT 12 rfl rfl rfl rfl sd sb rfl ?_) | (first | refine awpL_ret (d_l1MulB _ _ (by omega) (by omega)) rfl rfl rfl rfl rfl rfl rfl rfl ft rfl rfl ?_ | refine awpQ_ret (d_l1MulB _ _ (by omega) (by omega)) rfl rfl rfl rfl rfl rfl rfl rfl ft rfl rfl ?_ | refine awpHop_ret _ (d_l1MulB _ _ (by omega) (by omega)) rfl rfl rfl rfl rfl rfl rfl rfl rfl ft rfl rfl sb rfl ?_)
      refine awpH_done kr ?_
      rotate_left
      all_goals ((repeat' (first | (refine awpL_step TT rfl rfl rfl sd ?_) | (refine awpL_nil ?_) | (refine awpL_skip rfl rfl ?_) | (refine awpQ_step TT rfl rfl rfl rfl sd ?_) | (refine awpQ_nil ?_) | (refine awpQ_skip rfl rfl ?_) | (refine awp_seq ?_) | (refine awp_region ?_) | (refine awp_block ?_) | (refine awp_exit ?_) | (refine awp_skip ?_) | (refine awp_ret ?_) | (refine awp_cond_t rfl ?_) | (refine awp_cond_f rfl ?_) | ((first | refine awpL_split rfl rfl rfl (fun hc => ?_) (fun hc => ?_) | refine awpQ_split rfl rfl rfl (fun hc => ?_) (fun hc => ?_) | refine awp_cond rfl (fun hc => ?_) (fun hc => ?_)) <;> ((try simp at hc) <;> try contradiction)))) <;> try (exfalso; omega))
      all_goals exact ⟨[], (k + 1, _), ⟨by dsimp only; omega, by dsimp only; simp only [List.length_set]; exact hz, by refine BC.set hbc c1 hB0 ?_; omega⟩, (by first | omega | (dsimp only; omega)), ⟨(by repeat' (first | exact trivial | refine ⟨rfl, ?_⟩ | refine ⟨congrArg some (congrArg vI (by first | omega | (simp; done) | (simp; omega))), ?_⟩ | refine ⟨sl_eqA (by first | omega | (simp; done) | (simp; omega)), ?_⟩)), ⟨own_ints rfl, rfl, rfl, trivial⟩, rfl⟩⟩
    · ((repeat' (first | (refine awpL_step TT rfl rfl rfl sd ?_) | (refine awpL_nil ?_) | (refine awpL_skip rfl rfl ?_) | (refine awpQ_step TT rfl rfl rfl rfl sd ?_) | (refine awpQ_nil ?_) | (refine awpQ_skip rfl rfl ?_) | (refine awp_seq ?_) | (refine awp_region ?_) | (refine awp_block ?_) | (refine awp_exit ?_) | (refine awp_skip ?_) | (refine awp_ret ?_) | (refine awp_cond_t rfl ?_) | (refine awp_cond_f rfl ?_) | ((first | refine awpL_split rfl rfl rfl (fun hc => ?_) (fun hc => ?_) | refine awpQ_split rfl rfl rfl (fun hc => ?_) (fun hc => ?_) | refine awp_cond rfl (fun hc => ?_) (fun hc => ?_)) <;> ((try simp at hc) <;> try contradiction)))) <;> try (exfalso; omega))
      refine awp_held TM [(2, _), (3, _)] sb rfl (fun ρs => ?_)
      refine awpH_take TT 0 rfl kr kr kr nh rfl rfl rfl rfl sd ?_
      refine awpH_take TT 1 rfl kr kr kr nh rfl rfl rfl rfl sd ?_
      refine awpH_take TT 2 rfl kr kr kr nh rfl rfl rfl rfl sd ?_
      refine awpH_take TT 3 rfl kr kr kr nh rfl rfl rfl rfl sd ?_
      refine awpH_take TT 4 rfl kr kr kr nh rfl rfl rfl rfl sd ?_
      refine awpH_take TT 5 rfl kr kr kr nh rfl rfl rfl rfl sd ?_
      refine awpH_take TT 6 rfl kr kr kr nh rfl rfl rfl rfl sd ?_
      refine awpH_take TT 7 rfl kr kr kr nh rfl rfl rfl rfl sd ?_
      refine awpH_take TT 8 rfl kr kr kr nh rfl rfl rfl rfl sd ?_
      refine awpH_take TT 9 rfl kr kr kr nh rfl rfl rfl rfl sd ?_
      refine awpH_take TT 10 rfl kr kr kr nh rfl rfl rfl rfl sd ?_
      refine awpH_take TT 11 rfl kr kr kr nh rfl rfl rfl rfl sd ?_
      refine awpH_take TT 12 rfl kr kr kr nh rfl rfl rfl rfl sd ?_
      refine awpH_all [13] kr rfl ⟨?_, trivial⟩
      first | (refine awpHop_step TT 13 rfl rfl rfl rfl sd sb rfl ?_) | (first | refine awpL_ret (d_l1MulB _ _ (by omega) (by omega)) rfl rfl rfl rfl rfl rfl rfl rfl ft rfl rfl ?_ | refine awpQ_ret (d_l1MulB _ _ (by omega) (by omega)) rfl rfl rfl rfl rfl rfl rfl rfl ft rfl rfl ?_ | refine awpHop_ret _ (d_l1MulB _ _ (by omega) (by omega)) rfl rfl rfl rfl rfl rfl rfl rfl rfl ft rfl rfl sb rfl ?_) | (first | refine awpL_ret (d_l1AddB _ _ (by omega) (by omega)) rfl rfl rfl rfl rfl rfl rfl rfl ft rfl rfl ?_ | refine awpQ_ret (d_l1AddB _ _ (by omega) (by omega)) rfl rfl rfl rfl rfl rfl rfl rfl ft rfl rfl ?_ | refine awpHop_ret _ (d_l1AddB _ _ (by omega) (by omega)) rfl rfl rfl rfl rfl rfl rfl rfl rfl ft rfl rfl sb rfl ?_)
      refine awpH_all [14] kr rfl ⟨?_, trivial⟩
      first | (refine awpHop_step TT 14 rfl rfl rfl rfl sd sb rfl ?_) | (first | refine awpL_ret (d_l1MulB _ _ (by omega) (by omega)) rfl rfl rfl rfl rfl rfl rfl rfl ft rfl rfl ?_ | refine awpQ_ret (d_l1MulB _ _ (by omega) (by omega)) rfl rfl rfl rfl rfl rfl rfl rfl ft rfl rfl ?_ | refine awpHop_ret _ (d_l1MulB _ _ (by omega) (by omega)) rfl rfl rfl rfl rfl rfl rfl rfl rfl ft rfl rfl sb rfl ?_) | (first | refine awpL_ret (d_l1AddB _ _ (by omega) (by omega)) rfl rfl rfl rfl rfl rfl rfl rfl ft rfl rfl ?_ | refine awpQ_ret (d_l1AddB _ _ (by omega) (by omega)) rfl rfl rfl rfl rfl rfl rfl rfl ft rfl rfl ?_ | refine awpHop_ret _ (d_l1AddB _ _ (by omega) (by omega)) rfl rfl rfl rfl rfl rfl rfl rfl rfl ft rfl rfl sb rfl ?_)
      first | (refine awpH_take TT 15 rfl kr kr kr nh rfl rfl rfl rfl sd ?_) | (refine awpH_idx TT 15 rfl kr kr kr nh rfl rfl rfl rfl rfl sd ?_)
      refine awpH_all [16] kr rfl ⟨?_, trivial⟩
      first | (refine awpHop_step TT 16 rfl rfl rfl rfl sd sb rfl ?_) | (first | refine awpL_ret (d_l1MulB _ _ (by omega) (by omega)) rfl rfl rfl rfl rfl rfl rfl rfl ft rfl rfl ?_ | refine awpQ_ret (d_l1MulB _ _ (by omega) (by omega)) rfl rfl rfl rfl rfl rfl rfl rfl ft rfl rfl ?_ | refine awpHop_ret _ (d_l1MulB _ _ (by omega) (by omega)) rfl rfl rfl rfl rfl rfl rfl rfl rfl ft rfl rfl sb rfl ?_) | (first | refine awpL_ret (d_l1AddB _ _ (by omega) (by omega)) rfl rfl rfl rfl rfl rfl rfl rfl ft rfl rfl ?_ | refine awpQ_ret (d_l1AddB _ _ (by omega) (by omega)) rfl rfl rfl rfl rfl rfl rfl rfl ft rfl rfl ?_ | refine awpHop_ret _ (d_l1AddB _ _ (by omega) (by omega)) rfl rfl rfl rfl rfl rfl rfl rfl rfl ft rfl rfl sb rfl ?_)
      refine awpH_done kr ?_
      rotate_left
      all_goals ((repeat' (first | (refine awpL_step TT rfl rfl rfl sd ?_) | (refine awpL_nil ?_) | (refine awpL_skip rfl rfl ?_) | (refine awpQ_step TT rfl rfl rfl rfl sd ?_) | (refine awpQ_nil ?_) | (refine awpQ_skip rfl rfl ?_) | (refine awp_seq ?_) | (refine awp_region ?_) | (refine awp_block ?_) | (refine awp_exit ?_) | (refine awp_skip ?_) | (refine awp_ret ?_) | (refine awp_cond_t rfl ?_) | (refine awp_cond_f rfl ?_) | ((first | refine awpL_split rfl rfl rfl (fun hc => ?_) (fun hc => ?_) | refine awpQ_split rfl rfl rfl (fun hc => ?_) (fun hc => ?_) | refine awp_cond rfl (fun hc => ?_) (fun hc => ?_)) <;> ((try simp at hc) <;> try contradiction)))) <;> try (exfalso; omega))
      all_goals exact ⟨[], (k + 1, _), ⟨by dsimp only; omega, by dsimp only; simp only [List.length_set]; exact hz, by refine BC.set hbc c1 hB0 ?_; omega⟩, (by first | omega | (dsimp only; omega)), ⟨(by repeat' (first | exact trivial | refine ⟨rfl, ?_⟩ | refine ⟨congrArg some (congrArg vI (by first | omega | (simp; done) | (simp; omega))), ?_⟩ | refine ⟨sl_eqA (by first | omega | (simp; done) | (simp; omega)), ?_⟩)), ⟨own_ints rfl, rfl, rfl, trivial⟩, rfl⟩⟩
  · obtain rfl : k = n := by omega
    ((repeat' (first | (refine awpL_step TT rfl rfl rfl sd ?_) | (refine awpL_nil ?_) | (refine awpL_skip rfl rfl ?_) | (refine awpQ_step TT rfl rfl rfl rfl sd ?_) | (refine awpQ_nil ?_) | (refine awpQ_skip rfl rfl ?_) | (refine awp_seq ?_) | (refine awp_region ?_) | (refine awp_block ?_) | (refine awp_exit ?_) | (refine awp_skip ?_) | (refine awp_ret ?_) | (refine awp_cond_t rfl ?_) | (refine awp_cond_f rfl ?_) | (refine awp_quiet TM rfl (by kernel_rfl) ?_) | ((first | refine awpL_split rfl rfl rfl (fun hc => ?_) (fun hc => ?_) | refine awpQ_split rfl rfl rfl (fun hc => ?_) (fun hc => ?_) | refine awp_cond rfl (fun hc => ?_) (fun hc => ?_)) <;> ((try simp at hc) <;> try contradiction)))) <;> try (exfalso; omega))
    exact fin_n rfl (by repeat' (first | exact trivial | exact Nat.zero_lt_one | omega | refine ⟨?_, ?_⟩)) [] (.tup []) [(1, .own 3 cap (.ints zs))] 2 ⟨zs, hz, BC.full (by omega) hbc, rfl, rfl, rfl⟩ rfl ⟨trivial, ⟨rfl, trivial⟩, rfl⟩ rfl
theorem idOut_nat {n : Nat} (hn : n ≤ 24) {t : TypeId} : IdOut n t = fun v Hout n1 => v = .tup [.agg [.int n, .int n, .sl 1 1 0 (n * n) (n * n)], .one (.bool true)] ∧ Hout = [(1, .own t (n * n) (.ints (idTo n n)))] ∧ n1 = 2 := by
  funext v Hout n1
  unfold IdOut
  rw [inB_true.2 (by omega)]
  simp
theorem id_bnd {n i : Nat} : Bnd (idTo n i) 1 := fun p => by
  rw [List.getD_eq_getElem?_getD]
  rcases Nat.lt_or_ge p (idTo n i).length with h | h
  · rw [List.getElem?_eq_getElem h]
    simp only [idTo, List.getElem_map, Option.getD_some]
    split <;> omega
  · rw [List.getElem?_eq_none h]; simp
theorem Bnd.mono {xs : List Int} {A B : Int} (h : Bnd xs A) (hAB : A ≤ B) : Bnd xs B := fun p => by have := h p; omega
def DrewU (t tc : TypeId) (nb c n : Nat) (v : AV) (Hout : List (Nat × Blk)) (n1 : Nat) : Prop :=
  ∃ (xs : List Int) (i : Nat) (h : Int), xs.length = n * n ∧ Bnd xs 243 ∧ v = .agg [.int n, .int n, .sl 3 1 0 (n * n) (n * n)] ∧ Hout = [(2, .own tc 1 (.lit (curL c nb i h))), (3, .own t (n * n) (.ints xs))] ∧ n1 = 4
def p3 : Nat → Int
  | 0 => 243
  | 1 => 81
  | 2 => 27
  | 3 => 9
  | 4 => 3
  | _ => 1
theorem p3_step {k : Nat} (h : k + 1 ≤ 5) : 3 * p3 (k + 1) = p3 k ∧ 0 ≤ p3 (k + 1) ∧ p3 (k + 1) ≤ 1000 := by
  match k, h with
  | 0, _ => decide
  | 1, _ => decide
  | 2, _ => decide
  | 3, _ => decide
  | 4, _ => decide
theorem p3_le (k : Nat) : 1 ≤ p3 k ∧ p3 k ≤ 243 := by
  unfold p3; split <;> omega
set_option maxHeartbeats 4000000 in
theorem d_uni (bs : List Int) (c i n : Nat) (h : Int) (hl : bs.length ≤ 1048576) (hn : n ≤ 24) : Does Try.prog 95 [vC, vI n] [(1, .ro (.bytes bs)), (2, .own 98 1 (.lit (curL c bs.length i h)))] 3 (DrewU 3 98 bs.length c n) := by
  have hid := d_identS n
  rw [idOut_nat hn] at hid
  refine Does.intro TT Try.func95 rfl (by kernel_rfl) rfl rfl fun E hE => ?_
  ((repeat' (first | (refine awpL_step TT rfl rfl rfl sd ?_) | (refine awpL_nil ?_) | (refine awpL_skip rfl rfl ?_) | (refine awpQ_step TT rfl rfl rfl rfl sd ?_) | (refine awpQ_nil ?_) | (refine awpQ_skip rfl rfl ?_) | (refine awp_seq ?_) | (refine awp_region ?_) | ((refine awpL_call (hid) rfl rfl rfl rfl rfl rfl rfl ft rfl ?_); rintro v Hout n1 ⟨rfl, rfl, rfl⟩) | ((refine awpL_call (d_l1Below bs c _ _ _ hl) rfl rfl rfl rfl rfl rfl rfl ft rfl ?_); rintro v Hout n1 ⟨r0, i0, h0, ⟨hr1, hr2⟩, rfl, rfl, rfl⟩; replace hr2 := hr2 (by decide)) | (refine awp_block ?_) | (refine awp_exit ?_) | (refine awp_skip ?_) | (refine awp_ret ?_) | (refine awp_cond_t rfl ?_) | (refine awp_cond_f rfl ?_) | (refine awp_quiet TM rfl (by kernel_rfl) ?_) | ((first | refine awpL_split rfl rfl rfl (fun hc => ?_) (fun hc => ?_) | refine awpQ_split rfl rfl rfl (fun hc => ?_) (fun hc => ?_) | refine awp_cond rfl (fun hc => ?_) (fun hc => ?_)) <;> ((try simp at hc) <;> try contradiction)))) <;> try (exfalso; omega))
  obtain ⟨k0, rfl⟩ := Int.eq_ofNat_of_zero_le hr1
  refine awp_loop hE (fun p : Nat × List Int × Nat × Int => p.1 ≤ 5 ∧ p.2.1.length = n * n ∧ Bnd p.2.1 (p3 p.1)) (fun p => p.1)
    (fun p => [(0, vC), (1, vI n), (4, .one (.ptr 3 3 0 0)), (5, .one (.ptr 5 3 0 0)), (7, vI p.1)])
    (fun p => [(1, .ro (.bytes bs)), (2, .own 98 1 (.lit (curL c bs.length p.2.2.1 p.2.2.2))), (3, .own 27 1 (.lit zeroM)), (4, .own 3 (n * n) (.ints p.2.1)), (5, .own 27 1 (.lit [.int n, .int n, .sl 4 1 0 (n * n) (n * n)]))]) 6 [] (k0, idTo n n, i0, h0) ⟨by dsimp only; omega, by simp, id_bnd.mono (p3_le _).1⟩ ⟨(by repeat' (first | exact trivial | refine ⟨rfl, ?_⟩ | refine ⟨congrArg some (congrArg vI (by first | omega | (simp; done) | (simp; omega))), ?_⟩ | refine ⟨sl_eqA (by first | omega | (simp; done) | (simp; omega)), ?_⟩)), (by repeat' (first | exact trivial | refine ⟨rfl, ?_⟩)), rfl⟩ ?_
  rintro ⟨k, zs, i1, h1⟩ ⟨q1, q2, q3⟩
  dsimp only at q1 q2 q3 ⊢
  by_cases hgo : 0 < k ∧ 1 < n
  · obtain ⟨hk, hn1⟩ := hgo
    obtain ⟨k, rfl⟩ : ∃ j, k = j + 1 := ⟨k - 1, by omega⟩
    obtain ⟨s1, s2, s3⟩ := p3_step (k := k) (by omega)
    ((repeat' (first | (refine awpL_step TT rfl rfl rfl sd ?_) | (refine awpL_nil ?_) | (refine awpL_skip rfl rfl ?_) | (refine awpQ_step TT rfl rfl rfl rfl sd ?_) | (refine awpQ_nil ?_) | (refine awpQ_skip rfl rfl ?_) | (refine awp_seq ?_) | (refine awp_region ?_) | (refine awp_block ?_) | (refine awp_exit ?_) | (refine awp_skip ?_) | (refine awp_ret ?_) | (refine awp_cond_t rfl ?_) | (refine awp_cond_f rfl ?_) | ((first | refine awpL_split rfl rfl rfl (fun hc => ?_) (fun hc => ?_) | refine awpQ_split rfl rfl rfl (fun hc => ?_) (fun hc => ?_) | refine awp_cond rfl (fun hc => ?_) (fun hc => ?_)) <;> ((try simp at hc) <;> try contradiction)))) <;> try (exfalso; omega))
    (refine awpL_call (d_l1Below bs c _ _ _ hl) rfl rfl rfl rfl rfl rfl rfl ft rfl ?_)
    rintro v Hout n1 ⟨r1, i2, h2, ⟨a1, a2⟩, rfl, rfl, rfl⟩
    replace a2 := a2 (by omega)
    obtain ⟨p, rfl⟩ := Int.eq_ofNat_of_zero_le a1
    ((repeat' (first | (refine awpL_step TT rfl rfl rfl sd ?_) | (refine awpL_nil ?_) | (refine awpL_skip rfl rfl ?_) | (refine awpQ_step TT rfl rfl rfl rfl sd ?_) | (refine awpQ_nil ?_) | (refine awpQ_skip rfl rfl ?_) | (refine awp_seq ?_) | (refine awp_region ?_) | (refine awp_block ?_) | (refine awp_exit ?_) | (refine awp_skip ?_) | (refine awp_ret ?_) | (refine awp_cond_t rfl ?_) | (refine awp_cond_f rfl ?_) | ((first | refine awpL_split rfl rfl rfl (fun hc => ?_) (fun hc => ?_) | refine awpQ_split rfl rfl rfl (fun hc => ?_) (fun hc => ?_) | refine awp_cond rfl (fun hc => ?_) (fun hc => ?_)) <;> ((try simp at hc) <;> try contradiction)))) <;> try (exfalso; omega))
    (refine awpL_call (d_l1Below bs c _ _ _ hl) rfl rfl rfl rfl rfl rfl rfl ft rfl ?_)
    rintro v Hout n1 ⟨kd, i3, h3, ⟨b1, b2⟩, rfl, rfl, rfl⟩
    replace b2 := b2 (by decide)
    ((repeat' (first | (refine awpL_step TT rfl rfl rfl sd ?_) | (refine awpL_nil ?_) | (refine awpL_skip rfl rfl ?_) | (refine awpQ_step TT rfl rfl rfl rfl sd ?_) | (refine awpQ_nil ?_) | (refine awpQ_skip rfl rfl ?_) | (refine awp_seq ?_) | (refine awp_region ?_) | (refine awp_block ?_) | (refine awp_exit ?_) | (refine awp_skip ?_) | (refine awp_ret ?_) | (refine awp_cond_t rfl ?_) | (refine awp_cond_f rfl ?_) | ((first | refine awpL_split rfl rfl rfl (fun hc => ?_) (fun hc => ?_) | refine awpQ_split rfl rfl rfl (fun hc => ?_) (fun hc => ?_) | refine awp_cond rfl (fun hc => ?_) (fun hc => ?_)) <;> ((try simp at hc) <;> try contradiction)))) <;> try (exfalso; omega))
    (refine awpL_call (d_l1Below bs c _ _ _ hl) rfl rfl rfl rfl rfl rfl rfl ft rfl ?_)
    rintro v Hout n1 ⟨r3, i4, h4, ⟨e1, e2⟩, rfl, rfl, rfl⟩
    replace e2 := e2 (by omega)
    obtain ⟨t1, t2⟩ := tmod_in' (x := (p : Int) + 1 + r3) (n := (n : Int)) (by omega)
    replace t2 := t2 (by omega)
    obtain ⟨t, ht⟩ := Int.eq_ofNat_of_zero_le t1
    rw [ht] at t2
    by_cases hk1 : kd = 1
    · subst hk1
      ((repeat' (first | (refine awpL_step TT rfl rfl rfl sd ?_) | (refine awpL_nil ?_) | (refine awpL_skip rfl rfl ?_) | (refine awpQ_step TT rfl rfl rfl rfl sd ?_) | (refine awpQ_nil ?_) | (refine awpQ_skip rfl rfl ?_) | (refine awp_seq ?_) | (refine awp_region ?_) | (refine awp_block ?_) | (refine awp_exit ?_) | (refine awp_skip ?_) | (refine awp_ret ?_) | (refine awp_cond_t rfl ?_) | (refine awp_cond_f rfl ?_) | ((first | refine awpL_split rfl rfl rfl (fun hc => ?_) (fun hc => ?_) | refine awpQ_split rfl rfl rfl (fun hc => ?_) (fun hc => ?_) | refine awp_cond rfl (fun hc => ?_) (fun hc => ?_)) <;> ((try simp at hc) <;> try contradiction)))) <;> try (exfalso; omega))
      (refine awpL_call (d_l5DoB n p p (n * n) (n * n) (n * n) _ 0 (p3 (k + 1)) zs q2.symm hn (by omega) (by omega) q2 q3 s2 s3 (by omega)) rfl rfl rfl rfl rfl rfl rfl ft rfl ?_)
      rintro v Hout n1 ⟨ys, y1, y2, rfl, rfl, rfl⟩
      rw [s1] at y2
      ((repeat' (first | (refine awpL_step TT rfl rfl rfl sd ?_) | (refine awpL_nil ?_) | (refine awpL_skip rfl rfl ?_) | (refine awpQ_step TT rfl rfl rfl rfl sd ?_) | (refine awpQ_nil ?_) | (refine awpQ_skip rfl rfl ?_) | (refine awp_seq ?_) | (refine awp_region ?_) | (refine awp_block ?_) | (refine awp_exit ?_) | (refine awp_skip ?_) | (refine awp_ret ?_) | (refine awp_cond_t rfl ?_) | (refine awp_cond_f rfl ?_) | ((first | refine awpL_split rfl rfl rfl (fun hc => ?_) (fun hc => ?_) | refine awpQ_split rfl rfl rfl (fun hc => ?_) (fun hc => ?_) | refine awp_cond rfl (fun hc => ?_) (fun hc => ?_)) <;> ((try simp at hc) <;> try contradiction)))) <;> try (exfalso; omega))
      exact ⟨[], (k, ys, _, _), ⟨by dsimp only; omega, y1, y2⟩, (by first | omega | (dsimp only; omega)), ⟨(by repeat' (first | exact trivial | refine ⟨rfl, ?_⟩ | refine ⟨congrArg some (congrArg vI (by first | omega | (simp; done) | (simp; omega))), ?_⟩ | refine ⟨sl_eqA (by first | omega | (simp; done) | (simp; omega)), ?_⟩)), (by repeat' (first | exact trivial | refine ⟨rfl, ?_⟩)), rfl⟩⟩
    by_cases hk2 : kd = 2
    · subst hk2
      ((repeat' (first | (refine awpL_step TT rfl rfl rfl sd ?_) | (refine awpL_nil ?_) | (refine awpL_skip rfl rfl ?_) | (refine awpQ_step TT rfl rfl rfl rfl sd ?_) | (refine awpQ_nil ?_) | (refine awpQ_skip rfl rfl ?_) | (refine awp_seq ?_) | (refine awp_region ?_) | (refine awp_block ?_) | (refine awp_exit ?_) | (refine awp_skip ?_) | (refine awp_ret ?_) | (refine awp_cond_t rfl ?_) | (refine awp_cond_f rfl ?_) | ((first | refine awpL_split rfl rfl rfl (fun hc => ?_) (fun hc => ?_) | refine awpQ_split rfl rfl rfl (fun hc => ?_) (fun hc => ?_) | refine awp_cond rfl (fun hc => ?_) (fun hc => ?_)) <;> ((try simp at hc) <;> try contradiction)))) <;> try (exfalso; omega))
      (refine awpL_call (d_l1Below bs c _ _ _ hl) rfl rfl rfl rfl rfl rfl rfl ft rfl ?_)
      rintro v Hout n1 ⟨r5, i5, h5, ⟨f1, f2⟩, rfl, rfl, rfl⟩
      replace f2 := f2 (by decide)
      rw [ht]
      ((repeat' (first | (refine awpL_step TT rfl rfl rfl sd ?_) | (refine awpL_nil ?_) | (refine awpL_skip rfl rfl ?_) | (refine awpQ_step TT rfl rfl rfl rfl sd ?_) | (refine awpQ_nil ?_) | (refine awpQ_skip rfl rfl ?_) | (refine awp_seq ?_) | (refine awp_region ?_) | (refine awp_block ?_) | (refine awp_exit ?_) | (refine awp_skip ?_) | (refine awp_ret ?_) | (refine awp_cond_t rfl ?_) | (refine awp_cond_f rfl ?_) | ((first | refine awpL_split rfl rfl rfl (fun hc => ?_) (fun hc => ?_) | refine awpQ_split rfl rfl rfl (fun hc => ?_) (fun hc => ?_) | refine awp_cond rfl (fun hc => ?_) (fun hc => ?_)) <;> ((try simp at hc) <;> try contradiction)))) <;> try (exfalso; omega))
      (refine awpL_call (d_l5DoB n p t (n * n) (n * n) (n * n) _ (r5 - 2) (p3 (k + 1)) zs q2.symm hn (by omega) (by omega) q2 q3 s2 s3 (by omega)) rfl rfl rfl rfl rfl rfl rfl ft rfl ?_)
      rintro v Hout n1 ⟨ys, y1, y2, rfl, rfl, rfl⟩
      rw [s1] at y2
      ((repeat' (first | (refine awpL_step TT rfl rfl rfl sd ?_) | (refine awpL_nil ?_) | (refine awpL_skip rfl rfl ?_) | (refine awpQ_step TT rfl rfl rfl rfl sd ?_) | (refine awpQ_nil ?_) | (refine awpQ_skip rfl rfl ?_) | (refine awp_seq ?_) | (refine awp_region ?_) | (refine awp_block ?_) | (refine awp_exit ?_) | (refine awp_skip ?_) | (refine awp_ret ?_) | (refine awp_cond_t rfl ?_) | (refine awp_cond_f rfl ?_) | ((first | refine awpL_split rfl rfl rfl (fun hc => ?_) (fun hc => ?_) | refine awpQ_split rfl rfl rfl (fun hc => ?_) (fun hc => ?_) | refine awp_cond rfl (fun hc => ?_) (fun hc => ?_)) <;> ((try simp at hc) <;> try contradiction)))) <;> try (exfalso; omega))
      exact ⟨[], (k, ys, _, _), ⟨by dsimp only; omega, y1, y2⟩, (by first | omega | (dsimp only; omega)), ⟨(by repeat' (first | exact trivial | refine ⟨rfl, ?_⟩ | refine ⟨congrArg some (congrArg vI (by first | omega | (simp; done) | (simp; omega))), ?_⟩ | refine ⟨sl_eqA (by first | omega | (simp; done) | (simp; omega)), ?_⟩)), (by repeat' (first | exact trivial | refine ⟨rfl, ?_⟩)), rfl⟩⟩
    · ((repeat' (first | (refine awpL_step TT rfl rfl rfl sd ?_) | (refine awpL_nil ?_) | (refine awpL_skip rfl rfl ?_) | (refine awpQ_step TT rfl rfl rfl rfl sd ?_) | (refine awpQ_nil ?_) | (refine awpQ_skip rfl rfl ?_) | (refine awp_seq ?_) | (refine awp_region ?_) | (refine awp_block ?_) | (refine awp_exit ?_) | (refine awp_skip ?_) | (refine awp_ret ?_) | (refine awp_cond_t rfl ?_) | (refine awp_cond_f rfl ?_) | ((first | refine awpL_split rfl rfl rfl (fun hc => ?_) (fun hc => ?_) | refine awpQ_split rfl rfl rfl (fun hc => ?_) (fun hc => ?_) | refine awp_cond rfl (fun hc => ?_) (fun hc => ?_)) <;> ((try simp at hc) <;> try contradiction)))) <;> try (exfalso; omega))
      rw [ht]
      (refine awpL_call (d_l5DoB n p t (n * n) (n * n) (n * n) _ 0 (p3 (k + 1)) zs q2.symm hn (by omega) (by omega) q2 q3 s2 s3 (by omega)) rfl rfl rfl rfl rfl rfl rfl ft rfl ?_)
      rintro v Hout n1 ⟨ys, y1, y2, rfl, rfl, rfl⟩
      rw [s1] at y2
      ((repeat' (first | (refine awpL_step TT rfl rfl rfl sd ?_) | (refine awpL_nil ?_) | (refine awpL_skip rfl rfl ?_) | (refine awpQ_step TT rfl rfl rfl rfl sd ?_) | (refine awpQ_nil ?_) | (refine awpQ_skip rfl rfl ?_) | (refine awp_seq ?_) | (refine awp_region ?_) | (refine awp_block ?_) | (refine awp_exit ?_) | (refine awp_skip ?_) | (refine awp_ret ?_) | (refine awp_cond_t rfl ?_) | (refine awp_cond_f rfl ?_) | ((first | refine awpL_split rfl rfl rfl (fun hc => ?_) (fun hc => ?_) | refine awpQ_split rfl rfl rfl (fun hc => ?_) (fun hc => ?_) | refine awp_cond rfl (fun hc => ?_) (fun hc => ?_)) <;> ((try simp at hc) <;> try contradiction)))) <;> try (exfalso; omega))
      exact ⟨[], (k, ys, _, _), ⟨by dsimp only; omega, y1, y2⟩, (by first | omega | (dsimp only; omega)), ⟨(by repeat' (first | exact trivial | refine ⟨rfl, ?_⟩ | refine ⟨congrArg some (congrArg vI (by first | omega | (simp; done) | (simp; omega))), ?_⟩ | refine ⟨sl_eqA (by first | omega | (simp; done) | (simp; omega)), ?_⟩)), (by repeat' (first | exact trivial | refine ⟨rfl, ?_⟩)), rfl⟩⟩
  · ((repeat' (first | (refine awpL_step TT rfl rfl rfl sd ?_) | (refine awpL_nil ?_) | (refine awpL_skip rfl rfl ?_) | (refine awpQ_step TT rfl rfl rfl rfl sd ?_) | (refine awpQ_nil ?_) | (refine awpQ_skip rfl rfl ?_) | (refine awp_seq ?_) | (refine awp_region ?_) | (refine awp_block ?_) | (refine awp_exit ?_) | (refine awp_skip ?_) | (refine awp_ret ?_) | (refine awp_cond_t rfl ?_) | (refine awp_cond_f rfl ?_) | (refine awp_quiet TM rfl (by kernel_rfl) ?_) | ((first | refine awpL_split rfl rfl rfl (fun hc => ?_) (fun hc => ?_) | refine awpQ_split rfl rfl rfl (fun hc => ?_) (fun hc => ?_) | refine awp_cond rfl (fun hc => ?_) (fun hc => ?_)) <;> ((try simp at hc) <;> try contradiction)))) <;> try (exfalso; omega))
    all_goals exact fin rfl (by repeat' (first | exact trivial | exact Nat.zero_lt_one | omega | refine ⟨?_, ?_⟩)) [(3, 4)] (.agg [.int n, .int n, .sl 3 1 0 (n * n) (n * n)]) [(2, .own 98 1 (.lit (curL c bs.length i1 h1))), (3, .own 3 (n * n) (.ints zs))] 4 ⟨zs, i1, h1, q2, q3.mono (p3_le _).2, rfl, rfl, rfl⟩ rfl ⟨trivial, ⟨rfl, rfl, trivial⟩, rfl⟩ rfl
end Go.Proofs.Ytbgeooalhoaemaa
