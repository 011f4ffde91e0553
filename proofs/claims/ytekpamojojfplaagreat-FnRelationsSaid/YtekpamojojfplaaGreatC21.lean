/-
  TEXTS OF THE PROOF, put together: bMinR, bTurn, pSmith.
-/
import Derived.Test.YtekpamojojfplaaGreatC20
import Derived.Test.YtekpamojojfplaaGreatC08
import Derived.Test.YtekpamojojfplaaGreatC07
import Derived.Test.YtekpamojojfplaaGreatC15
set_option linter.unusedVariables false
set_option linter.unusedSimpArgs false
namespace Go.Proofs.YtekpamojojfplaaGreat
open Go.RowKit
theorem minM_lenR {xs : List Int} {n row col : Nat} (hc : col < n + 1) : ∀ {i : Nat}, (minM xs (n + 1) row col i).length = (if row < i then i - 1 else i) * n
  | 0 => by simp [minM]
  | i + 1 => by
    have ih := minM_lenR (xs := xs) (row := row) hc (i := i)
    rw [minM]
    by_cases h : i = row
    · rw [if_pos h, ih, if_neg (by omega), if_pos (by omega)]; rfl
    · rw [if_neg h, List.length_append, ih, minRow_len, if_pos hc, Nat.add_sub_cancel]
      by_cases h2 : row < i
      · rw [if_pos h2, if_pos (by omega), show i + 1 - 1 = (i - 1) + 1 by omega, Nat.succ_mul]
      · rw [if_neg h2, if_neg (by omega), Nat.succ_mul]
set_option maxHeartbeats 2000000 in
theorem d_minIR (n row col : Nat) (xs : List Int) (ca m : Nat) (hm : m = xs.length) (hn : n + 1 ≤ 24) (hrow : row < n + 1) (hcol : col < n + 1) (hx : xs.length = (n + 1) * (n + 1)) (hl : xs.length ≤ 1099511627776) : Does Tryz.prog 134 [vM ((n + 1 : Nat) : Int) ((n + 1 : Nat) : Int) 1 m ca, vI row, vI col] [(1, .ro (.ints xs))] 2 (MinO 3 n (minM xs (n + 1) row col (n + 1))) := by
 subst hm
 refine Does.intro TT Tryz.func134 rfl (by kernel_rfl) Zz Zz fun E hE => ?_
 generalize hs : n + 1 = s at *
 have en : (s : Int) - 1 = n := by omega
 ((repeat' (first | refine stp ?_ | (refine stq ?_ ?_ <;> (intro hc; ((try simp at hc) <;> try contradiction))) | fail)) <;> try (exfalso; omega))
 refine w_G hE (fun p : Nat × Nat => p.1 ≤ s ∧ (minM xs s row col p.1).length ≤ p.2) (fun p => s - p.1)
  (fun p => [(1, vI row), (2, vI col), (3, .one (.ptr 2 3 0 0)), (6, .one (.ptr 3 3 0 0)), (7, .one (.ptr 5 3 0 0)), (8, vI p.1)])
  (fun p => [(1, .ro (.ints xs)), (2, .own 26 1 (.lit [.int s, .int s, .sl 1 1 0 xs.length ca])), (3, .own 26 1 (.lit [.int 0, .int 0, .sl 0 1 0 0 0])), (4, .own 3 p.2 (.ints (minM xs s row col p.1))), (5, .own 26 1 (.lit [.int ((s : Int) - 1), .int ((s : Int) - 1), .sl 4 1 0 (minM xs s row col p.1).length p.2]))]) 6 [] (0, 0) ⟨Nat.zero_le _, Nat.le_refl _⟩ ⟨w_1, w_2, rfl⟩ ?_
 rintro ⟨i, cp⟩ ⟨hi, hcp⟩
 dsimp only at hi hcp ⊢
 by_cases his : i < s
 ·((repeat' (first | refine stp ?_ | (refine stq ?_ ?_ <;> (intro hc; ((try simp at hc) <;> try contradiction))) | fail)) <;> try (exfalso; omega))
  refine w_G hE (fun p : Nat × Nat => p.1 ≤ s ∧ (minAt xs s row col i p.1).length ≤ p.2) (fun p => s - p.1)
   (fun p => [(1, vI row), (2, vI col), (3, .one (.ptr 2 3 0 0)), (6, .one (.ptr 3 3 0 0)), (7, .one (.ptr 5 3 0 0)), (8, vI i), (9, vI p.1)])
   (fun p => [(1, .ro (.ints xs)), (2, .own 26 1 (.lit [.int s, .int s, .sl 1 1 0 xs.length ca])), (3, .own 26 1 (.lit [.int 0, .int 0, .sl 0 1 0 0 0])), (4, .own 3 p.2 (.ints (minAt xs s row col i p.1))), (5, .own 26 1 (.lit [.int ((s : Int) - 1), .int ((s : Int) - 1), .sl 4 1 0 (minAt xs s row col i p.1).length p.2]))]) 6 [] (0, cp) ⟨Nat.zero_le _, by rw [minAt_zero]; exact hcp⟩ ⟨w_1, by dsimp only; rw [minAt_zero]; exact ⟨rfl, rfl, rfl, rfl, rfl, trivial⟩, rfl⟩ ?_
  rintro ⟨j, cq⟩ ⟨hj, hcq⟩
  dsimp only at hj hcq ⊢
  have hle := minAt_le (xs := xs) (row := row) (col := col) (j := j) (show i < 24 by omega) hn hj
  by_cases hjs : j < s
  ·have hcell := cell_facts his hjs hn hn
   rw [← hx] at hcell
   have ec := cell_natD (p := i) (k := j) (c := s)
   have hd := d_at s s i j xs ca (by omega) (by omega) (by omega) hl
   by_cases hskip : i = row ∨ j = col
   ·have e := minAt_skip (xs := xs) (c := s) hskip
    ((repeat' (first | refine stx ?_ | (refine stq ?_ ?_ <;> (intro hc; ((try simp at hc) <;> try contradiction))) | fail)) <;> try (exfalso; omega))
    all_goals exact ⟨[], (j + 1, cq), ⟨by dsimp only; omega, by dsimp only; rw [e]; exact hcq⟩, w_4, ⟨w_1, by dsimp only; rw [e]; exact ⟨rfl, rfl, rfl, rfl, rfl, trivial⟩, rfl⟩⟩
   ·have e := minAt_add (xs := xs) (c := s) (row := row) (col := col) (i := i) (j := j) (by omega) (by omega)
    rw [← ec] at e
    ((repeat' (first | refine stp ?_ | (refine stq ?_ ?_ <;> (intro hc; ((try simp at hc) <;> try contradiction))) | fail)) <;> try (exfalso; omega))
    refine awp_held TM [(2, _)] sb rfl (fun ρs => ?_)
    refine zt2 ?_
    refine zt3 ?_
    refine zt4 ?_
    refine w_u [0, 5] kr rfl ⟨?_, ?_, trivial⟩
    first | (refine zho ?_) | refine zqb (hd) ?_ | (refine zqy ?_; intro cap hcap)
    refine w_u [1, 5] kr rfl ⟨?_, ?_, trivial⟩
    first | (refine zho ?_) | refine zqb (hd) ?_ | (refine zqy ?_; intro cap hcap)
    refine w_u [5] kr rfl ⟨?_, trivial⟩
    first | (refine zho ?_) | refine zqb (hd) ?_ | (refine zqy ?_; intro cap hcap)
    refine w_u [6] kr rfl ⟨?_, trivial⟩
    first | (refine zho ?_) | refine zqb (hd) ?_ | (refine zqy ?_; intro cap hcap)
    refine w_u [7] kr rfl ⟨?_, trivial⟩
    first | (refine zho ?_) | refine zqb (hd) ?_ | (refine zqy ?_; intro cap hcap)
    refine w_u [8] kr rfl ⟨?_, trivial⟩
    first | (refine zho ?_) | refine zqb (hd) ?_ | (refine zqy ?_; intro cap hcap)
    refine w_u [9] kr rfl ⟨?_, trivial⟩
    first | (refine zho ?_) | refine zqb (hd) ?_ | (refine zqy ?_; intro cap hcap)
    refine w_v kr ?_
    rotate_left
    first | (refine zho ?_) | refine zqb (hd) ?_ | (refine zqy ?_; intro cap hcap)
    refine w_u [1, 6] kr rfl ⟨?_, ?_, trivial⟩
    first | (refine zho ?_) | refine zqb (hd) ?_ | (refine zqy ?_; intro cap hcap)
    refine w_u [6] kr rfl ⟨?_, trivial⟩
    first | (refine zho ?_) | refine zqb (hd) ?_ | (refine zqy ?_; intro cap hcap)
    refine w_u [7] kr rfl ⟨?_, trivial⟩
    first | (refine zho ?_) | refine zqb (hd) ?_ | (refine zqy ?_; intro cap hcap)
    refine w_u [8] kr rfl ⟨?_, trivial⟩
    first | (refine zho ?_) | refine zqb (hd) ?_ | (refine zqy ?_; intro cap hcap)
    refine w_u [9] kr rfl ⟨?_, trivial⟩
    first | (refine zho ?_) | refine zqb (hd) ?_ | (refine zqy ?_; intro cap hcap)
    refine w_v kr ?_
    rotate_left
    first | (refine zho ?_) | refine zqb (hd) ?_ | (refine zqy ?_; intro cap hcap)
    refine w_u [1] kr rfl ⟨?_, trivial⟩
    first | (refine zho ?_) | refine zqb (hd) ?_ | (refine zqy ?_; intro cap hcap)
    refine w_u [7] kr rfl ⟨?_, trivial⟩
    first | (refine zho ?_) | refine zqb (hd) ?_ | (refine zqy ?_; intro cap hcap)
    refine w_u [8] kr rfl ⟨?_, trivial⟩
    first | (refine zho ?_) | refine zqb (hd) ?_ | (refine zqy ?_; intro cap hcap)
    refine w_u [9] kr rfl ⟨?_, trivial⟩
    first | (refine zho ?_) | refine zqb (hd) ?_ | (refine zqy ?_; intro cap hcap)
    refine w_v kr ?_
    rotate_left
    first | (refine zho ?_) | refine zqb (hd) ?_ | (refine zqy ?_; intro cap hcap)
    refine w_u [0, 6] kr rfl ⟨?_, ?_, trivial⟩
    first | (refine zho ?_) | refine zqb (hd) ?_ | (refine zqy ?_; intro cap hcap)
    refine w_u [1, 6] kr rfl ⟨?_, ?_, trivial⟩
    first | (refine zho ?_) | refine zqb (hd) ?_ | (refine zqy ?_; intro cap hcap)
    refine w_u [6] kr rfl ⟨?_, trivial⟩
    first | (refine zho ?_) | refine zqb (hd) ?_ | (refine zqy ?_; intro cap hcap)
    refine w_u [7] kr rfl ⟨?_, trivial⟩
    first | (refine zho ?_) | refine zqb (hd) ?_ | (refine zqy ?_; intro cap hcap)
    refine w_u [8] kr rfl ⟨?_, trivial⟩
    first | (refine zho ?_) | refine zqb (hd) ?_ | (refine zqy ?_; intro cap hcap)
    refine w_u [9] kr rfl ⟨?_, trivial⟩
    first | (refine zho ?_) | refine zqb (hd) ?_ | (refine zqy ?_; intro cap hcap)
    refine w_v kr ?_
    rotate_left
    first | (refine zho ?_) | refine zqb (hd) ?_ | (refine zqy ?_; intro cap hcap)
    refine w_u [1] kr rfl ⟨?_, trivial⟩
    first | (refine zho ?_) | refine zqb (hd) ?_ | (refine zqy ?_; intro cap hcap)
    refine w_u [7] kr rfl ⟨?_, trivial⟩
    first | (refine zho ?_) | refine zqb (hd) ?_ | (refine zqy ?_; intro cap hcap)
    refine w_u [8] kr rfl ⟨?_, trivial⟩
    first | (refine zho ?_) | refine zqb (hd) ?_ | (refine zqy ?_; intro cap hcap)
    refine w_u [9] kr rfl ⟨?_, trivial⟩
    first | (refine zho ?_) | refine zqb (hd) ?_ | (refine zqy ?_; intro cap hcap)
    refine w_v kr ?_
    rotate_left
    first | (refine zho ?_) | refine zqb (hd) ?_ | (refine zqy ?_; intro cap hcap)
    refine w_u [0] kr rfl ⟨?_, trivial⟩
    first | (refine zho ?_) | refine zqb (hd) ?_ | (refine zqy ?_; intro cap hcap)
    refine w_u [1] kr rfl ⟨?_, trivial⟩
    first | (refine zho ?_) | refine zqb (hd) ?_ | (refine zqy ?_; intro cap hcap)
    refine w_u [7] kr rfl ⟨?_, trivial⟩
    first | (refine zho ?_) | refine zqb (hd) ?_ | (refine zqy ?_; intro cap hcap)
    refine w_u [8] kr rfl ⟨?_, trivial⟩
    first | (refine zho ?_) | refine zqb (hd) ?_ | (refine zqy ?_; intro cap hcap)
    refine w_u [9] kr rfl ⟨?_, trivial⟩
    first | (refine zho ?_) | refine zqb (hd) ?_ | (refine zqy ?_; intro cap hcap)
    refine w_v kr ?_
    rotate_left
    all_goals ((repeat' (first | refine stp ?_ | (refine stq ?_ ?_ <;> (intro hc; ((try simp at hc) <;> try contradiction))) | fail)) <;> try (exfalso; omega))
    all_goals exact ⟨[(4, 7)], (j + 1, cap), ⟨by dsimp only; omega, by dsimp only; rw [e]; simpa using hcap⟩, w_4, ⟨w_1, by dsimp only; rw [e]; exact ⟨rfl, rfl, rfl, own_ints rfl, own_lit3 (by simp), trivial⟩, rfl⟩⟩
  ·obtain rfl : j = s := by omega
   ((repeat' (first | refine stx ?_ | (refine stq ?_ ?_ <;> (intro hc; ((try simp at hc) <;> try contradiction))) | fail)) <;> try (exfalso; omega))
   exact ⟨[], (i + 1, cq), ⟨by dsimp only; omega, by dsimp only; rw [← minAt_full]; exact hcq⟩, w_4, ⟨w_1, by dsimp only; rw [← minAt_full]; exact ⟨rfl, rfl, rfl, rfl, rfl, trivial⟩, rfl⟩⟩
 ·obtain rfl : i = s := by omega
  ((repeat' (first | refine stx ?_ | (refine stq ?_ ?_ <;> (intro hc; ((try simp at hc) <;> try contradiction))) | fail)) <;> try (exfalso; omega))
  exact fin rfl w_3 [(2, 4)] (.agg [.int n, .int n, .sl 2 1 0 (minM xs i row col i).length cp]) [(2, .own 3 cp (.ints (minM xs i row col i)))] 3 ⟨cp, hcp, rfl, rfl, rfl⟩ (by rw [← en]; rfl) ⟨trivial, ⟨rfl, trivial⟩, rfl⟩ rfl
end Go.Proofs.YtekpamojojfplaaGreat
namespace Go.Proofs.YtekpamojojfplaaGreat
open Go.RowKit
def turnP (xs : List Int) (r c i j : Nat) : List Int := (List.range (c * r)).map fun p => if p % r < i ∨ (p % r = i ∧ p / r < j) then xs.getD ((p % r) * c + p / r) 0 else 0
def turnM (xs : List Int) (r c : Nat) : List Int := (List.range (c * r)).map fun p => xs.getD ((p % r) * c + p / r) 0
theorem turnP_len {xs : List Int} {r c i j : Nat} : (turnP xs r c i j).length = c * r := by simp [turnP]
theorem turnM_len {xs : List Int} {r c : Nat} : (turnM xs r c).length = c * r := by simp [turnM]
theorem turnP_zero {xs : List Int} {r c : Nat} : List.replicate (c * r) 0 = turnP xs r c 0 0 := by
  apply List.ext_getElem (by simp [turnP])
  intro p h1 h2
  simp [turnP]
theorem turn_idx {r i j : Nat} (hi : i < r) : (j * r + i) / r = j ∧ (j * r + i) % r = i := by
  refine ⟨?_, ?_⟩
  · rw [Nat.mul_comm, Nat.mul_add_div (by omega), Nat.div_eq_of_lt hi, Nat.add_zero]
  · rw [Nat.mul_comm, Nat.mul_add_mod, Nat.mod_eq_of_lt hi]
theorem turnP_set {xs : List Int} {r c i j : Nat} (hi : i < r) : (turnP xs r c i j).set (j * r + i) (xs.getD (i * c + j) 0) = turnP xs r c i (j + 1) := by
  apply List.ext_getElem (by simp [turnP])
  intro p h1 h2
  rw [List.getElem_set]
  simp only [turnP, List.getElem_map, List.getElem_range]
  obtain ⟨e1, e2⟩ := turn_idx (j := j) hi
  by_cases cc : j * r + i = p
  · subst cc
    rw [if_pos rfl, e1, e2, if_pos (.inr ⟨rfl, Nat.lt_succ_self j⟩)]
  · rw [if_neg cc]
    have hd := Nat.div_add_mod p r
    have hne : ¬(p % r = i ∧ p / r = j) := fun ⟨h3, h4⟩ => cc (by rw [← hd, h3, h4, Nat.mul_comm])
    have : (p % r < i ∨ (p % r = i ∧ p / r < j)) ↔ (p % r < i ∨ (p % r = i ∧ p / r < j + 1)) := by
      generalize p % r = u at *
      generalize p / r = v at *
      omega
    simp only [this]
theorem turnP_row {xs : List Int} {r c i : Nat} (hc : ∀ p, p < c * r → p / r < c) : turnP xs r c i c = turnP xs r c (i + 1) 0 := by
  apply List.ext_getElem (by simp [turnP])
  intro p h1 h2
  simp only [turnP, List.getElem_map, List.getElem_range]
  have hp := hc p (by simpa [turnP] using h1)
  have : (p % r < i ∨ (p % r = i ∧ p / r < c)) ↔ (p % r < i + 1 ∨ (p % r = i + 1 ∧ p / r < 0)) := by
    generalize p % r = u at *
    generalize p / r = v at *
    omega
  simp only [this]
theorem div_lt_c {r c p : Nat} (h : p < c * r) : p / r < c := Nat.div_lt_of_lt_mul (by rw [Nat.mul_comm]; exact h)
theorem turnP_full {xs : List Int} {r c : Nat} : turnP xs r c r 0 = turnM xs r c := by
  apply List.ext_getElem (by simp [turnP, turnM])
  intro p h1 h2
  simp only [turnP, turnM, List.getElem_map, List.getElem_range]
  have hr : 0 < r := by
    rcases Nat.eq_zero_or_pos r with h | h
    · subst h; simp [turnM] at h2
    · exact h
  rw [if_pos (.inl (Nat.mod_lt _ hr))]
theorem cell_natT {p k c : Nat} : 0 + ((p : Int) * c + k).toNat = p * c + k := by
  have e : ((p : Int) * c + k) = ((p * c + k : Nat) : Int) := by simp
  rw [e]; omega
def TurnO (r c : Nat) (t : TypeId) (xs : List Int) (k : Nat) (v : AV) (Hout : List (Nat × Blk)) (n1 : Nat) : Prop := v = .agg [.int c, .int r, .sl k 1 0 (c * r) (c * r)] ∧ Hout = [(k, .own t (c * r) (.ints (turnM xs r c)))] ∧ n1 = k + 1
theorem TurnO.out {r c : Nat} {t : TypeId} {xs : List Int} {k : Nat} : ∀ v Hout n1, TurnO r c t xs k v Hout n1 → ∃ b, Hout = [(k, b)] ∧ n1 = k + 1 ∧ b.keys = [] := fun _ _ _ ⟨_, h2, h3⟩ => ⟨_, h2, h3, by simp [Blk.keys, Elts.keys, Elts.all, ints_keys]⟩
set_option maxHeartbeats 2000000 in
theorem d_turnS (r c : Nat) (xs : List Int) (m ca : Nat) (hm : m = xs.length) (hr : r ≤ 24) (hc24 : c ≤ 24) (hx : xs.length = r * c) : Does Tryz.prog 87 [vM r c 1 m ca] [(1, .ro (.ints xs))] 2 (TurnO r c 3 xs 2) := by
 subst hm
 refine Does.intro TT Tryz.func87 rfl (by kernel_rfl) Zz Zz fun E hE => ?_
 ((repeat' (first | refine stp ?_ | (refine w_C (d_newS _ _ hc24 hr) Zz Zz Zz Zz Zz Zz Zz ft Zz Zz (NewM.out) ?_; rintro v b ⟨rfl, he, -⟩; cases he) | (refine stq ?_ ?_ <;> (intro hc; ((try simp at hc) <;> try contradiction))) | fail)) <;> try (exfalso; omega))
 refine w_G hE (fun i : Nat => i ≤ r) (fun i => r - i)
  (fun i => [(1, .one (.ptr 2 3 0 0)), (2, .one (.ptr 3 3 0 0)), (3, .one (.ptr 5 3 0 0)), (4, vI i)])
  (fun i => [(1, .ro (.ints xs)), (2, .own 26 1 (.lit [.int r, .int c, .sl 1 1 0 xs.length ca])), (3, .own 26 1 (.lit zeroM)), (4, .own 3 (c * r) (.ints (turnP xs r c i 0))), (5, .own 26 1 (.lit [.int c, .int r, .sl 4 1 0 (c * r) (c * r)]))]) 6 [] 0 (Nat.zero_le _) ⟨w_1, ⟨rfl, rfl, rfl, own_ints turnP_zero, rfl, trivial⟩, rfl⟩ ?_
 intro i hi
 by_cases hir : i < r
 ·((repeat' (first | refine stp ?_ | (refine stq ?_ ?_ <;> (intro hc; ((try simp at hc) <;> try contradiction))) | fail)) <;> try (exfalso; omega))
  refine w_G hE (fun j : Nat => j ≤ c) (fun j => c - j)
   (fun j => [(1, .one (.ptr 2 3 0 0)), (2, .one (.ptr 3 3 0 0)), (3, .one (.ptr 5 3 0 0)), (4, vI i), (5, vI j)])
   (fun j => [(1, .ro (.ints xs)), (2, .own 26 1 (.lit [.int r, .int c, .sl 1 1 0 xs.length ca])), (3, .own 26 1 (.lit zeroM)), (4, .own 3 (c * r) (.ints (turnP xs r c i j))), (5, .own 26 1 (.lit [.int c, .int r, .sl 4 1 0 (c * r) (c * r)]))]) 6 [] 0 (Nat.zero_le _) ⟨w_1, w_2, rfl⟩ ?_
  intro j hj
  have hl := turnP_len (xs := xs) (r := r) (c := c) (i := i) (j := j)
  by_cases hjc : j < c
  ·have b1 := cell_facts hir hjc hr hc24
   have b2 := cell_facts hjc hir hc24 hr
   rw [← hx] at b1
   have e1 := cell_natT (p := i) (k := j) (c := c)
   have e2 := cell_natT (p := j) (k := i) (c := r)
   have hs := turnP_set (xs := xs) (c := c) (j := j) hir
   rw [← e1, ← e2] at hs
   ((repeat' (first | refine stp ?_ | (refine stq ?_ ?_ <;> (intro hc; ((try simp at hc) <;> try contradiction))) | fail)) <;> try (exfalso; omega))
   refine awp_held TM [(1, _), (2, _), (5, _)] sb rfl (fun ρs => ?_)
   refine zt0 ?_
   refine zt1 ?_
   refine zt2 ?_
   refine zt3 ?_
   refine zt4 ?_
   refine zt5 ?_
   refine zt6 ?_
   refine zt7 ?_
   refine zt8 ?_
   refine zt9 ?_
   refine zt10 ?_
   refine zt11 ?_
   refine zt12 ?_
   refine zt13 ?_
   refine zt14 ?_
   refine zt15 ?_
   refine zt16 ?_
   refine zt17 ?_
   refine zt18 ?_
   refine w_u [19] kr rfl ⟨?_, trivial⟩
   first | (refine zho ?_)
   refine w_v kr ?_
   rotate_left
   all_goals ((repeat' (first | refine stp ?_ | (refine stq ?_ ?_ <;> (intro hc; ((try simp at hc) <;> try contradiction))) | fail)) <;> try (exfalso; omega))
   all_goals exact ⟨[], j + 1, hjc, w_4, ⟨w_1, ⟨rfl, rfl, rfl, own_ints hs, rfl, trivial⟩, rfl⟩⟩
  ·obtain rfl : j = c := by omega
   ((repeat' (first | refine stx ?_ | (refine stq ?_ ?_ <;> (intro hc; ((try simp at hc) <;> try contradiction))) | fail)) <;> try (exfalso; omega))
   exact ⟨[], i + 1, by omega, w_4, ⟨w_1, ⟨rfl, rfl, rfl, own_ints (turnP_row fun p => div_lt_c), rfl, trivial⟩, rfl⟩⟩
 ·obtain rfl : i = r := by omega
  ((repeat' (first | refine stx ?_ | (refine stq ?_ ?_ <;> (intro hc; ((try simp at hc) <;> try contradiction))) | fail)) <;> try (exfalso; omega))
  exact fin rfl w_3 [(2, 4)] (.agg [.int c, .int i, .sl 2 1 0 (c * i) (c * i)]) [(2, .own 3 (c * i) (.ints (turnM xs i c)))] 3 ⟨rfl, rfl, rfl⟩ rfl ⟨trivial, ⟨own_ints turnP_full, trivial⟩, rfl⟩ rfl
def TurnZ (r c : Int) (t : TypeId) (xs : List Int) (v : AV) (Hout : List (Nat × Blk)) (n1 : Nat) : Prop :=
  match isM r c xs with
  | true => v = .tup [.agg [.int c, .int r, .sl 2 1 0 (c.toNat * r.toNat) (c.toNat * r.toNat)], .one (.bool true)] ∧ Hout = [(2, .own t (c.toNat * r.toNat) (.ints (turnM xs r.toNat c.toNat)))] ∧ n1 = 3
  | false => v = .tup [.agg zeroM, .one (.bool false)] ∧ Hout = [] ∧ n1 = 2
set_option maxHeartbeats 2000000 in
theorem d_turnI (r c : Int) (xs : List Int) (ca : Nat) (hl : xs.length ≤ 1099511627776) : Does Tryz.prog 61 [vM r c 1 xs.length ca] [(1, .ro (.ints xs))] 2 (TurnZ r c 3 xs) := by
 refine Does.intro TT Tryz.func61 rfl (by kernel_rfl) Zz Zz fun E hE => ?_
 cases h1 : isM r c xs
 ·((repeat' (first | refine stx ?_ | (refine zqc (d_isMatI _ _ _ _ hl) ?_ <;> simp only [h1]) | (refine stq ?_ ?_ <;> (intro hc; ((try simp at hc) <;> try contradiction))) | fail)) <;> try (exfalso; omega))
  exact fin rfl w_3 [] (.tup [.agg zeroM, .one (.bool false)]) [] 2 (by unfold TurnZ; rw [h1]; exact ⟨rfl, rfl, rfl⟩) rfl ⟨trivial, trivial, rfl⟩ rfl
 ·obtain ⟨r, c, rfl, rfl⟩ := isM_pos h1
  obtain ⟨hr, hc24, hx, hnum⟩ := isM_nat h1
  ((repeat' (first | refine stp ?_ | (refine zqc (d_isMatI _ _ _ _ hl) ?_ <;> simp only [h1]) | (refine w_C (d_newI _ _ hc24 hr) Zz Zz Zz Zz Zz Zz Zz ft Zz Zz (NewM.out) ?_; rintro v b ⟨rfl, he, -⟩; cases he) | (refine stq ?_ ?_ <;> (intro hc; ((try simp at hc) <;> try contradiction))) | fail)) <;> try (exfalso; omega))
  refine w_G hE (fun i : Nat => i ≤ r) (fun i => r - i)
   (fun i => [(1, .one (.ptr 2 3 0 0)), (2, .one (.ptr 3 3 0 0)), (4, .one (.ptr 5 3 0 0)), (5, vI i)])
   (fun i => [(1, .ro (.ints xs)), (2, .own 26 1 (.lit [.int r, .int c, .sl 1 1 0 xs.length ca])), (3, .own 26 1 (.lit zeroM)), (4, .own 3 (c * r) (.ints (turnP xs r c i 0))), (5, .own 26 1 (.lit [.int c, .int r, .sl 4 1 0 (c * r) (c * r)]))]) 6 [] 0 (Nat.zero_le _) ⟨w_1, ⟨rfl, rfl, rfl, own_ints turnP_zero, rfl, trivial⟩, rfl⟩ ?_
  intro i hi
  by_cases hir : i < r
  ·((repeat' (first | refine stp ?_ | (refine stq ?_ ?_ <;> (intro hc; ((try simp at hc) <;> try contradiction))) | fail)) <;> try (exfalso; omega))
   refine w_G hE (fun j : Nat => j ≤ c) (fun j => c - j)
    (fun j => [(1, .one (.ptr 2 3 0 0)), (2, .one (.ptr 3 3 0 0)), (4, .one (.ptr 5 3 0 0)), (5, vI i), (6, vI j)])
    (fun j => [(1, .ro (.ints xs)), (2, .own 26 1 (.lit [.int r, .int c, .sl 1 1 0 xs.length ca])), (3, .own 26 1 (.lit zeroM)), (4, .own 3 (c * r) (.ints (turnP xs r c i j))), (5, .own 26 1 (.lit [.int c, .int r, .sl 4 1 0 (c * r) (c * r)]))]) 6 [] 0 (Nat.zero_le _) ⟨w_1, w_2, rfl⟩ ?_
   intro j hj
   have hlen := turnP_len (xs := xs) (r := r) (c := c) (i := i) (j := j)
   by_cases hjc : j < c
   ·have b1 := cell_facts hir hjc hr hc24
    have b2 := cell_facts hjc hir hc24 hr
    have hcr : c * r ≤ 1099511627776 := by
     have : c * r ≤ 24 * 24 := Nat.mul_le_mul hc24 hr
     omega
    rw [← hx] at b1
    have e1 := cell_natT (p := i) (k := j) (c := c)
    have e2 := cell_natT (p := j) (k := i) (c := r)
    have hs := turnP_set (xs := xs) (c := c) (j := j) hir
    rw [← e1, ← e2] at hs
    have hd := d_at r c i j xs ca (by omega) (by omega) (by omega) hl
    ((repeat' (first | refine stp ?_ | (refine stq ?_ ?_ <;> (intro hc; ((try simp at hc) <;> try contradiction))) | fail)) <;> try (exfalso; omega))
    refine awp_held TM [(1, _), (2, _), (5, _)] sb rfl (fun ρs => ?_)
    refine zt0 ?_
    refine zt1 ?_
    refine zt2 ?_
    refine zt3 ?_
    refine zt4 ?_
    refine zt5 ?_
    refine w_u [6] kr rfl ⟨?_, trivial⟩
    first | (refine zho ?_) | refine zqb (hd) ?_ | (refine w_F _ (d_set c r j i _ (turnP xs r c i j) (c * r) (c * r) (c * r) hlen.symm (by omega) (by omega) (by omega) (by omega)) Zz Zz Zz Zz Zz Zz Zz Zz ft Zz Zz ?_; rintro v Hout n1 ⟨rfl, rfl, rfl⟩; refine ⟨sb, ?_⟩)
    refine w_u [7] kr rfl ⟨?_, trivial⟩
    first | (refine zho ?_) | refine zqb (hd) ?_ | (refine w_F _ (d_set c r j i _ (turnP xs r c i j) (c * r) (c * r) (c * r) hlen.symm (by omega) (by omega) (by omega) (by omega)) Zz Zz Zz Zz Zz Zz Zz Zz ft Zz Zz ?_; rintro v Hout n1 ⟨rfl, rfl, rfl⟩; refine ⟨sb, ?_⟩)
    refine w_v kr ?_
    rotate_left
    all_goals ((repeat' (first | refine stp ?_ | (refine stq ?_ ?_ <;> (intro hc; ((try simp at hc) <;> try contradiction))) | fail)) <;> try (exfalso; omega))
    all_goals exact ⟨[], j + 1, hjc, w_4, ⟨w_1, ⟨rfl, rfl, rfl, own_ints hs, rfl, trivial⟩, rfl⟩⟩
   ·obtain rfl : j = c := by omega
    ((repeat' (first | refine stx ?_ | (refine stq ?_ ?_ <;> (intro hc; ((try simp at hc) <;> try contradiction))) | fail)) <;> try (exfalso; omega))
    exact ⟨[], i + 1, by omega, w_4, ⟨w_1, ⟨rfl, rfl, rfl, own_ints (turnP_row fun p => div_lt_c), rfl, trivial⟩, rfl⟩⟩
  ·obtain rfl : i = r := by omega
   ((repeat' (first | refine stx ?_ | (refine stq ?_ ?_ <;> (intro hc; ((try simp at hc) <;> try contradiction))) | fail)) <;> try (exfalso; omega))
   exact fin rfl w_3 [(2, 4)] (.tup [.agg [.int c, .int i, .sl 2 1 0 (c * i) (c * i)], .one (.bool true)]) [(2, .own 3 (c * i) (.ints (turnM xs i c)))] 3 (by unfold TurnZ; rw [h1]; exact ⟨rfl, rfl, rfl⟩) rfl ⟨trivial, ⟨own_ints turnP_full, trivial⟩, rfl⟩ rfl
end Go.Proofs.YtekpamojojfplaaGreat
namespace Go.Proofs.YtekpamojojfplaaGreat
theorem trX_at {xs : List Int} {r c i j : Nat} (hi : i < r) (hj : j < c) : (turnM xs r c).getD (j * r + i) 0 = xs.getD (i * c + j) 0 := by
  have h1 : j * r + i < c * r := cell_in hj hi
  have h2 : (j * r + i) % r = i := by rw [Nat.add_comm, Nat.add_mul_mod_self_right, Nat.mod_eq_of_lt hi]
  have h3 : (j * r + i) / r = j := by rw [Nat.add_comm, Nat.add_mul_div_right _ _ (by omega), Nat.div_eq_of_lt hi, Nat.zero_add]
  unfold turnM
  rw [List.getD_eq_getElem?_getD, List.getElem?_map, List.getElem?_range h1]
  simp only [Option.map_some, Option.getD_some, h2, h3]
theorem cells_ext {r c : Nat} {xs ys : List Int} (hx : xs.length = r * c) (hy : ys.length = r * c) (h : ∀ i j, i < r → j < c → xs.getD (i * c + j) 0 = ys.getD (i * c + j) 0) : xs = ys := by
  apply List.ext_getElem (hx.trans hy.symm)
  intro p h1 h2
  have hp : p < r * c := by omega
  have hc : 0 < c := by
    rcases Nat.eq_zero_or_pos c with h0 | h0
    · rw [h0, Nat.mul_zero] at hp; omega
    · exact h0
  have e : p / c * c + p % c = p := Nat.div_add_mod' p c
  have := h (p / c) (p % c) ((Nat.div_lt_iff_lt_mul hc).2 hp) (Nat.mod_lt _ hc)
  rw [e] at this
  simpa [List.getD_eq_getElem?_getD, h1, h2] using this
theorem trX_tr {xs : List Int} {r c : Nat} (h : xs.length = r * c) : turnM (turnM xs r c) c r = xs :=
  cells_ext turnM_len h fun i j hi hj => by rw [trX_at hj hi, trX_at hi hj]
theorem trX_num {xs : List Int} {r c : Nat} (h : xs.all numB = true) : (turnM xs r c).all numB = true := by
  unfold turnM
  rw [List.all_map, List.all_eq_true]
  exact fun p _ => num_at h _
abbrev S3 := List Int × List Int × List Int
structure OK3 (r c : Nat) (s : S3) : Prop where
  x : s.1.length = r * c
  u : s.2.1.length = r * r
  v : s.2.2.length = c * c
  nx : s.1.all numB = true
  nu : s.2.1.all numB = true
  nv : s.2.2.all numB = true
theorem OK3.row {r c : Nat} {s : S3} (h : OK3 r c s) : OKs r c (s.1, s.2.1) := ⟨h.x, h.u, h.nx, h.nu⟩
theorem OK3.col {r c : Nat} {s : S3} (h : OK3 r c s) : turnM (turnM s.1 r c) c r = s.1 := trX_tr h.x
def row3 (r c i j : Nat) (q : Int) (s : S3) : Option S3 := (addS c r i j q (s.1, s.2.1)).map fun y => (y.1, y.2, s.2.2)
def colOK (r c i j : Nat) (q : Int) (s : S3) : Prop := addOK (turnM s.1 r c) r i j q r = true ∧ addOK (turnM s.2.2 c c) c i j q c = true
instance {r c i j : Nat} {q : Int} {s : S3} : Decidable (colOK r c i j q s) := by unfold colOK; infer_instance
def col3 (r c i j : Nat) (q : Int) (s : S3) : Option S3 := if colOK r c i j q s then some (turnM (addX (turnM s.1 r c) r i j q) c r, s.2.1, turnM (addX (turnM s.2.2 c c) c i j q) c c) else none
theorem row3_cells {r c i j : Nat} {q : Int} {s s' : S3} (h : OK3 r c s) (hi : i < r) (he : row3 r c i j q s = some s') :
    OK3 r c s' ∧ (∀ k, k < c → s'.1.getD (i * c + k) 0 = s.1.getD (i * c + k) 0 + s.1.getD (j * c + k) 0 * q) ∧ ∀ i' k, i' ≠ i → k < c → s'.1.getD (i' * c + k) 0 = s.1.getD (i' * c + k) 0 := by
  simp only [row3, Option.map_eq_some_iff] at he
  obtain ⟨y, hy, rfl⟩ := he
  have o := addS_ok h.row hy
  refine ⟨⟨o.1, o.2.1, h.v, o.2.2.1, o.2.2.2, h.nv⟩, ?_⟩
  unfold addS at hy
  split at hy
  · cases hy
    exact ⟨fun k hk => addX_row h.x hi hk, fun i' k hi' hk => addX_other hi' hk⟩
  · cases hy
theorem colX_cells {r c i j k l : Nat} {q : Int} {xs : List Int} (hi : i < c) (hj : j < c) (hk : k < r) (hl : l < c) :
    (turnM (addX (turnM xs r c) r i j q) c r).getD (k * c + l) 0 = if l = i then xs.getD (k * c + i) 0 + xs.getD (k * c + j) 0 * q else xs.getD (k * c + l) 0 := by
  rw [trX_at hl hk]
  split
  · rename_i e
    rw [e, addX_row turnM_len hi hk, trX_at hk hi, trX_at hk hj]
  · rename_i e
    rw [addX_other e hk, trX_at hk hl]
theorem col3_cells {r c i j : Nat} {q : Int} {s s' : S3} (h : OK3 r c s) (hi : i < c) (hj : j < c) (he : col3 r c i j q s = some s') :
    OK3 r c s' ∧ (∀ k, k < r → s'.1.getD (k * c + i) 0 = s.1.getD (k * c + i) 0 + s.1.getD (k * c + j) 0 * q) ∧ ∀ i' k, i' ≠ i → i' < c → k < r → s'.1.getD (k * c + i') 0 = s.1.getD (k * c + i') 0 := by
  unfold col3 at he
  split at he
  · rename_i hc
    cases he
    refine ⟨⟨turnM_len, h.u, turnM_len, trX_num (addX_num (trX_num h.nx) hc.1), h.nu, trX_num (addX_num (trX_num h.nv) hc.2)⟩, fun k hk => ?_, fun i' k hi' hc' hk => ?_⟩
    · dsimp only
      rw [colX_cells hi hj hk hi, if_pos rfl]
    · dsimp only
      rw [colX_cells hi hj hk hc', if_neg hi']
  · cases he
def rAt (r c t i : Nat) (s : S3) : Option S3 := if s.1.getD (i * c + t) 0 ≠ 0 then row3 r c i t (-(s.1.getD (i * c + t) 0 / s.1.getD (t * c + t) 0)) s else some s
def cAt (r c t j : Nat) (s : S3) : Option S3 := if s.1.getD (t * c + j) 0 ≠ 0 then col3 r c j t (-(s.1.getD (t * c + j) 0 / s.1.getD (t * c + t) 0)) s else some s
def rTo (r c t : Nat) (s : S3) : Nat → Option S3
  | 0 => some s
  | n + 1 => (rTo r c t s n).bind (rAt r c t (t + 1 + n))
def cTo (r c t : Nat) (s : S3) : Nat → Option S3
  | 0 => some s
  | n + 1 => (cTo r c t s n).bind (cAt r c t (t + 1 + n))
theorem rem_eq (a d : Int) : a + d * -(a / d) = a % d := by rw [Int.emod_def, Int.mul_neg]; omega
theorem rAt_cells {r c t i : Nat} {s s' : S3} (h : OK3 r c s) (hi : i < r) (hit : i ≠ t) (ht : t < c) (he : rAt r c t i s = some s') :
    OK3 r c s' ∧ s'.1.getD (i * c + t) 0 = s.1.getD (i * c + t) 0 % s.1.getD (t * c + t) 0 ∧ ∀ i' k, i' ≠ i → k < c → s'.1.getD (i' * c + k) 0 = s.1.getD (i' * c + k) 0 := by
  unfold rAt at he
  split at he
  · obtain ⟨o, c1, c2⟩ := row3_cells h hi he
    exact ⟨o, by rw [c1 t ht, rem_eq], c2⟩
  · rename_i h0
    cases he
    have h0 := Decidable.not_not.1 h0
    exact ⟨h, by rw [h0, Int.zero_emod], fun _ _ _ _ => rfl⟩
theorem cAt_cells {r c t j : Nat} {s s' : S3} (h : OK3 r c s) (hj : j < c) (hit : j ≠ t) (ht : t < c) (htr : t < r) (he : cAt r c t j s = some s') :
    OK3 r c s' ∧ s'.1.getD (t * c + j) 0 = s.1.getD (t * c + j) 0 % s.1.getD (t * c + t) 0 ∧ ∀ i' k, i' ≠ j → i' < c → k < r → s'.1.getD (k * c + i') 0 = s.1.getD (k * c + i') 0 := by
  unfold cAt at he
  split at he
  · obtain ⟨o, c1, c2⟩ := col3_cells h hj ht he
    exact ⟨o, by rw [c1 t htr, rem_eq], c2⟩
  · rename_i h0
    cases he
    have h0 := Decidable.not_not.1 h0
    exact ⟨h, by rw [h0, Int.zero_emod], fun _ _ _ _ _ => rfl⟩
theorem rTo_cells {r c t : Nat} {s : S3} (h : OK3 r c s) (ht : t < c) : ∀ {n : Nat} {s' : S3}, t + 1 + n ≤ r → rTo r c t s n = some s' →
    OK3 r c s' ∧ (∀ k, k < c → s'.1.getD (t * c + k) 0 = s.1.getD (t * c + k) 0) ∧ (∀ i, i < n → s'.1.getD ((t + 1 + i) * c + t) 0 = s.1.getD ((t + 1 + i) * c + t) 0 % s.1.getD (t * c + t) 0) ∧ ∀ i k, n ≤ i → k < c → s'.1.getD ((t + 1 + i) * c + k) 0 = s.1.getD ((t + 1 + i) * c + k) 0
  | 0, s', _, he => by cases he; exact ⟨h, fun _ _ => rfl, fun i hi => by omega, fun _ _ _ _ => rfl⟩
  | n + 1, s', hn, he => by
    simp only [rTo, Option.bind_eq_some_iff] at he
    obtain ⟨x, h1, h2⟩ := he
    obtain ⟨o, c1, c2, c3⟩ := rTo_cells h ht (by omega) h1
    obtain ⟨o', d1, d2⟩ := rAt_cells o (by omega) (by omega) ht h2
    refine ⟨o', fun k hk => by rw [d2 t k (by omega) hk, c1 k hk], fun i hi => ?_, fun i k hi hk => by rw [d2 _ k (by omega) hk, c3 i k (by omega) hk]⟩
    rcases Nat.lt_or_ge i n with e | e
    · rw [d2 _ t (by omega) ht, c2 i e]
    · obtain rfl : i = n := by omega
      rw [d1, c1 t ht, c3 i t (Nat.le_refl _) ht]
theorem cTo_cells {r c t : Nat} {s : S3} (h : OK3 r c s) (ht : t < c) (htr : t < r) : ∀ {n : Nat} {s' : S3}, t + 1 + n ≤ c → cTo r c t s n = some s' →
    OK3 r c s' ∧ (∀ k, k < r → s'.1.getD (k * c + t) 0 = s.1.getD (k * c + t) 0) ∧ (∀ j, j < n → s'.1.getD (t * c + (t + 1 + j)) 0 = s.1.getD (t * c + (t + 1 + j)) 0 % s.1.getD (t * c + t) 0) ∧ ∀ j k, n ≤ j → t + 1 + j < c → k < r → s'.1.getD (k * c + (t + 1 + j)) 0 = s.1.getD (k * c + (t + 1 + j)) 0
  | 0, s', _, he => by cases he; exact ⟨h, fun _ _ => rfl, fun i hi => by omega, fun _ _ _ _ _ => rfl⟩
  | n + 1, s', hn, he => by
    simp only [cTo, Option.bind_eq_some_iff] at he
    obtain ⟨x, h1, h2⟩ := he
    obtain ⟨o, c1, c2, c3⟩ := cTo_cells h ht htr (by omega) h1
    obtain ⟨o', d1, d2⟩ := cAt_cells o (by omega) (by omega) ht htr h2
    refine ⟨o', fun k hk => by rw [d2 t k (by omega) ht hk, c1 k hk], fun i hi => ?_, fun i k hi hc hk => by rw [d2 _ k (by omega) hc hk, c3 i k (by omega) hc hk]⟩
    rcases Nat.lt_or_ge i n with e | e
    · rw [d2 _ t (by omega) (by omega) htr, c2 i e]
    · obtain rfl : i = n := by omega
      rw [d1, c1 t htr, c3 i t (Nat.le_refl _) (by omega) htr]
def lpAt (xs : List Int) (c i j : Nat) : Option (Nat × Nat) → Option (Nat × Nat)
  | none => if xs.getD (i * c + j) 0 ≠ 0 then some (i, j) else none
  | some p => if xs.getD (i * c + j) 0 ≠ 0 ∧ (xs.getD (i * c + j) 0).natAbs < (xs.getD (p.1 * c + p.2) 0).natAbs then some (i, j) else some p
def lpR (xs : List Int) (c t i : Nat) (o : Option (Nat × Nat)) : Nat → Option (Nat × Nat)
  | 0 => o
  | m + 1 => lpAt xs c i (t + m) (lpR xs c t i o m)
def lpTo (xs : List Int) (c t w : Nat) : Nat → Option (Nat × Nat)
  | 0 => none
  | n + 1 => lpR xs c t (t + n) (lpTo xs c t w n) w
def lp (xs : List Int) (r c t : Nat) : Option (Nat × Nat) := lpTo xs c t (c - t) (r - t)
def LP (xs : List Int) (c t : Nat) (S : Nat → Nat → Prop) : Option (Nat × Nat) → Prop
  | none => ∀ i j, S i j → xs.getD (i * c + j) 0 = 0
  | some p => S p.1 p.2 ∧ xs.getD (p.1 * c + p.2) 0 ≠ 0 ∧ (∀ i j, S i j → xs.getD (i * c + j) 0 ≠ 0 → (xs.getD (p.1 * c + p.2) 0).natAbs ≤ (xs.getD (i * c + j) 0).natAbs) ∧ (xs.getD (t * c + t) 0 ≠ 0 → p = (t, t) ∨ (xs.getD (p.1 * c + p.2) 0).natAbs < (xs.getD (t * c + t) 0).natAbs)
theorem LP.mono {xs : List Int} {c t : Nat} {S S' : Nat → Nat → Prop} (h : ∀ i j, S i j ↔ S' i j) {o : Option (Nat × Nat)} (hl : LP xs c t S o) : LP xs c t S' o := by
  have : S = S' := funext fun i => funext fun j => propext (h i j)
  rwa [← this]
theorem LP.step {xs : List Int} {c t i j : Nat} {S : Nat → Nat → Prop} {o : Option (Nat × Nat)} (hl : LP xs c t S o) (hs : o = none → S t t ∨ (i = t ∧ j = t)) : LP xs c t (fun a b => S a b ∨ (a = i ∧ b = j)) (lpAt xs c i j o) := by
  cases o with
  | none =>
    have hl : ∀ i j, S i j → xs.getD (i * c + j) 0 = 0 := hl
    unfold lpAt
    dsimp only
    split
    · rename_i h0
      refine ⟨.inr ⟨rfl, rfl⟩, h0, fun a b hab h1 => ?_, fun h1 => ?_⟩
      · rcases hab with hab | ⟨rfl, rfl⟩
        · exact absurd (hl a b hab) h1
        · exact Nat.le_refl _
      · rcases hs rfl with h2 | ⟨rfl, rfl⟩
        · exact absurd (hl t t h2) h1
        · exact .inl rfl
    · rename_i h0
      have h0 := Decidable.not_not.1 h0
      intro a b hab
      rcases hab with hab | ⟨rfl, rfl⟩
      · exact hl a b hab
      · exact h0
  | some p =>
    obtain ⟨q1, q2, q3, q4⟩ := hl
    unfold lpAt
    dsimp only
    split
    · rename_i h0
      refine ⟨.inr ⟨rfl, rfl⟩, h0.1, fun a b hab h1 => ?_, fun h1 => ?_⟩
      · rcases hab with hab | ⟨rfl, rfl⟩
        · exact Nat.le_trans (Nat.le_of_lt h0.2) (q3 a b hab h1)
        · exact Nat.le_refl _
      · rcases q4 h1 with e | e
        · right
          have h2 := h0.2
          rw [e] at h2
          exact h2
        · exact .inr (Nat.lt_trans h0.2 e)
    · rename_i h0
      refine ⟨.inl q1, q2, fun a b hab h1 => ?_, q4⟩
      rcases hab with hab | ⟨rfl, rfl⟩
      · exact q3 a b hab h1
      · exact Nat.le_of_not_lt fun h => h0 ⟨h1, h⟩
theorem LP.row {xs : List Int} {c t i : Nat} {S : Nat → Nat → Prop} {o : Option (Nat × Nat)} (hl : LP xs c t S o) (hs : o = none → S t t ∨ i = t) : ∀ m, LP xs c t (fun a b => S a b ∨ (a = i ∧ t ≤ b ∧ b < t + m)) (lpR xs c t i o m)
  | 0 => hl.mono fun a b => ⟨.inl, fun h => h.elim id fun h => by omega⟩
  | m + 1 => by
    refine (LP.step (LP.row hl hs m) fun h => ?_).mono fun a b => ?_
    · rcases Nat.eq_zero_or_pos m with rfl | hm
      · rcases hs h with h | h
        · exact .inl (.inl h)
        · exact .inr ⟨h, rfl⟩
      · have ho : o = none ∨ S t t := by
          cases o with
          | none => exact .inl rfl
          | some p =>
            have : ∀ m, lpR xs c t i (some p) m ≠ none := fun m => by
              induction m with
              | zero => exact fun h => by cases h
              | succ m ih =>
                rw [lpR]
                cases hq : lpR xs c t i (some p) m with
                | none => exact absurd hq ih
                | some q => unfold lpAt; dsimp only; split <;> exact fun h => by cases h
            exact absurd h (this m)
        rcases ho with ho | ho
        · rcases hs ho with h | h
          · exact .inl (.inl h)
          · exact .inl (.inr ⟨h.symm, by omega, by omega⟩)
        · exact .inl (.inl ho)
    · constructor
      · rintro ((h | h) | h)
        · exact .inl h
        · exact .inr ⟨h.1, h.2.1, by omega⟩
        · exact .inr ⟨h.1, by omega, by omega⟩
      · rintro (h | ⟨h1, h2, h3⟩)
        · exact .inl (.inl h)
        · rcases Nat.lt_or_ge b (t + m) with e | e
          · exact .inl (.inr ⟨h1, h2, e⟩)
          · exact .inr ⟨h1, by omega⟩
def swR (r c a t : Nat) (s : S3) : S3 := if a = t then s else (swapTo s.1 (a * c) (t * c) c, swapTo s.2.1 (a * r) (t * r) r, s.2.2)
def swC (r c b t : Nat) (s : S3) : S3 := if b = t then s else (turnM (swapTo (turnM s.1 r c) (b * r) (t * r) r) c r, s.2.1, turnM (swapTo (turnM s.2.2 c c) (b * c) (t * c) c) c c)
theorem swR_ok {r c a t : Nat} {s : S3} (h : OK3 r c s) : OK3 r c (swR r c a t s) := by
  unfold swR
  split
  · exact h
  · exact ⟨swapTo_len.trans h.x, swapTo_len.trans h.u, h.v, swapTo_num h.nx, swapTo_num h.nu, h.nv⟩
theorem swC_ok {r c b t : Nat} {s : S3} (h : OK3 r c s) : OK3 r c (swC r c b t s) := by
  unfold swC
  split
  · exact h
  · exact ⟨turnM_len, h.u, turnM_len, trX_num (swapTo_num (trX_num h.nx)), h.nu, trX_num (swapTo_num (trX_num h.nv))⟩
def zr (xs : List Int) (c t n : Nat) : Prop := ∀ i, i < n → xs.getD ((t + 1 + i) * c + t) 0 = 0
def zc (xs : List Int) (c t n : Nat) : Prop := ∀ j, j < n → xs.getD (t * c + (t + 1 + j)) 0 = 0
def dv (xs : List Int) (c t : Nat) (p : Int) (i n : Nat) : Prop := ∀ j, j < n → Int.tmod (xs.getD (i * c + (t + 1 + j)) 0) p = 0
instance {xs : List Int} {c t n : Nat} : Decidable (zr xs c t n) := by unfold zr; infer_instance
instance {xs : List Int} {c t n : Nat} : Decidable (zc xs c t n) := by unfold zc; infer_instance
instance {xs : List Int} {c t i n : Nat} {p : Int} : Decidable (dv xs c t p i n) := by unfold dv; infer_instance
def ndTo (xs : List Int) (c t : Nat) (p : Int) (w : Nat) : Nat → Option Nat
  | 0 => none
  | n + 1 => match ndTo xs c t p w n with
    | some i => some i
    | none => if dv xs c t p (t + 1 + n) w then none else some (t + 1 + n)
def endR (r c t : Nat) (s : S3) : Option (S3 × Bool) :=
  if zr s.1 c t (r - (t + 1)) ∧ zc s.1 c t (c - (t + 1)) then match ndTo s.1 c t (s.1.getD (t * c + t) 0) (c - (t + 1)) (r - (t + 1)) with
    | none => some (s, false)
    | some i => (row3 r c t i 1 s).map fun x => (x, true)
  else some (s, true)
def rcTo (r c t : Nat) (s : S3) : Option S3 := (rTo r c t s (r - (t + 1))).bind fun x => cTo r c t x (c - (t + 1))
def rndS (r c t : Nat) (s : S3) : Option (S3 × Bool) := (rcTo r c t s).bind (endR r c t)
def rndP (r c t : Nat) (p : Nat × Nat) (s : S3) : Option (S3 × Bool) := rndS r c t (swC r c p.2 t (swR r c p.1 t s))
def zm (xs : List Int) (c t n : Nat) : Prop := ∀ j, j < n → xs.getD (t * c + (t + 1 + j)) 0 % xs.getD (t * c + t) 0 = 0
instance {xs : List Int} {c t n : Nat} : Decidable (zm xs c t n) := by unfold zm; infer_instance
def muD (r c t : Nat) (s : S3) : Nat := if lp s.1 r c t = some (t, t) ∧ ¬ zm s.1 c t (c - (t + 1)) then 0 else 1
def muS (r c t : Nat) (s : S3) : Nat := (match lp s.1 r c t with | some p => 2 * (s.1.getD (p.1 * c + p.2) 0).natAbs | none => 0) + muD r c t s
def itS (r c t : Nat) (s : S3) : Option S3 := match lp s.1 r c t with
  | none => some s
  | some p => match rndP r c t p s with
    | none => none
    | some (x, false) => some x
    | some (x, true) => if muS r c t x < muS r c t s then itS r c t x else some x
  termination_by muS r c t s
def ng3 (r c t : Nat) (s : S3) : S3 := if s.1.getD (t * c + t) 0 < 0 then (negX s.1 c t, negX s.2.1 r t, s.2.2) else s
def dgS (r c t : Nat) (s : S3) : Option S3 := (itS r c t s).map (ng3 r c t)
def sTo (r c : Nat) (s : S3) : Nat → Option S3
  | 0 => some s
  | n + 1 => (sTo r c s n).bind (dgS r c n)
def smO (r c : Int) (xs : List Int) : Option S3 := if isM r c xs then sTo r.toNat c.toNat (xs, idTo r.toNat r.toNat, idTo c.toNat c.toNat) (min r.toNat c.toNat) else none
end Go.Proofs.YtekpamojojfplaaGreat
