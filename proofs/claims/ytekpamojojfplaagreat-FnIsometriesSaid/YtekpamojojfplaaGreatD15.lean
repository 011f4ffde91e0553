/-
  TEXTS OF THE PROOF, put together: bMinR, bTurn.
-/
import Derived.Test.YtekpamojojfplaaGreatD14
import Derived.Test.YtekpamojojfplaaGreatD08
import Derived.Test.YtekpamojojfplaaGreatD07
set_option linter.unusedVariables false
set_option linter.unusedSimpArgs false
namespace Go.Proofs.YtekpamojojfplaaGreat
open Go.RowKit
theorem minM_lenR {xs : List Int} {n row col : Nat} (hc : col < n + 1) : ∀ {i : Nat}, (minM xs (n + 1) row col i).length = (if row < i then i - 1 else i) * n
  | 0 => by simp [minM]
  | i + 1 => by
    have ih := minM_lenR (xs := xs) (row := row) hc (i := i)
    rw [minM]
    by_cases h : i = row
    · rw [if_pos h, ih, if_neg (by omega), if_pos (by omega)]; rfl
    · rw [if_neg h, List.length_append, ih, minRow_len, if_pos hc, Nat.add_sub_cancel]
      by_cases h2 : row < i
      · rw [if_pos h2, if_pos (by omega), show i + 1 - 1 = (i - 1) + 1 by omega, Nat.succ_mul]
      · rw [if_neg h2, if_neg (by omega), Nat.succ_mul]
set_option maxHeartbeats 2000000 in
theorem d_minIR (n row col : Nat) (xs : List Int) (ca m : Nat) (hm : m = xs.length) (hn : n + 1 ≤ 24) (hrow : row < n + 1) (hcol : col < n + 1) (hx : xs.length = (n + 1) * (n + 1)) (hl : xs.length ≤ 1099511627776) : Does Tryz.prog 134 [vM ((n + 1 : Nat) : Int) ((n + 1 : Nat) : Int) 1 m ca, vI row, vI col] [(1, .ro (.ints xs))] 2 (MinO 3 n (minM xs (n + 1) row col (n + 1))) := by
 subst hm
 refine Does.intro TT Tryz.func134 rfl (by kernel_rfl) Zz Zz fun E hE => ?_
 generalize hs : n + 1 = s at *
 have en : (s : Int) - 1 = n := by omega
 ((repeat' (first | refine stp ?_ | (refine stq ?_ ?_ <;> (intro hc; ((try simp at hc) <;> try contradiction))) | fail)) <;> try (exfalso; omega))
 refine w_G hE (fun p : Nat × Nat => p.1 ≤ s ∧ (minM xs s row col p.1).length ≤ p.2) (fun p => s - p.1)
  (fun p => [(1, vI row), (2, vI col), (3, .one (.ptr 2 3 0 0)), (6, .one (.ptr 3 3 0 0)), (7, .one (.ptr 5 3 0 0)), (8, vI p.1)])
  (fun p => [(1, .ro (.ints xs)), (2, .own 26 1 (.lit [.int s, .int s, .sl 1 1 0 xs.length ca])), (3, .own 26 1 (.lit [.int 0, .int 0, .sl 0 1 0 0 0])), (4, .own 3 p.2 (.ints (minM xs s row col p.1))), (5, .own 26 1 (.lit [.int ((s : Int) - 1), .int ((s : Int) - 1), .sl 4 1 0 (minM xs s row col p.1).length p.2]))]) 6 [] (0, 0) ⟨Nat.zero_le _, Nat.le_refl _⟩ ⟨w_1, w_2, rfl⟩ ?_
 rintro ⟨i, cp⟩ ⟨hi, hcp⟩
 dsimp only at hi hcp ⊢
 by_cases his : i < s
 ·((repeat' (first | refine stp ?_ | (refine stq ?_ ?_ <;> (intro hc; ((try simp at hc) <;> try contradiction))) | fail)) <;> try (exfalso; omega))
  refine w_G hE (fun p : Nat × Nat => p.1 ≤ s ∧ (minAt xs s row col i p.1).length ≤ p.2) (fun p => s - p.1)
   (fun p => [(1, vI row), (2, vI col), (3, .one (.ptr 2 3 0 0)), (6, .one (.ptr 3 3 0 0)), (7, .one (.ptr 5 3 0 0)), (8, vI i), (9, vI p.1)])
   (fun p => [(1, .ro (.ints xs)), (2, .own 26 1 (.lit [.int s, .int s, .sl 1 1 0 xs.length ca])), (3, .own 26 1 (.lit [.int 0, .int 0, .sl 0 1 0 0 0])), (4, .own 3 p.2 (.ints (minAt xs s row col i p.1))), (5, .own 26 1 (.lit [.int ((s : Int) - 1), .int ((s : Int) - 1), .sl 4 1 0 (minAt xs s row col i p.1).length p.2]))]) 6 [] (0, cp) ⟨Nat.zero_le _, by rw [minAt_zero]; exact hcp⟩ ⟨w_1, by dsimp only; rw [minAt_zero]; exact ⟨rfl, rfl, rfl, rfl, rfl, trivial⟩, rfl⟩ ?_
  rintro ⟨j, cq⟩ ⟨hj, hcq⟩
  dsimp only at hj hcq ⊢
  have hle := minAt_le (xs := xs) (row := row) (col := col) (j := j) (show i < 24 by omega) hn hj
  by_cases hjs : j < s
  ·have hcell := cell_facts his hjs hn hn
   rw [← hx] at hcell
   have ec := cell_natD (p := i) (k := j) (c := s)
   have hd := d_at s s i j xs ca (by omega) (by omega) (by omega) hl
   by_cases hskip : i = row ∨ j = col
   ·have e := minAt_skip (xs := xs) (c := s) hskip
    ((repeat' (first | refine stx ?_ | (refine stq ?_ ?_ <;> (intro hc; ((try simp at hc) <;> try contradiction))) | fail)) <;> try (exfalso; omega))
    all_goals exact ⟨[], (j + 1, cq), ⟨by dsimp only; omega, by dsimp only; rw [e]; exact hcq⟩, w_4, ⟨w_1, by dsimp only; rw [e]; exact ⟨rfl, rfl, rfl, rfl, rfl, trivial⟩, rfl⟩⟩
   ·have e := minAt_add (xs := xs) (c := s) (row := row) (col := col) (i := i) (j := j) (by omega) (by omega)
    rw [← ec] at e
    ((repeat' (first | refine stp ?_ | (refine stq ?_ ?_ <;> (intro hc; ((try simp at hc) <;> try contradiction))) | fail)) <;> try (exfalso; omega))
    refine awp_held TM [(2, _)] sb rfl (fun ρs => ?_)
    refine zt2 ?_
    refine zt3 ?_
    refine zt4 ?_
    refine w_u [0, 5] kr rfl ⟨?_, ?_, trivial⟩
    first | (refine zho ?_) | refine zqb (hd) ?_ | (refine zqy ?_; intro cap hcap)
    refine w_u [1, 5] kr rfl ⟨?_, ?_, trivial⟩
    first | (refine zho ?_) | refine zqb (hd) ?_ | (refine zqy ?_; intro cap hcap)
    refine w_u [5] kr rfl ⟨?_, trivial⟩
    first | (refine zho ?_) | refine zqb (hd) ?_ | (refine zqy ?_; intro cap hcap)
    refine w_u [6] kr rfl ⟨?_, trivial⟩
    first | (refine zho ?_) | refine zqb (hd) ?_ | (refine zqy ?_; intro cap hcap)
    refine w_u [7] kr rfl ⟨?_, trivial⟩
    first | (refine zho ?_) | refine zqb (hd) ?_ | (refine zqy ?_; intro cap hcap)
    refine w_u [8] kr rfl ⟨?_, trivial⟩
    first | (refine zho ?_) | refine zqb (hd) ?_ | (refine zqy ?_; intro cap hcap)
    refine w_u [9] kr rfl ⟨?_, trivial⟩
    first | (refine zho ?_) | refine zqb (hd) ?_ | (refine zqy ?_; intro cap hcap)
    refine w_v kr ?_
    rotate_left
    first | (refine zho ?_) | refine zqb (hd) ?_ | (refine zqy ?_; intro cap hcap)
    refine w_u [1, 6] kr rfl ⟨?_, ?_, trivial⟩
    first | (refine zho ?_) | refine zqb (hd) ?_ | (refine zqy ?_; intro cap hcap)
    refine w_u [6] kr rfl ⟨?_, trivial⟩
    first | (refine zho ?_) | refine zqb (hd) ?_ | (refine zqy ?_; intro cap hcap)
    refine w_u [7] kr rfl ⟨?_, trivial⟩
    first | (refine zho ?_) | refine zqb (hd) ?_ | (refine zqy ?_; intro cap hcap)
    refine w_u [8] kr rfl ⟨?_, trivial⟩
    first | (refine zho ?_) | refine zqb (hd) ?_ | (refine zqy ?_; intro cap hcap)
    refine w_u [9] kr rfl ⟨?_, trivial⟩
    first | (refine zho ?_) | refine zqb (hd) ?_ | (refine zqy ?_; intro cap hcap)
    refine w_v kr ?_
    rotate_left
    first | (refine zho ?_) | refine zqb (hd) ?_ | (refine zqy ?_; intro cap hcap)
    refine w_u [1] kr rfl ⟨?_, trivial⟩
    first | (refine zho ?_) | refine zqb (hd) ?_ | (refine zqy ?_; intro cap hcap)
    refine w_u [7] kr rfl ⟨?_, trivial⟩
    first | (refine zho ?_) | refine zqb (hd) ?_ | (refine zqy ?_; intro cap hcap)
    refine w_u [8] kr rfl ⟨?_, trivial⟩
    first | (refine zho ?_) | refine zqb (hd) ?_ | (refine zqy ?_; intro cap hcap)
    refine w_u [9] kr rfl ⟨?_, trivial⟩
    first | (refine zho ?_) | refine zqb (hd) ?_ | (refine zqy ?_; intro cap hcap)
    refine w_v kr ?_
    rotate_left
    first | (refine zho ?_) | refine zqb (hd) ?_ | (refine zqy ?_; intro cap hcap)
    refine w_u [0, 6] kr rfl ⟨?_, ?_, trivial⟩
    first | (refine zho ?_) | refine zqb (hd) ?_ | (refine zqy ?_; intro cap hcap)
    refine w_u [1, 6] kr rfl ⟨?_, ?_, trivial⟩
    first | (refine zho ?_) | refine zqb (hd) ?_ | (refine zqy ?_; intro cap hcap)
    refine w_u [6] kr rfl ⟨?_, trivial⟩
    first | (refine zho ?_) | refine zqb (hd) ?_ | (refine zqy ?_; intro cap hcap)
    refine w_u [7] kr rfl ⟨?_, trivial⟩
    first | (refine zho ?_) | refine zqb (hd) ?_ | (refine zqy ?_; intro cap hcap)
    refine w_u [8] kr rfl ⟨?_, trivial⟩
    first | (refine zho ?_) | refine zqb (hd) ?_ | (refine zqy ?_; intro cap hcap)
    refine w_u [9] kr rfl ⟨?_, trivial⟩
    first | (refine zho ?_) | refine zqb (hd) ?_ | (refine zqy ?_; intro cap hcap)
    refine w_v kr ?_
    rotate_left
    first | (refine zho ?_) | refine zqb (hd) ?_ | (refine zqy ?_; intro cap hcap)
    refine w_u [1] kr rfl ⟨?_, trivial⟩
    first | (refine zho ?_) | refine zqb (hd) ?_ | (refine zqy ?_; intro cap hcap)
    refine w_u [7] kr rfl ⟨?_, trivial⟩
    first | (refine zho ?_) | refine zqb (hd) ?_ | (refine zqy ?_; intro cap hcap)
    refine w_u [8] kr rfl ⟨?_, trivial⟩
    first | (refine zho ?_) | refine zqb (hd) ?_ | (refine zqy ?_; intro cap hcap)
    refine w_u [9] kr rfl ⟨?_, trivial⟩
    first | (refine zho ?_) | refine zqb (hd) ?_ | (refine zqy ?_; intro cap hcap)
    refine w_v kr ?_
    rotate_left
    first | (refine zho ?_) | refine zqb (hd) ?_ | (refine zqy ?_; intro cap hcap)
    refine w_u [0] kr rfl ⟨?_, trivial⟩
    first | (refine zho ?_) | refine zqb (hd) ?_ | (refine zqy ?_; intro cap hcap)
    refine w_u [1] kr rfl ⟨?_, trivial⟩
    first | (refine zho ?_) | refine zqb (hd) ?_ | (refine zqy ?_; intro cap hcap)
    refine w_u [7] kr rfl ⟨?_, trivial⟩
    first | (refine zho ?_) | refine zqb (hd) ?_ | (refine zqy ?_; intro cap hcap)
    refine w_u [8] kr rfl ⟨?_, trivial⟩
    first | (refine zho ?_) | refine zqb (hd) ?_ | (refine zqy ?_; intro cap hcap)
    refine w_u [9] kr rfl ⟨?_, trivial⟩
    first | (refine zho ?_) | refine zqb (hd) ?_ | (refine zqy ?_; intro cap hcap)
    refine w_v kr ?_
    rotate_left
    all_goals ((repeat' (first | refine stp ?_ | (refine stq ?_ ?_ <;> (intro hc; ((try simp at hc) <;> try contradiction))) | fail)) <;> try (exfalso; omega))
    all_goals exact ⟨[(4, 7)], (j + 1, cap), ⟨by dsimp only; omega, by dsimp only; rw [e]; simpa using hcap⟩, w_4, ⟨w_1, by dsimp only; rw [e]; exact ⟨rfl, rfl, rfl, own_ints rfl, own_lit3 (by simp), trivial⟩, rfl⟩⟩
  ·obtain rfl : j = s := by omega
   ((repeat' (first | refine stx ?_ | (refine stq ?_ ?_ <;> (intro hc; ((try simp at hc) <;> try contradiction))) | fail)) <;> try (exfalso; omega))
   exact ⟨[], (i + 1, cq), ⟨by dsimp only; omega, by dsimp only; rw [← minAt_full]; exact hcq⟩, w_4, ⟨w_1, by dsimp only; rw [← minAt_full]; exact ⟨rfl, rfl, rfl, rfl, rfl, trivial⟩, rfl⟩⟩
 ·obtain rfl : i = s := by omega
  ((repeat' (first | refine stx ?_ | (refine stq ?_ ?_ <;> (intro hc; ((try simp at hc) <;> try contradiction))) | fail)) <;> try (exfalso; omega))
  exact fin rfl w_3 [(2, 4)] (.agg [.int n, .int n, .sl 2 1 0 (minM xs i row col i).length cp]) [(2, .own 3 cp (.ints (minM xs i row col i)))] 3 ⟨cp, hcp, rfl, rfl, rfl⟩ (by rw [← en]; rfl) ⟨trivial, ⟨rfl, trivial⟩, rfl⟩ rfl
set_option maxHeartbeats 2000000 in
theorem d_minSR (n row col : Nat) (xs : List Int) (ca m : Nat) (hm : m = xs.length) (hn : n + 1 ≤ 24) (hrow : row < n + 1) (hcol : col < n + 1) (hx : xs.length = (n + 1) * (n + 1)) (hl : xs.length ≤ 1099511627776) : Does Tryz.prog 142 [vM ((n + 1 : Nat) : Int) ((n + 1 : Nat) : Int) 1 m ca, vI row, vI col] [(1, .ro (.ints xs))] 2 (MinO 3 n (minM xs (n + 1) row col (n + 1))) := by
 subst hm
 refine Does.intro TT Tryz.func142 rfl (by kernel_rfl) Zz Zz fun E hE => ?_
 generalize hs : n + 1 = s at *
 have en : (s : Int) - 1 = n := by omega
 ((repeat' (first | refine stp ?_ | (refine stq ?_ ?_ <;> (intro hc; ((try simp at hc) <;> try contradiction))) | fail)) <;> try (exfalso; omega))
 refine awp_nil (k := 4) (f := 2) (sz := 1) (et := 3) (e0 := .ints []) Zz Zz Zz Zz (fun _ h => by cases h) ?_
 refine w_G hE (fun p : Nat × Nat => p.1 ≤ s ∧ (minM xs s row col p.1).length ≤ p.2) (fun p => s - p.1)
  (fun p => [(1, vI row), (2, vI col), (3, .one (.ptr 2 3 0 0)), (6, .one (.ptr 3 3 0 0)), (7, .one (.ptr 4 3 0 0)), (8, vI p.1)])
  (fun p => [(1, .ro (.ints xs)), (2, .own 26 1 (.lit [.int s, .int s, .sl 1 1 0 xs.length ca])), (3, .own 26 1 (.lit [.int 0, .int 0, .sl 0 1 0 0 0])), (5, .own 3 p.2 (.ints (minM xs s row col p.1))), (4, .own 26 1 (.lit [.int ((s : Int) - 1), .int ((s : Int) - 1), .sl 5 1 0 (minM xs s row col p.1).length p.2]))]) 6 [] (0, 0) ⟨Nat.zero_le _, Nat.le_refl _⟩ ⟨w_1, w_2, rfl⟩ ?_
 rintro ⟨i, cp⟩ ⟨hi, hcp⟩
 dsimp only at hi hcp ⊢
 by_cases his : i < s
 ·((repeat' (first | refine stp ?_ | (refine stq ?_ ?_ <;> (intro hc; ((try simp at hc) <;> try contradiction))) | fail)) <;> try (exfalso; omega))
  refine w_G hE (fun p : Nat × Nat => p.1 ≤ s ∧ (minAt xs s row col i p.1).length ≤ p.2) (fun p => s - p.1)
   (fun p => [(1, vI row), (2, vI col), (3, .one (.ptr 2 3 0 0)), (6, .one (.ptr 3 3 0 0)), (7, .one (.ptr 4 3 0 0)), (8, vI i), (9, vI p.1)])
   (fun p => [(1, .ro (.ints xs)), (2, .own 26 1 (.lit [.int s, .int s, .sl 1 1 0 xs.length ca])), (3, .own 26 1 (.lit [.int 0, .int 0, .sl 0 1 0 0 0])), (5, .own 3 p.2 (.ints (minAt xs s row col i p.1))), (4, .own 26 1 (.lit [.int ((s : Int) - 1), .int ((s : Int) - 1), .sl 5 1 0 (minAt xs s row col i p.1).length p.2]))]) 6 [] (0, cp) ⟨Nat.zero_le _, by rw [minAt_zero]; exact hcp⟩ ⟨w_1, by dsimp only; rw [minAt_zero]; exact ⟨rfl, rfl, rfl, rfl, rfl, trivial⟩, rfl⟩ ?_
  rintro ⟨j, cq⟩ ⟨hj, hcq⟩
  dsimp only at hj hcq ⊢
  have hle := minAt_le (xs := xs) (row := row) (col := col) (j := j) (show i < 24 by omega) hn hj
  by_cases hjs : j < s
  ·have hcell := cell_facts his hjs hn hn
   rw [← hx] at hcell
   have ec := cell_natD (p := i) (k := j) (c := s)
   by_cases hskip : i = row ∨ j = col
   ·have e := minAt_skip (xs := xs) (c := s) hskip
    ((repeat' (first | refine stx ?_ | (refine stq ?_ ?_ <;> (intro hc; ((try simp at hc) <;> try contradiction))) | fail)) <;> try (exfalso; omega))
    all_goals exact ⟨[], (j + 1, cq), ⟨by dsimp only; omega, by dsimp only; rw [e]; exact hcq⟩, w_4, ⟨w_1, by dsimp only; rw [e]; exact ⟨rfl, rfl, rfl, rfl, rfl, trivial⟩, rfl⟩⟩
   ·have e := minAt_add (xs := xs) (c := s) (row := row) (col := col) (i := i) (j := j) (by omega) (by omega)
    rw [← ec] at e
    ((repeat' (first | refine stp ?_ | (refine stq ?_ ?_ <;> (intro hc; ((try simp at hc) <;> try contradiction))) | fail)) <;> try (exfalso; omega))
    refine awp_held TM [(1, _), (2, _)] sb rfl (fun ρs => ?_)
    refine zt2 ?_
    refine zt3 ?_
    refine zt4 ?_
    refine zt5 ?_
    refine zt6 ?_
    refine zt7 ?_
    refine zt8 ?_
    refine zt9 ?_
    refine zt10 ?_
    refine zt11 ?_
    refine w_u [0, 12] kr rfl ⟨?_, ?_, trivial⟩
    first | (refine zho ?_) | (refine zqy ?_; intro cap hcap)
    refine w_u [1, 12] kr rfl ⟨?_, ?_, trivial⟩
    first | (refine zho ?_) | (refine zqy ?_; intro cap hcap)
    refine w_u [12] kr rfl ⟨?_, trivial⟩
    first | (refine zho ?_) | (refine zqy ?_; intro cap hcap)
    refine w_u [13] kr rfl ⟨?_, trivial⟩
    first | (refine zho ?_) | (refine zqy ?_; intro cap hcap)
    refine w_u [14] kr rfl ⟨?_, trivial⟩
    first | (refine zho ?_) | (refine zqy ?_; intro cap hcap)
    refine w_u [15] kr rfl ⟨?_, trivial⟩
    first | (refine zho ?_) | (refine zqy ?_; intro cap hcap)
    refine w_v kr ?_
    rotate_left
    first | (refine zho ?_) | (refine zqy ?_; intro cap hcap)
    refine w_u [1] kr rfl ⟨?_, trivial⟩
    first | (refine zho ?_) | (refine zqy ?_; intro cap hcap)
    refine w_u [13] kr rfl ⟨?_, trivial⟩
    first | (refine zho ?_) | (refine zqy ?_; intro cap hcap)
    refine w_u [14] kr rfl ⟨?_, trivial⟩
    first | (refine zho ?_) | (refine zqy ?_; intro cap hcap)
    refine w_u [15] kr rfl ⟨?_, trivial⟩
    first | (refine zho ?_) | (refine zqy ?_; intro cap hcap)
    refine w_v kr ?_
    rotate_left
    first | (refine zho ?_) | (refine zqy ?_; intro cap hcap)
    refine w_u [0] kr rfl ⟨?_, trivial⟩
    first | (refine zho ?_) | (refine zqy ?_; intro cap hcap)
    refine w_u [1] kr rfl ⟨?_, trivial⟩
    first | (refine zho ?_) | (refine zqy ?_; intro cap hcap)
    refine w_u [13] kr rfl ⟨?_, trivial⟩
    first | (refine zho ?_) | (refine zqy ?_; intro cap hcap)
    refine w_u [14] kr rfl ⟨?_, trivial⟩
    first | (refine zho ?_) | (refine zqy ?_; intro cap hcap)
    refine w_u [15] kr rfl ⟨?_, trivial⟩
    first | (refine zho ?_) | (refine zqy ?_; intro cap hcap)
    refine w_v kr ?_
    rotate_left
    all_goals ((repeat' (first | refine stp ?_ | (refine stq ?_ ?_ <;> (intro hc; ((try simp at hc) <;> try contradiction))) | fail)) <;> try (exfalso; omega))
    all_goals exact ⟨[(5, 7)], (j + 1, cap), ⟨by dsimp only; omega, by dsimp only; rw [e]; simpa using hcap⟩, w_4, ⟨w_1, by dsimp only; rw [e]; exact ⟨rfl, rfl, rfl, own_ints rfl, own_lit3 (by simp), trivial⟩, rfl⟩⟩
  ·obtain rfl : j = s := by omega
   ((repeat' (first | refine stx ?_ | (refine stq ?_ ?_ <;> (intro hc; ((try simp at hc) <;> try contradiction))) | fail)) <;> try (exfalso; omega))
   exact ⟨[], (i + 1, cq), ⟨by dsimp only; omega, by dsimp only; rw [← minAt_full]; exact hcq⟩, w_4, ⟨w_1, by dsimp only; rw [← minAt_full]; exact ⟨rfl, rfl, rfl, rfl, rfl, trivial⟩, rfl⟩⟩
 ·obtain rfl : i = s := by omega
  ((repeat' (first | refine stx ?_ | (refine stq ?_ ?_ <;> (intro hc; ((try simp at hc) <;> try contradiction))) | fail)) <;> try (exfalso; omega))
  exact fin rfl w_3 [(2, 5)] (.agg [.int n, .int n, .sl 2 1 0 (minM xs i row col i).length cp]) [(2, .own 3 cp (.ints (minM xs i row col i)))] 3 ⟨cp, hcp, rfl, rfl, rfl⟩ (by rw [← en]; rfl) ⟨trivial, ⟨rfl, trivial⟩, rfl⟩ rfl
end Go.Proofs.YtekpamojojfplaaGreat
namespace Go.Proofs.YtekpamojojfplaaGreat
open Go.RowKit
def turnP (xs : List Int) (r c i j : Nat) : List Int := (List.range (c * r)).map fun p => if p % r < i ∨ (p % r = i ∧ p / r < j) then xs.getD ((p % r) * c + p / r) 0 else 0
def turnM (xs : List Int) (r c : Nat) : List Int := (List.range (c * r)).map fun p => xs.getD ((p % r) * c + p / r) 0
theorem turnP_len {xs : List Int} {r c i j : Nat} : (turnP xs r c i j).length = c * r := by simp [turnP]
theorem turnM_len {xs : List Int} {r c : Nat} : (turnM xs r c).length = c * r := by simp [turnM]
theorem turnP_zero {xs : List Int} {r c : Nat} : List.replicate (c * r) 0 = turnP xs r c 0 0 := by
  apply List.ext_getElem (by simp [turnP])
  intro p h1 h2
  simp [turnP]
theorem turn_idx {r i j : Nat} (hi : i < r) : (j * r + i) / r = j ∧ (j * r + i) % r = i := by
  refine ⟨?_, ?_⟩
  · rw [Nat.mul_comm, Nat.mul_add_div (by omega), Nat.div_eq_of_lt hi, Nat.add_zero]
  · rw [Nat.mul_comm, Nat.mul_add_mod, Nat.mod_eq_of_lt hi]
theorem turnP_set {xs : List Int} {r c i j : Nat} (hi : i < r) : (turnP xs r c i j).set (j * r + i) (xs.getD (i * c + j) 0) = turnP xs r c i (j + 1) := by
  apply List.ext_getElem (by simp [turnP])
  intro p h1 h2
  rw [List.getElem_set]
  simp only [turnP, List.getElem_map, List.getElem_range]
  obtain ⟨e1, e2⟩ := turn_idx (j := j) hi
  by_cases cc : j * r + i = p
  · subst cc
    rw [if_pos rfl, e1, e2, if_pos (.inr ⟨rfl, Nat.lt_succ_self j⟩)]
  · rw [if_neg cc]
    have hd := Nat.div_add_mod p r
    have hne : ¬(p % r = i ∧ p / r = j) := fun ⟨h3, h4⟩ => cc (by rw [← hd, h3, h4, Nat.mul_comm])
    have : (p % r < i ∨ (p % r = i ∧ p / r < j)) ↔ (p % r < i ∨ (p % r = i ∧ p / r < j + 1)) := by
      generalize p % r = u at *
      generalize p / r = v at *
      omega
    simp only [this]
theorem turnP_row {xs : List Int} {r c i : Nat} (hc : ∀ p, p < c * r → p / r < c) : turnP xs r c i c = turnP xs r c (i + 1) 0 := by
  apply List.ext_getElem (by simp [turnP])
  intro p h1 h2
  simp only [turnP, List.getElem_map, List.getElem_range]
  have hp := hc p (by simpa [turnP] using h1)
  have : (p % r < i ∨ (p % r = i ∧ p / r < c)) ↔ (p % r < i + 1 ∨ (p % r = i + 1 ∧ p / r < 0)) := by
    generalize p % r = u at *
    generalize p / r = v at *
    omega
  simp only [this]
theorem div_lt_c {r c p : Nat} (h : p < c * r) : p / r < c := Nat.div_lt_of_lt_mul (by rw [Nat.mul_comm]; exact h)
theorem turnP_full {xs : List Int} {r c : Nat} : turnP xs r c r 0 = turnM xs r c := by
  apply List.ext_getElem (by simp [turnP, turnM])
  intro p h1 h2
  simp only [turnP, turnM, List.getElem_map, List.getElem_range]
  have hr : 0 < r := by
    rcases Nat.eq_zero_or_pos r with h | h
    · subst h; simp [turnM] at h2
    · exact h
  rw [if_pos (.inl (Nat.mod_lt _ hr))]
theorem cell_natT {p k c : Nat} : 0 + ((p : Int) * c + k).toNat = p * c + k := by
  have e : ((p : Int) * c + k) = ((p * c + k : Nat) : Int) := by simp
  rw [e]; omega
def TurnO (r c : Nat) (t : TypeId) (xs : List Int) (k : Nat) (v : AV) (Hout : List (Nat × Blk)) (n1 : Nat) : Prop := v = .agg [.int c, .int r, .sl k 1 0 (c * r) (c * r)] ∧ Hout = [(k, .own t (c * r) (.ints (turnM xs r c)))] ∧ n1 = k + 1
theorem TurnO.out {r c : Nat} {t : TypeId} {xs : List Int} {k : Nat} : ∀ v Hout n1, TurnO r c t xs k v Hout n1 → ∃ b, Hout = [(k, b)] ∧ n1 = k + 1 ∧ b.keys = [] := fun _ _ _ ⟨_, h2, h3⟩ => ⟨_, h2, h3, by simp [Blk.keys, Elts.keys, Elts.all, ints_keys]⟩
set_option maxHeartbeats 2000000 in
theorem d_turnS (r c : Nat) (xs : List Int) (m ca : Nat) (hm : m = xs.length) (hr : r ≤ 24) (hc24 : c ≤ 24) (hx : xs.length = r * c) : Does Tryz.prog 87 [vM r c 1 m ca] [(1, .ro (.ints xs))] 2 (TurnO r c 3 xs 2) := by
 subst hm
 refine Does.intro TT Tryz.func87 rfl (by kernel_rfl) Zz Zz fun E hE => ?_
 ((repeat' (first | refine stp ?_ | (refine w_C (d_newS _ _ hc24 hr) Zz Zz Zz Zz Zz Zz Zz ft Zz Zz (NewM.out) ?_; rintro v b ⟨rfl, he, -⟩; cases he) | (refine stq ?_ ?_ <;> (intro hc; ((try simp at hc) <;> try contradiction))) | fail)) <;> try (exfalso; omega))
 refine w_G hE (fun i : Nat => i ≤ r) (fun i => r - i)
  (fun i => [(1, .one (.ptr 2 3 0 0)), (2, .one (.ptr 3 3 0 0)), (3, .one (.ptr 5 3 0 0)), (4, vI i)])
  (fun i => [(1, .ro (.ints xs)), (2, .own 26 1 (.lit [.int r, .int c, .sl 1 1 0 xs.length ca])), (3, .own 26 1 (.lit zeroM)), (4, .own 3 (c * r) (.ints (turnP xs r c i 0))), (5, .own 26 1 (.lit [.int c, .int r, .sl 4 1 0 (c * r) (c * r)]))]) 6 [] 0 (Nat.zero_le _) ⟨w_1, ⟨rfl, rfl, rfl, own_ints turnP_zero, rfl, trivial⟩, rfl⟩ ?_
 intro i hi
 by_cases hir : i < r
 ·((repeat' (first | refine stp ?_ | (refine stq ?_ ?_ <;> (intro hc; ((try simp at hc) <;> try contradiction))) | fail)) <;> try (exfalso; omega))
  refine w_G hE (fun j : Nat => j ≤ c) (fun j => c - j)
   (fun j => [(1, .one (.ptr 2 3 0 0)), (2, .one (.ptr 3 3 0 0)), (3, .one (.ptr 5 3 0 0)), (4, vI i), (5, vI j)])
   (fun j => [(1, .ro (.ints xs)), (2, .own 26 1 (.lit [.int r, .int c, .sl 1 1 0 xs.length ca])), (3, .own 26 1 (.lit zeroM)), (4, .own 3 (c * r) (.ints (turnP xs r c i j))), (5, .own 26 1 (.lit [.int c, .int r, .sl 4 1 0 (c * r) (c * r)]))]) 6 [] 0 (Nat.zero_le _) ⟨w_1, w_2, rfl⟩ ?_
  intro j hj
  have hl := turnP_len (xs := xs) (r := r) (c := c) (i := i) (j := j)
  by_cases hjc : j < c
  ·have b1 := cell_facts hir hjc hr hc24
   have b2 := cell_facts hjc hir hc24 hr
   rw [← hx] at b1
   have e1 := cell_natT (p := i) (k := j) (c := c)
   have e2 := cell_natT (p := j) (k := i) (c := r)
   have hs := turnP_set (xs := xs) (c := c) (j := j) hir
   rw [← e1, ← e2] at hs
   ((repeat' (first | refine stp ?_ | (refine stq ?_ ?_ <;> (intro hc; ((try simp at hc) <;> try contradiction))) | fail)) <;> try (exfalso; omega))
   refine awp_held TM [(1, _), (2, _), (5, _)] sb rfl (fun ρs => ?_)
   refine zt0 ?_
   refine zt1 ?_
   refine zt2 ?_
   refine zt3 ?_
   refine zt4 ?_
   refine zt5 ?_
   refine zt6 ?_
   refine zt7 ?_
   refine zt8 ?_
   refine zt9 ?_
   refine zt10 ?_
   refine zt11 ?_
   refine zt12 ?_
   refine zt13 ?_
   refine zt14 ?_
   refine zt15 ?_
   refine zt16 ?_
   refine zt17 ?_
   refine zt18 ?_
   refine w_u [19] kr rfl ⟨?_, trivial⟩
   first | (refine zho ?_)
   refine w_v kr ?_
   rotate_left
   all_goals ((repeat' (first | refine stp ?_ | (refine stq ?_ ?_ <;> (intro hc; ((try simp at hc) <;> try contradiction))) | fail)) <;> try (exfalso; omega))
   all_goals exact ⟨[], j + 1, hjc, w_4, ⟨w_1, ⟨rfl, rfl, rfl, own_ints hs, rfl, trivial⟩, rfl⟩⟩
  ·obtain rfl : j = c := by omega
   ((repeat' (first | refine stx ?_ | (refine stq ?_ ?_ <;> (intro hc; ((try simp at hc) <;> try contradiction))) | fail)) <;> try (exfalso; omega))
   exact ⟨[], i + 1, by omega, w_4, ⟨w_1, ⟨rfl, rfl, rfl, own_ints (turnP_row fun p => div_lt_c), rfl, trivial⟩, rfl⟩⟩
 ·obtain rfl : i = r := by omega
  ((repeat' (first | refine stx ?_ | (refine stq ?_ ?_ <;> (intro hc; ((try simp at hc) <;> try contradiction))) | fail)) <;> try (exfalso; omega))
  exact fin rfl w_3 [(2, 4)] (.agg [.int c, .int i, .sl 2 1 0 (c * i) (c * i)]) [(2, .own 3 (c * i) (.ints (turnM xs i c)))] 3 ⟨rfl, rfl, rfl⟩ rfl ⟨trivial, ⟨own_ints turnP_full, trivial⟩, rfl⟩ rfl
def TurnZ (r c : Int) (t : TypeId) (xs : List Int) (v : AV) (Hout : List (Nat × Blk)) (n1 : Nat) : Prop :=
  match isM r c xs with
  | true => v = .tup [.agg [.int c, .int r, .sl 2 1 0 (c.toNat * r.toNat) (c.toNat * r.toNat)], .one (.bool true)] ∧ Hout = [(2, .own t (c.toNat * r.toNat) (.ints (turnM xs r.toNat c.toNat)))] ∧ n1 = 3
  | false => v = .tup [.agg zeroM, .one (.bool false)] ∧ Hout = [] ∧ n1 = 2
set_option maxHeartbeats 2000000 in
theorem d_turnI (r c : Int) (xs : List Int) (ca : Nat) (hl : xs.length ≤ 1099511627776) : Does Tryz.prog 61 [vM r c 1 xs.length ca] [(1, .ro (.ints xs))] 2 (TurnZ r c 3 xs) := by
 refine Does.intro TT Tryz.func61 rfl (by kernel_rfl) Zz Zz fun E hE => ?_
 cases h1 : isM r c xs
 ·((repeat' (first | refine stx ?_ | (refine zqc (d_isMatI _ _ _ _ hl) ?_ <;> simp only [h1]) | (refine stq ?_ ?_ <;> (intro hc; ((try simp at hc) <;> try contradiction))) | fail)) <;> try (exfalso; omega))
  exact fin rfl w_3 [] (.tup [.agg zeroM, .one (.bool false)]) [] 2 (by unfold TurnZ; rw [h1]; exact ⟨rfl, rfl, rfl⟩) rfl ⟨trivial, trivial, rfl⟩ rfl
 ·obtain ⟨r, c, rfl, rfl⟩ := isM_pos h1
  obtain ⟨hr, hc24, hx, hnum⟩ := isM_nat h1
  ((repeat' (first | refine stp ?_ | (refine zqc (d_isMatI _ _ _ _ hl) ?_ <;> simp only [h1]) | (refine w_C (d_newI _ _ hc24 hr) Zz Zz Zz Zz Zz Zz Zz ft Zz Zz (NewM.out) ?_; rintro v b ⟨rfl, he, -⟩; cases he) | (refine stq ?_ ?_ <;> (intro hc; ((try simp at hc) <;> try contradiction))) | fail)) <;> try (exfalso; omega))
  refine w_G hE (fun i : Nat => i ≤ r) (fun i => r - i)
   (fun i => [(1, .one (.ptr 2 3 0 0)), (2, .one (.ptr 3 3 0 0)), (4, .one (.ptr 5 3 0 0)), (5, vI i)])
   (fun i => [(1, .ro (.ints xs)), (2, .own 26 1 (.lit [.int r, .int c, .sl 1 1 0 xs.length ca])), (3, .own 26 1 (.lit zeroM)), (4, .own 3 (c * r) (.ints (turnP xs r c i 0))), (5, .own 26 1 (.lit [.int c, .int r, .sl 4 1 0 (c * r) (c * r)]))]) 6 [] 0 (Nat.zero_le _) ⟨w_1, ⟨rfl, rfl, rfl, own_ints turnP_zero, rfl, trivial⟩, rfl⟩ ?_
  intro i hi
  by_cases hir : i < r
  ·((repeat' (first | refine stp ?_ | (refine stq ?_ ?_ <;> (intro hc; ((try simp at hc) <;> try contradiction))) | fail)) <;> try (exfalso; omega))
   refine w_G hE (fun j : Nat => j ≤ c) (fun j => c - j)
    (fun j => [(1, .one (.ptr 2 3 0 0)), (2, .one (.ptr 3 3 0 0)), (4, .one (.ptr 5 3 0 0)), (5, vI i), (6, vI j)])
    (fun j => [(1, .ro (.ints xs)), (2, .own 26 1 (.lit [.int r, .int c, .sl 1 1 0 xs.length ca])), (3, .own 26 1 (.lit zeroM)), (4, .own 3 (c * r) (.ints (turnP xs r c i j))), (5, .own 26 1 (.lit [.int c, .int r, .sl 4 1 0 (c * r) (c * r)]))]) 6 [] 0 (Nat.zero_le _) ⟨w_1, w_2, rfl⟩ ?_
   intro j hj
   have hlen := turnP_len (xs := xs) (r := r) (c := c) (i := i) (j := j)
   by_cases hjc : j < c
   ·have b1 := cell_facts hir hjc hr hc24
    have b2 := cell_facts hjc hir hc24 hr
    have hcr : c * r ≤ 1099511627776 := by
     have : c * r ≤ 24 * 24 := Nat.mul_le_mul hc24 hr
     omega
    rw [← hx] at b1
    have e1 := cell_natT (p := i) (k := j) (c := c)
    have e2 := cell_natT (p := j) (k := i) (c := r)
    have hs := turnP_set (xs := xs) (c := c) (j := j) hir
    rw [← e1, ← e2] at hs
    have hd := d_at r c i j xs ca (by omega) (by omega) (by omega) hl
    ((repeat' (first | refine stp ?_ | (refine stq ?_ ?_ <;> (intro hc; ((try simp at hc) <;> try contradiction))) | fail)) <;> try (exfalso; omega))
    refine awp_held TM [(1, _), (2, _), (5, _)] sb rfl (fun ρs => ?_)
    refine zt0 ?_
    refine zt1 ?_
    refine zt2 ?_
    refine zt3 ?_
    refine zt4 ?_
    refine zt5 ?_
    refine w_u [6] kr rfl ⟨?_, trivial⟩
    first | (refine zho ?_) | refine zqb (hd) ?_ | (refine w_F _ (d_set c r j i _ (turnP xs r c i j) (c * r) (c * r) (c * r) hlen.symm (by omega) (by omega) (by omega) (by omega)) Zz Zz Zz Zz Zz Zz Zz Zz ft Zz Zz ?_; rintro v Hout n1 ⟨rfl, rfl, rfl⟩; refine ⟨sb, ?_⟩)
    refine w_u [7] kr rfl ⟨?_, trivial⟩
    first | (refine zho ?_) | refine zqb (hd) ?_ | (refine w_F _ (d_set c r j i _ (turnP xs r c i j) (c * r) (c * r) (c * r) hlen.symm (by omega) (by omega) (by omega) (by omega)) Zz Zz Zz Zz Zz Zz Zz Zz ft Zz Zz ?_; rintro v Hout n1 ⟨rfl, rfl, rfl⟩; refine ⟨sb, ?_⟩)
    refine w_v kr ?_
    rotate_left
    all_goals ((repeat' (first | refine stp ?_ | (refine stq ?_ ?_ <;> (intro hc; ((try simp at hc) <;> try contradiction))) | fail)) <;> try (exfalso; omega))
    all_goals exact ⟨[], j + 1, hjc, w_4, ⟨w_1, ⟨rfl, rfl, rfl, own_ints hs, rfl, trivial⟩, rfl⟩⟩
   ·obtain rfl : j = c := by omega
    ((repeat' (first | refine stx ?_ | (refine stq ?_ ?_ <;> (intro hc; ((try simp at hc) <;> try contradiction))) | fail)) <;> try (exfalso; omega))
    exact ⟨[], i + 1, by omega, w_4, ⟨w_1, ⟨rfl, rfl, rfl, own_ints (turnP_row fun p => div_lt_c), rfl, trivial⟩, rfl⟩⟩
  ·obtain rfl : i = r := by omega
   ((repeat' (first | refine stx ?_ | (refine stq ?_ ?_ <;> (intro hc; ((try simp at hc) <;> try contradiction))) | fail)) <;> try (exfalso; omega))
   exact fin rfl w_3 [(2, 4)] (.tup [.agg [.int c, .int i, .sl 2 1 0 (c * i) (c * i)], .one (.bool true)]) [(2, .own 3 (c * i) (.ints (turnM xs i c)))] 3 (by unfold TurnZ; rw [h1]; exact ⟨rfl, rfl, rfl⟩) rfl ⟨trivial, ⟨own_ints turnP_full, trivial⟩, rfl⟩ rfl
end Go.Proofs.YtekpamojojfplaaGreat
