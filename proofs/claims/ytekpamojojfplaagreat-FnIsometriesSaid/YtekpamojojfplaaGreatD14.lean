/-
  TEXTS OF THE PROOF, put together: bDet.
-/
import Derived.Test.YtekpamojojfplaaGreatD08
import Derived.Test.YtekpamojojfplaaGreatD07
set_option linter.unusedVariables false
set_option linter.unusedSimpArgs false
namespace Go.Proofs.YtekpamojojfplaaGreat
open Go.RowKit
theorem d_fitY (n : Int) (h : numB n = true) : Does Tryz.prog 143 [vI n] [] 1 (Ret (vI n) 1) := by
 refine Does.intro TT Tryz.func143 rfl (by kernel_rfl) Zz Zz fun E hE => ?_
 have h' : inB n (-400000000) 400000000 = true := h
 (repeat' (first | refine stx ?_ | (refine zqc (d_l1In _ _ _) ?_ <;> simp only [h']) | (refine stq ?_ ?_ <;> (intro hc; ((try simp at hc) <;> try contradiction))) | fail))
 refine fin_ret rfl w_3 (rfl) rfl
theorem d_fitN (n : Int) (h : numB n = false) : Does Tryz.prog 143 [vI n] [] 1 (Ret (vI (-4611686018427387904)) 1) := by
 refine Does.intro TT Tryz.func143 rfl (by kernel_rfl) Zz Zz fun E hE => ?_
 have h' : inB n (-400000000) 400000000 = false := h
 (repeat' (first | refine stx ?_ | (refine zqc (d_l1In _ _ _) ?_ <;> simp only [h']) | (refine stq ?_ ?_ <;> (intro hc; ((try simp at hc) <;> try contradiction))) | fail))
 refine fin_ret rfl w_3 (rfl) rfl
def minRow (xs : List Int) (off col : Nat) : Nat → List Int
  | 0 => []
  | j + 1 => if j = col then minRow xs off col j else minRow xs off col j ++ [xs.getD (off + j) 0]
def minM (xs : List Int) (c row col : Nat) : Nat → List Int
  | 0 => []
  | i + 1 => if i = row then minM xs c row col i else minM xs c row col i ++ minRow xs (i * c) col c
theorem minRow_len {xs : List Int} {off col : Nat} : ∀ {j : Nat}, (minRow xs off col j).length = if col < j then j - 1 else j
  | 0 => by simp [minRow]
  | j + 1 => by
    have ih := minRow_len (xs := xs) (off := off) (col := col) (j := j)
    unfold minRow
    split
    · rename_i h
      subst h
      rw [ih, if_neg (by omega), if_pos (by omega)]; omega
    · rw [List.length_append, ih, List.length_singleton]
      split <;> split <;> omega
theorem minM_len {xs : List Int} {n col : Nat} (hc : col < n + 1) : ∀ {i : Nat}, (minM xs (n + 1) 0 col (i + 1)).length = i * n
  | 0 => by simp [minM]
  | i + 1 => by
    rw [minM, if_neg (by omega), List.length_append, minM_len hc, minRow_len, if_pos hc, Nat.succ_mul]; omega
theorem minRow_num {xs : List Int} (h : xs.all numB = true) {off col : Nat} : ∀ {j : Nat}, (minRow xs off col j).all numB = true
  | 0 => rfl
  | j + 1 => by
    unfold minRow
    split
    · exact minRow_num h
    · rw [List.all_append, minRow_num h, List.all_cons, numB_true.2 (num_getD h (off + j))]; rfl
theorem minM_num {xs : List Int} (h : xs.all numB = true) {c row col : Nat} : ∀ {i : Nat}, (minM xs c row col i).all numB = true
  | 0 => rfl
  | i + 1 => by
    unfold minM
    split
    · exact minM_num h
    · rw [List.all_append, minM_num h, minRow_num h]; rfl
def detTo (xs : List Int) (d : Nat → Option Int) : Nat → Option Int
  | 0 => some 0
  | j + 1 => match detTo xs d j with
    | none => none
    | some s => if xs.getD j 0 = 0 then some s else match d j with
      | none => none
      | some v => some (s + (if j % 2 = 1 then -(xs.getD j 0) else xs.getD j 0) * v)
def fitO (o : Option Int) : Option Int := match o with
  | none => none
  | some s => if numB s then some s else none
def detZ : Nat → List Int → Option Int
  | 0, _ => some 1
  | n + 1, xs => fitO (detTo xs (fun j => detZ n (minM xs (n + 1) 0 j (n + 1))) (n + 1))
theorem detZ_num {n : Nat} {xs : List Int} {v : Int} (h : detZ n xs = some v) : numB v = true := by
  cases n with
  | zero => cases h; rfl
  | succ n =>
    rw [detZ] at h
    unfold fitO at h
    split at h
    · cases h
    · split at h
      · rename_i hn; cases h; exact hn
      · cases h
theorem detTo_bd {xs : List Int} {d : Nat → Option Int} (hx : xs.all numB = true) (hd : ∀ j v, d j = some v → numB v = true) : ∀ {j : Nat} {s : Int}, detTo xs d j = some s → -(160000000000000000 * (j : Int)) ≤ s ∧ s ≤ 160000000000000000 * (j : Int)
  | 0, s, h => by cases h; omega
  | j + 1, s, h => by
    unfold detTo at h
    split at h
    · cases h
    · rename_i s0 h0
      have ih := detTo_bd hx hd h0
      split at h
      · cases h; omega
      · split at h
        · cases h
        · rename_i v hv
          cases h
          have h1 := numB_true.1 (hd j v hv)
          have h2 := num_getD hx j
          have h3 : -400000000 ≤ (if j % 2 = 1 then -(xs.getD j 0) else xs.getD j 0) ∧ (if j % 2 = 1 then -(xs.getD j 0) else xs.getD j 0) ≤ 400000000 := by split <;> omega
          have h4 := prod_num h3 h1
          omega
theorem detTo_none {xs : List Int} {d : Nat → Option Int} {j : Nat} (h : detTo xs d j = none) : ∀ m, detTo xs d (j + m) = none
  | 0 => h
  | m + 1 => by rw [← Nat.add_assoc, detTo, detTo_none h m]
theorem detZ_none {n : Nat} {xs : List Int} {j : Nat} (hj : j ≤ n + 1) (h : detTo xs (fun j => detZ n (minM xs (n + 1) 0 j (n + 1))) j = none) : detZ (n + 1) xs = none := by
  have := detTo_none h (n + 1 - j)
  rw [show j + (n + 1 - j) = n + 1 by omega] at this
  rw [detZ, this]; rfl
def MinO (t : TypeId) (n : Nat) (ys : List Int) (v : AV) (Hout : List (Nat × Blk)) (n1 : Nat) : Prop := ∃ cap, ys.length ≤ cap ∧ v = .agg [.int n, .int n, .sl 2 1 0 ys.length cap] ∧ Hout = [(2, .own t cap (.ints ys))] ∧ n1 = 3
theorem MinO.out {t : TypeId} {n : Nat} {ys : List Int} : ∀ v Hout n1, MinO t n ys v Hout n1 → ∃ b, Hout = [(2, b)] ∧ n1 = 2 + 1 ∧ b.keys = [] := fun _ _ _ ⟨_, _, _, h2, h3⟩ => ⟨_, h2, h3, by simp [Blk.keys, Elts.keys, Elts.all, ints_keys]⟩
def minAt (xs : List Int) (c row col i j : Nat) : List Int := if i = row then minM xs c row col i else minM xs c row col i ++ minRow xs (i * c) col j
theorem minAt_zero {xs : List Int} {c row col i : Nat} : minAt xs c row col i 0 = minM xs c row col i := by unfold minAt; split <;> simp [minRow]
theorem minAt_full {xs : List Int} {c row col i : Nat} : minAt xs c row col i c = minM xs c row col (i + 1) := by rw [minAt, minM]
theorem minAt_skip {xs : List Int} {c row col i j : Nat} (h : i = row ∨ j = col) : minAt xs c row col i (j + 1) = minAt xs c row col i j := by
  unfold minAt
  split
  · rfl
  · rw [minRow, if_pos (by omega)]
theorem minAt_add {xs : List Int} {c row col i j : Nat} (h : i ≠ row) (h' : j ≠ col) : minAt xs c row col i (j + 1) = minAt xs c row col i j ++ [xs.getD (i * c + j) 0] := by
  unfold minAt
  rw [if_neg h, if_neg h, minRow, if_neg h', List.append_assoc]
theorem minRow_le {xs : List Int} {off col : Nat} : ∀ {j : Nat}, (minRow xs off col j).length ≤ j := fun {j} => by rw [minRow_len]; split <;> omega
theorem minM_le {xs : List Int} {c row col : Nat} : ∀ {i : Nat}, (minM xs c row col i).length ≤ i * c
  | 0 => by simp [minM]
  | i + 1 => by
    have h1 := minM_le (xs := xs) (c := c) (row := row) (col := col) (i := i)
    have h2 := minRow_le (xs := xs) (off := i * c) (col := col) (j := c)
    rw [minM, Nat.succ_mul]
    split
    · omega
    · rw [List.length_append]; omega
theorem minAt_le {xs : List Int} {c row col i j : Nat} (hi : i < 24) (hc : c ≤ 24) (hj : j ≤ c) : (minAt xs c row col i j).length ≤ 1000 := by
  have h1 := minM_le (xs := xs) (c := c) (row := row) (col := col) (i := i)
  have h2 := minRow_le (xs := xs) (off := i * c) (col := col) (j := j)
  have h3 : i * c ≤ 24 * 24 := Nat.mul_le_mul (by omega) hc
  unfold minAt
  split
  · omega
  · rw [List.length_append]; omega
theorem cell_natD {p k c : Nat} : 0 + ((p : Int) * c + k).toNat = p * c + k := by
  have e : ((p : Int) * c + k) = ((p * c + k : Nat) : Int) := by simp
  rw [e]; omega
theorem own_lit3 {t : TypeId} {c : Nat} {x y : Int} {k a b cp : Nat} {m : Nat → Nat} (h : a = b) : some (Blk.own t c (.lit [.int x, .int y, .sl (m k) 1 0 a cp])) = some ((Blk.own t c (.lit [.int x, .int y, .sl k 1 0 b cp])).ren m) := by subst h; rfl
set_option maxHeartbeats 2000000 in
theorem d_minI (n col : Nat) (xs : List Int) (ca m : Nat) (hm : m = xs.length) (hn : n + 1 ≤ 24) (hcol : col < n + 1) (hx : xs.length = (n + 1) * (n + 1)) (hl : xs.length ≤ 1099511627776) : Does Tryz.prog 134 [vM ((n + 1 : Nat) : Int) ((n + 1 : Nat) : Int) 1 m ca, vI 0, vI col] [(1, .ro (.ints xs))] 2 (MinO 3 n (minM xs (n + 1) 0 col (n + 1))) := by
 subst hm
 refine Does.intro TT Tryz.func134 rfl (by kernel_rfl) Zz Zz fun E hE => ?_
 generalize hs : n + 1 = s at *
 have en : (s : Int) - 1 = n := by omega
 ((repeat' (first | refine stp ?_ | (refine stq ?_ ?_ <;> (intro hc; ((try simp at hc) <;> try contradiction))) | fail)) <;> try (exfalso; omega))
 refine w_G hE (fun p : Nat × Nat => p.1 ≤ s ∧ (minM xs s 0 col p.1).length ≤ p.2) (fun p => s - p.1)
  (fun p => [(1, vI 0), (2, vI col), (3, .one (.ptr 2 3 0 0)), (6, .one (.ptr 3 3 0 0)), (7, .one (.ptr 5 3 0 0)), (8, vI p.1)])
  (fun p => [(1, .ro (.ints xs)), (2, .own 26 1 (.lit [.int s, .int s, .sl 1 1 0 xs.length ca])), (3, .own 26 1 (.lit [.int 0, .int 0, .sl 0 1 0 0 0])), (4, .own 3 p.2 (.ints (minM xs s 0 col p.1))), (5, .own 26 1 (.lit [.int ((s : Int) - 1), .int ((s : Int) - 1), .sl 4 1 0 (minM xs s 0 col p.1).length p.2]))]) 6 [] (0, 0) ⟨Nat.zero_le _, Nat.le_refl _⟩ ⟨w_1, w_2, rfl⟩ ?_
 rintro ⟨i, cp⟩ ⟨hi, hcp⟩
 dsimp only at hi hcp ⊢
 by_cases his : i < s
 ·((repeat' (first | refine stp ?_ | (refine stq ?_ ?_ <;> (intro hc; ((try simp at hc) <;> try contradiction))) | fail)) <;> try (exfalso; omega))
  refine w_G hE (fun p : Nat × Nat => p.1 ≤ s ∧ (minAt xs s 0 col i p.1).length ≤ p.2) (fun p => s - p.1)
   (fun p => [(1, vI 0), (2, vI col), (3, .one (.ptr 2 3 0 0)), (6, .one (.ptr 3 3 0 0)), (7, .one (.ptr 5 3 0 0)), (8, vI i), (9, vI p.1)])
   (fun p => [(1, .ro (.ints xs)), (2, .own 26 1 (.lit [.int s, .int s, .sl 1 1 0 xs.length ca])), (3, .own 26 1 (.lit [.int 0, .int 0, .sl 0 1 0 0 0])), (4, .own 3 p.2 (.ints (minAt xs s 0 col i p.1))), (5, .own 26 1 (.lit [.int ((s : Int) - 1), .int ((s : Int) - 1), .sl 4 1 0 (minAt xs s 0 col i p.1).length p.2]))]) 6 [] (0, cp) ⟨Nat.zero_le _, by rw [minAt_zero]; exact hcp⟩ ⟨w_1, by dsimp only; rw [minAt_zero]; exact ⟨rfl, rfl, rfl, rfl, rfl, trivial⟩, rfl⟩ ?_
  rintro ⟨j, cq⟩ ⟨hj, hcq⟩
  dsimp only at hj hcq ⊢
  have hle := minAt_le (xs := xs) (row := 0) (col := col) (j := j) (show i < 24 by omega) hn hj
  by_cases hjs : j < s
  ·have hcell := cell_facts his hjs hn hn
   rw [← hx] at hcell
   have ec := cell_natD (p := i) (k := j) (c := s)
   have hd := d_at s s i j xs ca (by omega) (by omega) (by omega) hl
   by_cases hskip : i = 0 ∨ j = col
   ·have e := minAt_skip (xs := xs) (c := s) hskip
    ((repeat' (first | refine stx ?_ | (refine stq ?_ ?_ <;> (intro hc; ((try simp at hc) <;> try contradiction))) | fail)) <;> try (exfalso; omega))
    all_goals exact ⟨[], (j + 1, cq), ⟨by dsimp only; omega, by dsimp only; rw [e]; exact hcq⟩, w_4, ⟨w_1, by dsimp only; rw [e]; exact ⟨rfl, rfl, rfl, rfl, rfl, trivial⟩, rfl⟩⟩
   ·have e := minAt_add (xs := xs) (c := s) (row := 0) (col := col) (i := i) (j := j) (by omega) (by omega)
    rw [← ec] at e
    ((repeat' (first | refine stp ?_ | (refine stq ?_ ?_ <;> (intro hc; ((try simp at hc) <;> try contradiction))) | fail)) <;> try (exfalso; omega))
    refine awp_held TM [(2, _)] sb rfl (fun ρs => ?_)
    refine zt2 ?_
    refine zt3 ?_
    refine zt4 ?_
    refine w_u [0, 5] kr rfl ⟨?_, ?_, trivial⟩
    first | (refine zho ?_) | refine zqb (hd) ?_ | (refine zqy ?_; intro cap hcap)
    refine w_u [1, 5] kr rfl ⟨?_, ?_, trivial⟩
    first | (refine zho ?_) | refine zqb (hd) ?_ | (refine zqy ?_; intro cap hcap)
    refine w_u [5] kr rfl ⟨?_, trivial⟩
    first | (refine zho ?_) | refine zqb (hd) ?_ | (refine zqy ?_; intro cap hcap)
    refine w_u [6] kr rfl ⟨?_, trivial⟩
    first | (refine zho ?_) | refine zqb (hd) ?_ | (refine zqy ?_; intro cap hcap)
    refine w_u [7] kr rfl ⟨?_, trivial⟩
    first | (refine zho ?_) | refine zqb (hd) ?_ | (refine zqy ?_; intro cap hcap)
    refine w_u [8] kr rfl ⟨?_, trivial⟩
    first | (refine zho ?_) | refine zqb (hd) ?_ | (refine zqy ?_; intro cap hcap)
    refine w_u [9] kr rfl ⟨?_, trivial⟩
    first | (refine zho ?_) | refine zqb (hd) ?_ | (refine zqy ?_; intro cap hcap)
    refine w_v kr ?_
    rotate_left
    first | (refine zho ?_) | refine zqb (hd) ?_ | (refine zqy ?_; intro cap hcap)
    refine w_u [1, 6] kr rfl ⟨?_, ?_, trivial⟩
    first | (refine zho ?_) | refine zqb (hd) ?_ | (refine zqy ?_; intro cap hcap)
    refine w_u [6] kr rfl ⟨?_, trivial⟩
    first | (refine zho ?_) | refine zqb (hd) ?_ | (refine zqy ?_; intro cap hcap)
    refine w_u [7] kr rfl ⟨?_, trivial⟩
    first | (refine zho ?_) | refine zqb (hd) ?_ | (refine zqy ?_; intro cap hcap)
    refine w_u [8] kr rfl ⟨?_, trivial⟩
    first | (refine zho ?_) | refine zqb (hd) ?_ | (refine zqy ?_; intro cap hcap)
    refine w_u [9] kr rfl ⟨?_, trivial⟩
    first | (refine zho ?_) | refine zqb (hd) ?_ | (refine zqy ?_; intro cap hcap)
    refine w_v kr ?_
    rotate_left
    first | (refine zho ?_) | refine zqb (hd) ?_ | (refine zqy ?_; intro cap hcap)
    refine w_u [1] kr rfl ⟨?_, trivial⟩
    first | (refine zho ?_) | refine zqb (hd) ?_ | (refine zqy ?_; intro cap hcap)
    refine w_u [7] kr rfl ⟨?_, trivial⟩
    first | (refine zho ?_) | refine zqb (hd) ?_ | (refine zqy ?_; intro cap hcap)
    refine w_u [8] kr rfl ⟨?_, trivial⟩
    first | (refine zho ?_) | refine zqb (hd) ?_ | (refine zqy ?_; intro cap hcap)
    refine w_u [9] kr rfl ⟨?_, trivial⟩
    first | (refine zho ?_) | refine zqb (hd) ?_ | (refine zqy ?_; intro cap hcap)
    refine w_v kr ?_
    rotate_left
    first | (refine zho ?_) | refine zqb (hd) ?_ | (refine zqy ?_; intro cap hcap)
    refine w_u [0, 6] kr rfl ⟨?_, ?_, trivial⟩
    first | (refine zho ?_) | refine zqb (hd) ?_ | (refine zqy ?_; intro cap hcap)
    refine w_u [1, 6] kr rfl ⟨?_, ?_, trivial⟩
    first | (refine zho ?_) | refine zqb (hd) ?_ | (refine zqy ?_; intro cap hcap)
    refine w_u [6] kr rfl ⟨?_, trivial⟩
    first | (refine zho ?_) | refine zqb (hd) ?_ | (refine zqy ?_; intro cap hcap)
    refine w_u [7] kr rfl ⟨?_, trivial⟩
    first | (refine zho ?_) | refine zqb (hd) ?_ | (refine zqy ?_; intro cap hcap)
    refine w_u [8] kr rfl ⟨?_, trivial⟩
    first | (refine zho ?_) | refine zqb (hd) ?_ | (refine zqy ?_; intro cap hcap)
    refine w_u [9] kr rfl ⟨?_, trivial⟩
    first | (refine zho ?_) | refine zqb (hd) ?_ | (refine zqy ?_; intro cap hcap)
    refine w_v kr ?_
    rotate_left
    first | (refine zho ?_) | refine zqb (hd) ?_ | (refine zqy ?_; intro cap hcap)
    refine w_u [1] kr rfl ⟨?_, trivial⟩
    first | (refine zho ?_) | refine zqb (hd) ?_ | (refine zqy ?_; intro cap hcap)
    refine w_u [7] kr rfl ⟨?_, trivial⟩
    first | (refine zho ?_) | refine zqb (hd) ?_ | (refine zqy ?_; intro cap hcap)
    refine w_u [8] kr rfl ⟨?_, trivial⟩
    first | (refine zho ?_) | refine zqb (hd) ?_ | (refine zqy ?_; intro cap hcap)
    refine w_u [9] kr rfl ⟨?_, trivial⟩
    first | (refine zho ?_) | refine zqb (hd) ?_ | (refine zqy ?_; intro cap hcap)
    refine w_v kr ?_
    rotate_left
    first | (refine zho ?_) | refine zqb (hd) ?_ | (refine zqy ?_; intro cap hcap)
    refine w_u [0] kr rfl ⟨?_, trivial⟩
    first | (refine zho ?_) | refine zqb (hd) ?_ | (refine zqy ?_; intro cap hcap)
    refine w_u [1] kr rfl ⟨?_, trivial⟩
    first | (refine zho ?_) | refine zqb (hd) ?_ | (refine zqy ?_; intro cap hcap)
    refine w_u [7] kr rfl ⟨?_, trivial⟩
    first | (refine zho ?_) | refine zqb (hd) ?_ | (refine zqy ?_; intro cap hcap)
    refine w_u [8] kr rfl ⟨?_, trivial⟩
    first | (refine zho ?_) | refine zqb (hd) ?_ | (refine zqy ?_; intro cap hcap)
    refine w_u [9] kr rfl ⟨?_, trivial⟩
    first | (refine zho ?_) | refine zqb (hd) ?_ | (refine zqy ?_; intro cap hcap)
    refine w_v kr ?_
    rotate_left
    all_goals ((repeat' (first | refine stp ?_ | (refine stq ?_ ?_ <;> (intro hc; ((try simp at hc) <;> try contradiction))) | fail)) <;> try (exfalso; omega))
    all_goals exact ⟨[(4, 7)], (j + 1, cap), ⟨by dsimp only; omega, by dsimp only; rw [e]; simpa using hcap⟩, w_4, ⟨w_1, by dsimp only; rw [e]; exact ⟨rfl, rfl, rfl, own_ints rfl, own_lit3 (by simp), trivial⟩, rfl⟩⟩
  ·obtain rfl : j = s := by omega
   ((repeat' (first | refine stx ?_ | (refine stq ?_ ?_ <;> (intro hc; ((try simp at hc) <;> try contradiction))) | fail)) <;> try (exfalso; omega))
   exact ⟨[], (i + 1, cq), ⟨by dsimp only; omega, by dsimp only; rw [← minAt_full]; exact hcq⟩, w_4, ⟨w_1, by dsimp only; rw [← minAt_full]; exact ⟨rfl, rfl, rfl, rfl, rfl, trivial⟩, rfl⟩⟩
 ·obtain rfl : i = s := by omega
  ((repeat' (first | refine stx ?_ | (refine stq ?_ ?_ <;> (intro hc; ((try simp at hc) <;> try contradiction))) | fail)) <;> try (exfalso; omega))
  exact fin rfl w_3 [(2, 4)] (.agg [.int n, .int n, .sl 2 1 0 (minM xs i 0 col i).length cp]) [(2, .own 3 cp (.ints (minM xs i 0 col i)))] 3 ⟨cp, hcp, rfl, rfl, rfl⟩ (by rw [← en]; rfl) ⟨trivial, ⟨rfl, trivial⟩, rfl⟩ rfl
set_option maxHeartbeats 2000000 in
theorem d_minS (n col : Nat) (xs : List Int) (ca m : Nat) (hm : m = xs.length) (hn : n + 1 ≤ 24) (hcol : col < n + 1) (hx : xs.length = (n + 1) * (n + 1)) (hl : xs.length ≤ 1099511627776) : Does Tryz.prog 142 [vM ((n + 1 : Nat) : Int) ((n + 1 : Nat) : Int) 1 m ca, vI 0, vI col] [(1, .ro (.ints xs))] 2 (MinO 3 n (minM xs (n + 1) 0 col (n + 1))) := by
 subst hm
 refine Does.intro TT Tryz.func142 rfl (by kernel_rfl) Zz Zz fun E hE => ?_
 generalize hs : n + 1 = s at *
 have en : (s : Int) - 1 = n := by omega
 ((repeat' (first | refine stp ?_ | (refine stq ?_ ?_ <;> (intro hc; ((try simp at hc) <;> try contradiction))) | fail)) <;> try (exfalso; omega))
 refine awp_nil (k := 4) (f := 2) (sz := 1) (et := 3) (e0 := .ints []) Zz Zz Zz Zz (fun _ h => by cases h) ?_
 refine w_G hE (fun p : Nat × Nat => p.1 ≤ s ∧ (minM xs s 0 col p.1).length ≤ p.2) (fun p => s - p.1)
  (fun p => [(1, vI 0), (2, vI col), (3, .one (.ptr 2 3 0 0)), (6, .one (.ptr 3 3 0 0)), (7, .one (.ptr 4 3 0 0)), (8, vI p.1)])
  (fun p => [(1, .ro (.ints xs)), (2, .own 26 1 (.lit [.int s, .int s, .sl 1 1 0 xs.length ca])), (3, .own 26 1 (.lit [.int 0, .int 0, .sl 0 1 0 0 0])), (5, .own 3 p.2 (.ints (minM xs s 0 col p.1))), (4, .own 26 1 (.lit [.int ((s : Int) - 1), .int ((s : Int) - 1), .sl 5 1 0 (minM xs s 0 col p.1).length p.2]))]) 6 [] (0, 0) ⟨Nat.zero_le _, Nat.le_refl _⟩ ⟨w_1, w_2, rfl⟩ ?_
 rintro ⟨i, cp⟩ ⟨hi, hcp⟩
 dsimp only at hi hcp ⊢
 by_cases his : i < s
 ·((repeat' (first | refine stp ?_ | (refine stq ?_ ?_ <;> (intro hc; ((try simp at hc) <;> try contradiction))) | fail)) <;> try (exfalso; omega))
  refine w_G hE (fun p : Nat × Nat => p.1 ≤ s ∧ (minAt xs s 0 col i p.1).length ≤ p.2) (fun p => s - p.1)
   (fun p => [(1, vI 0), (2, vI col), (3, .one (.ptr 2 3 0 0)), (6, .one (.ptr 3 3 0 0)), (7, .one (.ptr 4 3 0 0)), (8, vI i), (9, vI p.1)])
   (fun p => [(1, .ro (.ints xs)), (2, .own 26 1 (.lit [.int s, .int s, .sl 1 1 0 xs.length ca])), (3, .own 26 1 (.lit [.int 0, .int 0, .sl 0 1 0 0 0])), (5, .own 3 p.2 (.ints (minAt xs s 0 col i p.1))), (4, .own 26 1 (.lit [.int ((s : Int) - 1), .int ((s : Int) - 1), .sl 5 1 0 (minAt xs s 0 col i p.1).length p.2]))]) 6 [] (0, cp) ⟨Nat.zero_le _, by rw [minAt_zero]; exact hcp⟩ ⟨w_1, by dsimp only; rw [minAt_zero]; exact ⟨rfl, rfl, rfl, rfl, rfl, trivial⟩, rfl⟩ ?_
  rintro ⟨j, cq⟩ ⟨hj, hcq⟩
  dsimp only at hj hcq ⊢
  have hle := minAt_le (xs := xs) (row := 0) (col := col) (j := j) (show i < 24 by omega) hn hj
  by_cases hjs : j < s
  ·have hcell := cell_facts his hjs hn hn
   rw [← hx] at hcell
   have ec := cell_natD (p := i) (k := j) (c := s)
   by_cases hskip : i = 0 ∨ j = col
   ·have e := minAt_skip (xs := xs) (c := s) hskip
    ((repeat' (first | refine stx ?_ | (refine stq ?_ ?_ <;> (intro hc; ((try simp at hc) <;> try contradiction))) | fail)) <;> try (exfalso; omega))
    all_goals exact ⟨[], (j + 1, cq), ⟨by dsimp only; omega, by dsimp only; rw [e]; exact hcq⟩, w_4, ⟨w_1, by dsimp only; rw [e]; exact ⟨rfl, rfl, rfl, rfl, rfl, trivial⟩, rfl⟩⟩
   ·have e := minAt_add (xs := xs) (c := s) (row := 0) (col := col) (i := i) (j := j) (by omega) (by omega)
    rw [← ec] at e
    ((repeat' (first | refine stp ?_ | (refine stq ?_ ?_ <;> (intro hc; ((try simp at hc) <;> try contradiction))) | fail)) <;> try (exfalso; omega))
    refine awp_held TM [(1, _), (2, _)] sb rfl (fun ρs => ?_)
    refine zt2 ?_
    refine zt3 ?_
    refine zt4 ?_
    refine zt5 ?_
    refine zt6 ?_
    refine zt7 ?_
    refine zt8 ?_
    refine zt9 ?_
    refine zt10 ?_
    refine zt11 ?_
    refine w_u [0, 12] kr rfl ⟨?_, ?_, trivial⟩
    first | (refine zho ?_) | (refine zqy ?_; intro cap hcap)
    refine w_u [1, 12] kr rfl ⟨?_, ?_, trivial⟩
    first | (refine zho ?_) | (refine zqy ?_; intro cap hcap)
    refine w_u [12] kr rfl ⟨?_, trivial⟩
    first | (refine zho ?_) | (refine zqy ?_; intro cap hcap)
    refine w_u [13] kr rfl ⟨?_, trivial⟩
    first | (refine zho ?_) | (refine zqy ?_; intro cap hcap)
    refine w_u [14] kr rfl ⟨?_, trivial⟩
    first | (refine zho ?_) | (refine zqy ?_; intro cap hcap)
    refine w_u [15] kr rfl ⟨?_, trivial⟩
    first | (refine zho ?_) | (refine zqy ?_; intro cap hcap)
    refine w_v kr ?_
    rotate_left
    first | (refine zho ?_) | (refine zqy ?_; intro cap hcap)
    refine w_u [1] kr rfl ⟨?_, trivial⟩
    first | (refine zho ?_) | (refine zqy ?_; intro cap hcap)
    refine w_u [13] kr rfl ⟨?_, trivial⟩
    first | (refine zho ?_) | (refine zqy ?_; intro cap hcap)
    refine w_u [14] kr rfl ⟨?_, trivial⟩
    first | (refine zho ?_) | (refine zqy ?_; intro cap hcap)
    refine w_u [15] kr rfl ⟨?_, trivial⟩
    first | (refine zho ?_) | (refine zqy ?_; intro cap hcap)
    refine w_v kr ?_
    rotate_left
    first | (refine zho ?_) | (refine zqy ?_; intro cap hcap)
    refine w_u [0] kr rfl ⟨?_, trivial⟩
    first | (refine zho ?_) | (refine zqy ?_; intro cap hcap)
    refine w_u [1] kr rfl ⟨?_, trivial⟩
    first | (refine zho ?_) | (refine zqy ?_; intro cap hcap)
    refine w_u [13] kr rfl ⟨?_, trivial⟩
    first | (refine zho ?_) | (refine zqy ?_; intro cap hcap)
    refine w_u [14] kr rfl ⟨?_, trivial⟩
    first | (refine zho ?_) | (refine zqy ?_; intro cap hcap)
    refine w_u [15] kr rfl ⟨?_, trivial⟩
    first | (refine zho ?_) | (refine zqy ?_; intro cap hcap)
    refine w_v kr ?_
    rotate_left
    all_goals ((repeat' (first | refine stp ?_ | (refine stq ?_ ?_ <;> (intro hc; ((try simp at hc) <;> try contradiction))) | fail)) <;> try (exfalso; omega))
    all_goals exact ⟨[(5, 7)], (j + 1, cap), ⟨by dsimp only; omega, by dsimp only; rw [e]; simpa using hcap⟩, w_4, ⟨w_1, by dsimp only; rw [e]; exact ⟨rfl, rfl, rfl, own_ints rfl, own_lit3 (by simp), trivial⟩, rfl⟩⟩
  ·obtain rfl : j = s := by omega
   ((repeat' (first | refine stx ?_ | (refine stq ?_ ?_ <;> (intro hc; ((try simp at hc) <;> try contradiction))) | fail)) <;> try (exfalso; omega))
   exact ⟨[], (i + 1, cq), ⟨by dsimp only; omega, by dsimp only; rw [← minAt_full]; exact hcq⟩, w_4, ⟨w_1, by dsimp only; rw [← minAt_full]; exact ⟨rfl, rfl, rfl, rfl, rfl, trivial⟩, rfl⟩⟩
 ·obtain rfl : i = s := by omega
  ((repeat' (first | refine stx ?_ | (refine stq ?_ ?_ <;> (intro hc; ((try simp at hc) <;> try contradiction))) | fail)) <;> try (exfalso; omega))
  exact fin rfl w_3 [(2, 5)] (.agg [.int n, .int n, .sl 2 1 0 (minM xs i 0 col i).length cp]) [(2, .own 3 cp (.ints (minM xs i 0 col i)))] 3 ⟨cp, hcp, rfl, rfl, rfl⟩ (by rw [← en]; rfl) ⟨trivial, ⟨rfl, trivial⟩, rfl⟩ rfl
def detV : Option Int → AV
  | some d => .tup [.one (.int d), .one (.bool true)]
  | none => .tup [.one (.int 0), .one (.bool false)]
def DetO (o : Option Int) (v : AV) (Hout : List (Nat × Blk)) (n1 : Nat) : Prop := Hout = [] ∧ n1 = 2 ∧ match o with
  | some d => v = .tup [.one (.int d), .one (.bool true)]
  | none => ∃ d, v = .tup [.one (.int d), .one (.bool false)]
set_option maxHeartbeats 2000000 in
theorem d_detI : ∀ (n : Nat) (xs : List Int) (m ca : Nat), n ≤ 24 → m = xs.length → xs.length = n * n → xs.all numB = true → Does Tryz.prog 89 [vM n n 1 m ca] [(1, .ro (.ints xs))] 2 (DetO (detZ n xs))
 | 0, xs, m, ca, _, hm, hx, hnum => by
  subst hm
  refine Does.intro TT Tryz.func89 rfl (by kernel_rfl) Zz Zz fun E hE => ?_
  ((repeat' (first | refine stx ?_ | (refine stq ?_ ?_ <;> (intro hc; ((try simp at hc) <;> try contradiction))) | fail)) <;> try (exfalso; omega))
  exact fin rfl w_3 [] (.tup [.one (.int 1), .one (.bool true)]) [] 2 ⟨rfl, rfl, rfl⟩ rfl ⟨trivial, trivial, rfl⟩ rfl
 | n + 1, xs, m, ca, hn, hm, hx, hnum => by
  subst hm
  have ih := fun j => d_detI n (minM xs (n + 1) 0 j (n + 1))
  have hdn : ∀ j v, (fun j => detZ n (minM xs (n + 1) 0 j (n + 1))) j = some v → numB v = true := fun j v h => detZ_num h
  have hZ := @detZ_none n xs
  have hdz : detZ (n + 1) xs = fitO (detTo xs (fun j => detZ n (minM xs (n + 1) 0 j (n + 1))) (n + 1)) := rfl
  have hl : xs.length ≤ 1099511627776 := by
   have h2 : (n + 1) * (n + 1) ≤ 24 * 24 := Nat.mul_le_mul hn hn
   omega
  generalize hD : (fun j => detZ n (minM xs (n + 1) 0 j (n + 1))) = D at *
  have hDj : ∀ j, detZ n (minM xs (n + 1) 0 j (n + 1)) = D j := fun j => by rw [← hD]
  refine Does.intro TT Tryz.func89 rfl (by kernel_rfl) Zz Zz fun E hE => ?_
  ((repeat' (first | refine stx ?_ | (refine stq ?_ ?_ <;> (intro hc; ((try simp at hc) <;> try contradiction))) | fail)) <;> try (exfalso; omega))
  refine w_G hE (fun p : Nat × Int => p.1 ≤ n + 1 ∧ detTo xs D p.1 = some p.2) (fun p => n + 1 - p.1)
   (fun p => [(1, .one (.ptr 2 3 0 0)), (4, vI p.2), (5, vI p.1)]) (fun _ => [(1, .ro (.ints xs)), (2, .own 26 1 (.lit [.int ((n + 1 : Nat) : Int), .int ((n + 1 : Nat) : Int), .sl 1 1 0 xs.length ca]))]) 3 [] (0, 0) ⟨Nat.zero_le _, rfl⟩ ⟨w_1, w_2, rfl⟩ ?_
  rintro ⟨j, s⟩ ⟨hj, hs⟩
  dsimp only at hj hs ⊢
  have hb := detTo_bd hnum hdn hs
  by_cases hjn : j < n + 1
  ·have hlt : j < xs.length := by rw [hx]; have : n + 1 ≤ (n + 1) * (n + 1) := Nat.le_mul_of_pos_left _ (by omega); omega
   have hat := d_at ((n + 1 : Nat) : Int) ((n + 1 : Nat) : Int) 0 j xs ca (by omega) (by omega) (by omega) hl
   have e0 : 0 + (0 * ((n + 1 : Nat) : Int) + j).toNat = j := by omega
   rw [e0] at hat
   have hc := num_getD hnum j
   have hnx : ∀ v, D j = some v → xs.getD j 0 ≠ 0 → detTo xs D (j + 1) = some (s + (if j % 2 = 1 then -(xs.getD j 0) else xs.getD j 0) * v) := fun v h1 h2 => by simp only [detTo, hs, h1]; rw [if_neg h2]
   have hn0 : xs.getD j 0 = 0 → detTo xs D (j + 1) = some s := fun h2 => by simp only [detTo, hs]; rw [if_pos h2]
   have hnn : D j = none → xs.getD j 0 ≠ 0 → detTo xs D (j + 1) = none := fun h1 h2 => by simp only [detTo, hs, h1]; rw [if_neg h2]
   obtain ⟨x, hxj⟩ : ∃ x, xs.getD j 0 = x := ⟨_, rfl⟩
   rw [hxj] at hat hc hnx hn0 hnn
   by_cases hx0 : x = 0
   ·subst hx0
    ((repeat' (first | refine stx ?_ | refine zqc (hat) ?_ | (refine stq ?_ ?_ <;> (intro hc; ((try simp at hc) <;> try contradiction))) | fail)) <;> try (exfalso; omega))
    exact ⟨[], (j + 1, s), ⟨hjn, hn0 rfl⟩, w_4, ⟨w_1, w_2, rfl⟩⟩
   ·have hm := d_minI n j xs ca xs.length rfl hn hjn hx hl
    have hmn := minM_num hnum (c := n + 1) (row := 0) (col := j) (i := n + 1)
    have hml := minM_len (xs := xs) hjn (i := n)
    have hdet := fun cp => ih j (minM xs (n + 1) 0 j (n + 1)).length cp (by omega) rfl hml hmn
    rw [hDj] at hdet
    generalize minM xs (n + 1) 0 j (n + 1) = ys at *
    cases hDv : D j with
    | none =>
     rw [hDv] at hdet
     have hz := hZ (by omega) (hnn hDv hx0)
     rw [hz]
     ((repeat' (first | refine stx ?_ | refine zqc (hat) ?_ | (refine w_C (hm) Zz Zz Zz Zz Zz Zz Zz ft Zz Zz (MinO.out) ?_; rintro v b ⟨cp, hcp, rfl, he, -⟩; cases he) | ((refine zqe (hdet _) ?_); rintro v Hout n1 ⟨rfl, rfl, d, rfl⟩) | (refine stq ?_ ?_ <;> (intro hc; ((try simp at hc) <;> try contradiction))) | fail)) <;> try (exfalso; omega))
     all_goals exact fin rfl w_3 [] (.tup [.one (.int 0), .one (.bool false)]) [] 2 ⟨rfl, rfl, 0, rfl⟩ rfl ⟨trivial, trivial, rfl⟩ rfl
    | some v =>
     rw [hDv] at hdet
     have hv := numB_true.1 (hdn j v hDv)
     have e := hnx v hDv hx0
     have hp1 := prod_num hc hv
     have htm : ((j : Int)).tmod 2 = ((j % 2 : Nat) : Int) := by rw [Int.tmod_eq_emod_of_nonneg (by omega)]; omega
     have hp2 := prod_num (a := -x) (by omega) hv
     ((repeat' (first | refine stx ?_ | refine zqc (hat) ?_ | (refine w_C (hm) Zz Zz Zz Zz Zz Zz Zz ft Zz Zz (MinO.out) ?_; rintro v b ⟨cp, hcp, rfl, he, -⟩; cases he) | ((refine zqe (hdet _) ?_); rintro v Hout n1 ⟨rfl, rfl, rfl⟩) | (refine stq ?_ ?_ <;> (intro hc; ((try simp at hc) <;> try contradiction))) | fail)) <;> try (exfalso; omega))
     ·have hodd : j % 2 = 1 := by omega
      rw [if_pos hodd] at e
      exact ⟨[], (j + 1, _), ⟨hjn, e⟩, w_4, ⟨w_1, w_2, rfl⟩⟩
     ·have hodd : ¬ j % 2 = 1 := by omega
      rw [if_neg hodd] at e
      exact ⟨[], (j + 1, _), ⟨hjn, e⟩, w_4, ⟨w_1, w_2, rfl⟩⟩
  ·obtain rfl : j = n + 1 := by omega
   rw [hdz, hs]
   cases hns : numB s
   all_goals ((repeat' (first | refine stx ?_ | (refine zqc (d_numI _) ?_ <;> simp only [hns]) | (refine stq ?_ ?_ <;> (intro hc; ((try simp at hc) <;> try contradiction))) | fail)) <;> try (exfalso; omega))
   ·exact fin rfl w_3 [] (.tup [.one (.int s), .one (.bool false)]) [] 2 ⟨rfl, rfl, by simp only [fitO, hns]; exact ⟨s, rfl⟩⟩ rfl ⟨trivial, trivial, rfl⟩ rfl
   ·exact fin rfl w_3 [] (.tup [.one (.int s), .one (.bool true)]) [] 2 ⟨rfl, rfl, by simp only [fitO, hns]; rfl⟩ rfl ⟨trivial, trivial, rfl⟩ rfl
def badV : Option Int → Int
  | some d => d
  | none => -4611686018427387904
set_option maxHeartbeats 2000000 in
theorem d_detS : ∀ (n : Nat) (xs : List Int) (m ca : Nat), n ≤ 24 → m = xs.length → xs.length = n * n → xs.all numB = true → Does Tryz.prog 100 [vM n n 1 m ca] [(1, .ro (.ints xs))] 2 (Ret (vI (badV (detZ n xs))) 2)
 | 0, xs, m, ca, _, hm, hx, hnum => by
  subst hm
  refine Does.intro TT Tryz.func100 rfl (by kernel_rfl) Zz Zz fun E hE => ?_
  ((repeat' (first | refine stx ?_ | (refine stq ?_ ?_ <;> (intro hc; ((try simp at hc) <;> try contradiction))) | fail)) <;> try (exfalso; omega))
  refine fin_ret rfl w_3 (rfl) rfl
 | n + 1, xs, m, ca, hn, hm, hx, hnum => by
  subst hm
  have ih := fun j => d_detS n (minM xs (n + 1) 0 j (n + 1))
  have hdn : ∀ j v, (fun j => detZ n (minM xs (n + 1) 0 j (n + 1))) j = some v → numB v = true := fun j v h => detZ_num h
  have hZ := @detZ_none n xs
  have hdz : detZ (n + 1) xs = fitO (detTo xs (fun j => detZ n (minM xs (n + 1) 0 j (n + 1))) (n + 1)) := rfl
  have hl : xs.length ≤ 1099511627776 := by
   have h2 : (n + 1) * (n + 1) ≤ 24 * 24 := Nat.mul_le_mul hn hn
   omega
  generalize hD : (fun j => detZ n (minM xs (n + 1) 0 j (n + 1))) = D at *
  have hDj : ∀ j, detZ n (minM xs (n + 1) 0 j (n + 1)) = D j := fun j => by rw [← hD]
  refine Does.intro TT Tryz.func100 rfl (by kernel_rfl) Zz Zz fun E hE => ?_
  ((repeat' (first | refine stx ?_ | (refine stq ?_ ?_ <;> (intro hc; ((try simp at hc) <;> try contradiction))) | fail)) <;> try (exfalso; omega))
  refine w_G hE (fun p : Nat × Int × Int => p.1 ≤ n + 1 ∧ detTo xs D p.1 = some p.2.1 ∧ p.2.2 = if p.1 % 2 = 1 then -1 else 1) (fun p => n + 1 - p.1)
   (fun p => [(1, .one (.ptr 2 3 0 0)), (3, vI p.2.1), (4, vI p.2.2), (5, vI p.1)]) (fun _ => [(1, .ro (.ints xs)), (2, .own 26 1 (.lit [.int ((n + 1 : Nat) : Int), .int ((n + 1 : Nat) : Int), .sl 1 1 0 xs.length ca]))]) 3 [] (0, 0, 1) ⟨Nat.zero_le _, rfl, rfl⟩ ⟨w_1, w_2, rfl⟩ ?_
  rintro ⟨j, s, g⟩ ⟨hj, hs, hg⟩
  dsimp only at hj hs hg ⊢
  have hb := detTo_bd hnum hdn hs
  have hg' : -g = if (j + 1) % 2 = 1 then -1 else 1 := by rw [hg]; split <;> split <;> omega
  have hgb : g = 1 ∨ g = -1 := by rw [hg]; split <;> omega
  by_cases hjn : j < n + 1
  ·have hlt : j < xs.length := by rw [hx]; have : n + 1 ≤ (n + 1) * (n + 1) := Nat.le_mul_of_pos_left _ (by omega); omega
   have e0 : 0 + (j : Int).toNat = j := by omega
   have hc := num_getD hnum j
   have hnx : ∀ v, D j = some v → xs.getD j 0 ≠ 0 → detTo xs D (j + 1) = some (s + g * xs.getD j 0 * v) := fun v h1 h2 => by
    simp only [detTo, hs, h1]; rw [if_neg h2, hg]
    congr 2
    split <;> simp
   have hn0 : xs.getD j 0 = 0 → detTo xs D (j + 1) = some s := fun h2 => by simp only [detTo, hs]; rw [if_pos h2]
   have hnn : D j = none → xs.getD j 0 ≠ 0 → detTo xs D (j + 1) = none := fun h1 h2 => by simp only [detTo, hs, h1]; rw [if_neg h2]
   rw [← e0] at hc hnx hn0 hnn
   by_cases hx0 : xs.getD (0 + (j : Int).toNat) 0 = 0
   ·((repeat' (first | refine stx ?_ | (refine stq ?_ ?_ <;> (intro hc; ((try simp at hc) <;> try contradiction))) | fail)) <;> try (exfalso; omega))
    all_goals first
     | (exfalso; simp at hx0; contradiction)
     | exact ⟨[], (j + 1, s, -g), ⟨hjn, by rw [← e0]; exact hn0 hx0, hg'⟩, w_4, ⟨w_1, w_2, rfl⟩⟩
   ·have hm := d_minS n j xs ca xs.length rfl hn hjn hx hl
    have hmn := minM_num hnum (c := n + 1) (row := 0) (col := j) (i := n + 1)
    have hml := minM_len (xs := xs) hjn (i := n)
    have hdet := fun cp => ih j (minM xs (n + 1) 0 j (n + 1)).length cp (by omega) rfl hml hmn
    rw [hDj] at hdet
    generalize minM xs (n + 1) 0 j (n + 1) = ys at *
    have hgx : -400000000 ≤ g * xs.getD (0 + (j : Int).toNat) 0 ∧ g * xs.getD (0 + (j : Int).toNat) 0 ≤ 400000000 := by rcases hgb with q | q <;> rw [q] <;> omega
    cases hDv : D j with
    | none =>
     rw [hDv] at hdet
     have hz := hZ (j := j + 1) (by omega) (by have q := hnn (by rw [e0]; exact hDv) hx0; rw [e0] at q; exact q)
     rw [hz]
     have hdet' : ∀ cp, Does Tryz.prog 100 [vM n n 1 ys.length cp] [(1, .ro (.ints ys))] 2 (Ret (vI (-4611686018427387904)) 2) := hdet
     ((repeat' (first | refine stx ?_ | (refine w_C (hm) Zz Zz Zz Zz Zz Zz Zz ft Zz Zz (MinO.out) ?_; rintro v b ⟨cp, hcp, rfl, he, -⟩; cases he) | refine zqc (hdet' _) ?_ | (refine stq ?_ ?_ <;> (intro hc; ((try simp at hc) <;> try contradiction))) | fail)) <;> try (exfalso; omega))
     all_goals first
      | (exfalso; simp at hx0; contradiction)
      | refine fin_ret rfl w_3 (rfl) rfl
    | some v =>
     rw [hDv] at hdet
     have hv := numB_true.1 (hdn j v hDv)
     have e := hnx v (by rw [e0]; exact hDv) hx0
     rw [e0] at e
     have hp1 := prod_num hgx hv
     have hdet' : ∀ cp, Does Tryz.prog 100 [vM n n 1 ys.length cp] [(1, .ro (.ints ys))] 2 (Ret (vI v) 2) := hdet
     rw [← e0] at e
     ((repeat' (first | refine stx ?_ | (refine w_C (hm) Zz Zz Zz Zz Zz Zz Zz ft Zz Zz (MinO.out) ?_; rintro v b ⟨cp, hcp, rfl, he, -⟩; cases he) | refine zqc (hdet' _) ?_ | (refine stq ?_ ?_ <;> (intro hc; ((try simp at hc) <;> try contradiction))) | fail)) <;> try (exfalso; omega))
     all_goals first
      | (exfalso; simp at hx0; contradiction)
      | exact ⟨[], (j + 1, _, -g), ⟨hjn, by rw [← e0]; exact e, hg'⟩, w_4, ⟨w_1, w_2, rfl⟩⟩
  ·obtain rfl : j = n + 1 := by omega
   rw [hdz, hs]
   cases hns : numB s
   ·((repeat' (first | refine stx ?_ | refine zqc (d_fitN _ hns) ?_ | (refine stq ?_ ?_ <;> (intro hc; ((try simp at hc) <;> try contradiction))) | fail)) <;> try (exfalso; omega))
    refine fin_ret rfl w_3 (congrArg vI (by simp only [fitO, hns]; rfl)) rfl
   ·((repeat' (first | refine stx ?_ | refine zqc (d_fitY _ hns) ?_ | (refine stq ?_ ?_ <;> (intro hc; ((try simp at hc) <;> try contradiction))) | fail)) <;> try (exfalso; omega))
    refine fin_ret rfl w_3 (congrArg vI (by simp only [fitO, hns]; rfl)) rfl
def sqB (r c : Int) (xs : List Int) : Bool := isM r c xs && decide (r = c ∧ r ≤ 6)
def detB (r c : Int) (xs : List Int) : Option Int := if sqB r c xs then detZ r.toNat xs else none
def unimB (r c : Int) (xs : List Int) : Bool := match detB r c xs with
  | some d => decide (d = 1 ∨ d = -1)
  | none => false
theorem sqB_dims {r c : Int} {xs : List Int} (h : sqB r c xs = true) : ∃ n : Nat, r = n ∧ c = n ∧ n ≤ 6 ∧ xs.length = n * n ∧ xs.all numB = true := by
  simp only [sqB, Bool.and_eq_true, decide_eq_true_eq] at h
  obtain ⟨h1, rfl, h3⟩ := h
  obtain ⟨⟨g1, g2, g3, g4, g5⟩, g6⟩ := isM_true h1
  obtain ⟨n, rfl⟩ := Int.eq_ofNat_of_zero_le g1
  exact ⟨n, rfl, rfl, by omega, by exact_mod_cast g5, g6⟩
theorem d_sqI (r c : Int) (xs : List Int) (ca : Nat) (hl : xs.length ≤ 1099511627776) : Does Tryz.prog 88 [vM r c 1 xs.length ca] [(1, .ro (.ints xs))] 2 (Ret (vB (sqB r c xs)) 2) := by
 refine Does.intro TT Tryz.func88 rfl (by kernel_rfl) Zz Zz fun E hE => ?_
 cases hm : isM r c xs
 all_goals ((repeat' (first | refine stx ?_ | (refine zqc (d_isMatI _ _ _ _ hl) ?_ <;> simp only [hm]) | (refine stq ?_ ?_ <;> (intro hc; ((try simp at hc) <;> try contradiction))) | fail)) <;> try (exfalso; omega))
 all_goals refine fin_ret rfl w_3 (congrArg vB (by rw [Bool.eq_iff_iff]; simp [sqB, hm]; try omega)) rfl
theorem d_sqS (r c : Int) (xs : List Int) (ca : Nat) (hl : xs.length ≤ 1099511627776) : Does Tryz.prog 99 [vM r c 1 xs.length ca] [(1, .ro (.ints xs))] 2 (Ret (vB (sqB r c xs)) 2) := by
 refine Does.intro TT Tryz.func99 rfl (by kernel_rfl) Zz Zz fun E hE => ?_
 cases hm : isM r c xs
 all_goals ((repeat' (first | refine stx ?_ | (refine zqc (d_isMatS _ _ _ _ hl) ?_ <;> simp only [hm]) | (refine stq ?_ ?_ <;> (intro hc; ((try simp at hc) <;> try contradiction))) | fail)) <;> try (exfalso; omega))
 all_goals refine fin_ret rfl w_3 (congrArg vB (by rw [Bool.eq_iff_iff]; simp [sqB, hm]; try omega)) rfl
set_option maxHeartbeats 1000000 in
theorem d_detOfI (r c : Int) (xs : List Int) (ca : Nat) (hl : xs.length ≤ 1099511627776) : Does Tryz.prog 42 [vM r c 1 xs.length ca] [(1, .ro (.ints xs))] 2 (Ret (detV (detB r c xs)) 2) := by
 refine Does.intro TT Tryz.func42 rfl (by kernel_rfl) Zz Zz fun E hE => ?_
 cases hs : sqB r c xs
 ·have : detB r c xs = none := by simp [detB, hs]
  rw [this]
  ((repeat' (first | refine stx ?_ | (refine zqc (d_sqI _ _ _ _ hl) ?_ <;> simp only [hs]) | (refine stq ?_ ?_ <;> (intro hc; ((try simp at hc) <;> try contradiction))) | fail)) <;> try (exfalso; omega))
  all_goals refine fin_ret rfl w_3 (rfl) rfl
 ·obtain ⟨n, rfl, rfl, hn, hx, hnum⟩ := sqB_dims hs
  have hb : detB n n xs = detZ n xs := by simp [detB, hs]
  have hd := d_detI n xs xs.length ca (by omega) rfl hx hnum
  rw [hb]
  cases ho : detZ n xs with
  | none =>
   rw [ho] at hd
   ((repeat' (first | refine stx ?_ | (refine zqc (d_sqI _ _ _ _ hl) ?_ <;> simp only [hs]) | ((refine zqe (hd) ?_); rintro v Hout n1 ⟨rfl, rfl, d, rfl⟩) | (refine stq ?_ ?_ <;> (intro hc; ((try simp at hc) <;> try contradiction))) | fail)) <;> try (exfalso; omega))
   all_goals refine fin_ret rfl w_3 (rfl) rfl
  | some d =>
   rw [ho] at hd
   ((repeat' (first | refine stx ?_ | (refine zqc (d_sqI _ _ _ _ hl) ?_ <;> simp only [hs]) | ((refine zqe (hd) ?_); rintro v Hout n1 ⟨rfl, rfl, rfl⟩) | (refine stq ?_ ?_ <;> (intro hc; ((try simp at hc) <;> try contradiction))) | fail)) <;> try (exfalso; omega))
   all_goals refine fin_ret rfl w_3 (rfl) rfl
set_option maxHeartbeats 1000000 in
theorem d_detOfS (r c : Int) (xs : List Int) (ca : Nat) (hl : xs.length ≤ 1099511627776) : Does Tryz.prog 47 [vM r c 1 xs.length ca] [(1, .ro (.ints xs))] 2 (Ret (detV (detB r c xs)) 2) := by
 refine Does.intro TT Tryz.func47 rfl (by kernel_rfl) Zz Zz fun E hE => ?_
 cases hs : sqB r c xs
 ·have : detB r c xs = none := by simp [detB, hs]
  rw [this]
  ((repeat' (first | refine stx ?_ | (refine zqc (d_sqS _ _ _ _ hl) ?_ <;> simp only [hs]) | (refine stq ?_ ?_ <;> (intro hc; ((try simp at hc) <;> try contradiction))) | fail)) <;> try (exfalso; omega))
  all_goals refine fin_ret rfl w_3 (rfl) rfl
 ·obtain ⟨n, rfl, rfl, hn, hx, hnum⟩ := sqB_dims hs
  have hb : detB n n xs = detZ n xs := by simp [detB, hs]
  have hd := d_detS n xs xs.length ca (by omega) rfl hx hnum
  rw [hb]
  cases ho : detZ n xs with
  | none =>
   rw [ho] at hd
   have hd' : Does Tryz.prog 100 [vM n n 1 xs.length ca] [(1, .ro (.ints xs))] 2 (Ret (vI (-4611686018427387904)) 2) := hd
   ((repeat' (first | refine stx ?_ | (refine zqc (d_sqS _ _ _ _ hl) ?_ <;> simp only [hs]) | refine zqc (hd') ?_ | (refine stq ?_ ?_ <;> (intro hc; ((try simp at hc) <;> try contradiction))) | fail)) <;> try (exfalso; omega))
   all_goals refine fin_ret rfl w_3 (rfl) rfl
  | some d =>
   rw [ho] at hd
   have hd' : Does Tryz.prog 100 [vM n n 1 xs.length ca] [(1, .ro (.ints xs))] 2 (Ret (vI d) 2) := hd
   have hdn := numB_true.1 (detZ_num ho)
   ((repeat' (first | refine stx ?_ | (refine zqc (d_sqS _ _ _ _ hl) ?_ <;> simp only [hs]) | refine zqc (hd') ?_ | (refine stq ?_ ?_ <;> (intro hc; ((try simp at hc) <;> try contradiction))) | fail)) <;> try (exfalso; omega))
   all_goals refine fin_ret rfl w_3 (rfl) rfl
theorem detB_num {r c : Int} {xs : List Int} {d : Int} (h : detB r c xs = some d) : -400000000 ≤ d ∧ d ≤ 400000000 := by
  unfold detB at h
  split at h
  · exact numB_true.1 (detZ_num h)
  · cases h
set_option maxHeartbeats 1000000 in
theorem d_unimI (r c : Int) (xs : List Int) (ca : Nat) (hl : xs.length ≤ 1099511627776) : Does Tryz.prog 49 [vM r c 1 xs.length ca] [(1, .ro (.ints xs))] 2 (Ret (vB (unimB r c xs)) 2) := by
 have hd := d_detOfI r c xs ca hl
 refine Does.intro TT Tryz.func49 rfl (by kernel_rfl) Zz Zz fun E hE => ?_
 cases ho : detB r c xs with
 | none =>
  rw [ho] at hd
  ((repeat' (first | refine stx ?_ | refine zqc (hd) ?_ | (refine stq ?_ ?_ <;> (intro hc; ((try simp at hc) <;> try contradiction))) | fail)) <;> try (exfalso; omega))
  all_goals refine fin_ret rfl w_3 (congrArg vB (by simp [unimB, ho])) rfl
 | some d =>
  rw [ho] at hd
  have hdn := detB_num ho
  ((repeat' (first | refine stx ?_ | refine zqc (hd) ?_ | (first | refine w_z (d_absInt _ (by omega) (by omega)) Zz Zz Zz Zz Zz Zz Zz Zz ft Zz Zz ?_ | refine w_A (d_absInt _ (by omega) (by omega)) Zz Zz Zz Zz Zz Zz Zz Zz ft Zz Zz ?_) | (refine stq ?_ ?_ <;> (intro hc; ((try simp at hc) <;> try contradiction))) | fail)) <;> try (exfalso; omega))
  all_goals refine fin_ret rfl w_3 (congrArg vB (by rw [Bool.eq_iff_iff]; simp [unimB, ho]; try omega)) rfl
set_option maxHeartbeats 1000000 in
theorem d_unimS (r c : Int) (xs : List Int) (ca : Nat) (hl : xs.length ≤ 1099511627776) : Does Tryz.prog 52 [vM r c 1 xs.length ca] [(1, .ro (.ints xs))] 2 (Ret (vB (unimB r c xs)) 2) := by
 have hd := d_detOfS r c xs ca hl
 refine Does.intro TT Tryz.func52 rfl (by kernel_rfl) Zz Zz fun E hE => ?_
 cases ho : detB r c xs with
 | none =>
  rw [ho] at hd
  ((repeat' (first | refine stx ?_ | refine zqc (hd) ?_ | (refine stq ?_ ?_ <;> (intro hc; ((try simp at hc) <;> try contradiction))) | fail)) <;> try (exfalso; omega))
  all_goals refine fin_ret rfl w_3 (congrArg vB (by simp [unimB, ho])) rfl
 | some d =>
  rw [ho] at hd
  have hdn := detB_num ho
  ((repeat' (first | refine stx ?_ | refine zqc (hd) ?_ | (first | refine w_z (d_l1Abs _ (by omega) (by omega)) Zz Zz Zz Zz Zz Zz Zz Zz ft Zz Zz ?_ | refine w_A (d_l1Abs _ (by omega) (by omega)) Zz Zz Zz Zz Zz Zz Zz Zz ft Zz Zz ?_) | (refine stq ?_ ?_ <;> (intro hc; ((try simp at hc) <;> try contradiction))) | fail)) <;> try (exfalso; omega))
  all_goals refine fin_ret rfl w_3 (congrArg vB (by rw [Bool.eq_iff_iff]; simp [unimB, ho]; try omega)) rfl
end Go.Proofs.YtekpamojojfplaaGreat
