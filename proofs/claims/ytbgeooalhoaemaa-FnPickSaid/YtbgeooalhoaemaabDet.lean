/-
  CONTRACTS: determinants by expansion, of both packages; the plain law of it.
-/
import Derived.Test.YtbgeooalhoaemaabMat
import Derived.Test.YtbgeooalhoaemaaAm8
set_option linter.unusedVariables false
set_option linter.unusedSimpArgs false
namespace Go.Proofs.Ytbgeooalhoaemaa
open Go.RowKit

theorem gcdOf_num {a b : Int} (ha : numB a = true) (hb : numB b = true) : gcdOf a b = (Int.gcd a b : Int) := by simp [gcdOf, ha, hb]
theorem d_fitY (n : Int) (h : numB n = true) : Does Try.prog 108 [vI n] [] 1 (Ret (vI n) 1) := by
  refine Does.intro TT Try.func108 rfl (by kernel_rfl) rfl rfl fun E hE => ?_
  have h' : inB n (-400000000) 400000000 = true := h
  (repeat' (first | (refine awpL_step TT rfl rfl rfl sd ?_) | (refine awpL_nil ?_) | (refine awpL_skip rfl rfl ?_) | (refine awpQ_step TT rfl rfl rfl rfl sd ?_) | (refine awpQ_nil ?_) | (refine awpQ_skip rfl rfl ?_) | (refine awp_seq ?_) | (refine awp_region ?_) | ((first | refine awpL_ret (d_l1In _ _ _) rfl rfl rfl rfl rfl rfl rfl rfl ft rfl rfl ?_ | refine awpQ_ret (d_l1In _ _ _) rfl rfl rfl rfl rfl rfl rfl rfl ft rfl rfl ?_ | refine awpHop_ret _ (d_l1In _ _ _) rfl rfl rfl rfl rfl rfl rfl rfl rfl ft rfl rfl sb rfl ?_) <;> simp only [h']) | (refine awp_block ?_) | (refine awp_exit ?_) | (refine awp_skip ?_) | (refine awp_ret ?_) | (refine awp_cond_t rfl ?_) | (refine awp_cond_f rfl ?_) | (refine awp_quiet TM rfl (by kernel_rfl) ?_) | ((first | refine awpL_split rfl rfl rfl (fun hc => ?_) (fun hc => ?_) | refine awpQ_split rfl rfl rfl (fun hc => ?_) (fun hc => ?_) | refine awp_cond rfl (fun hc => ?_) (fun hc => ?_)) <;> ((try simp at hc) <;> try contradiction))))
  refine fin_ret rfl (by repeat' (first | exact trivial | exact Nat.zero_lt_one | omega | refine ⟨?_, ?_⟩)) (rfl) rfl
theorem d_fitE (n z : Int) (e : n = z) (h : numB z = true) : Does Try.prog 108 [vI n] [] 1 (Ret (vI z) 1) := by
  subst e; exact d_fitY n h
theorem d_fitN (n : Int) (h : numB n = false) : Does Try.prog 108 [vI n] [] 1 (Ret (vI (-4611686018427387904)) 1) := by
  refine Does.intro TT Try.func108 rfl (by kernel_rfl) rfl rfl fun E hE => ?_
  have h' : inB n (-400000000) 400000000 = false := h
  (repeat' (first | (refine awpL_step TT rfl rfl rfl sd ?_) | (refine awpL_nil ?_) | (refine awpL_skip rfl rfl ?_) | (refine awpQ_step TT rfl rfl rfl rfl sd ?_) | (refine awpQ_nil ?_) | (refine awpQ_skip rfl rfl ?_) | (refine awp_seq ?_) | (refine awp_region ?_) | ((first | refine awpL_ret (d_l1In _ _ _) rfl rfl rfl rfl rfl rfl rfl rfl ft rfl rfl ?_ | refine awpQ_ret (d_l1In _ _ _) rfl rfl rfl rfl rfl rfl rfl rfl ft rfl rfl ?_ | refine awpHop_ret _ (d_l1In _ _ _) rfl rfl rfl rfl rfl rfl rfl rfl rfl ft rfl rfl sb rfl ?_) <;> simp only [h']) | (refine awp_block ?_) | (refine awp_exit ?_) | (refine awp_skip ?_) | (refine awp_ret ?_) | (refine awp_cond_t rfl ?_) | (refine awp_cond_f rfl ?_) | (refine awp_quiet TM rfl (by kernel_rfl) ?_) | ((first | refine awpL_split rfl rfl rfl (fun hc => ?_) (fun hc => ?_) | refine awpQ_split rfl rfl rfl (fun hc => ?_) (fun hc => ?_) | refine awp_cond rfl (fun hc => ?_) (fun hc => ?_)) <;> ((try simp at hc) <;> try contradiction))))
  refine fin_ret rfl (by repeat' (first | exact trivial | exact Nat.zero_lt_one | omega | refine ⟨?_, ?_⟩)) (rfl) rfl

def minRow (xs : List Int) (off col : Nat) : Nat → List Int
  | 0 => []
  | j + 1 => if j = col then minRow xs off col j else minRow xs off col j ++ [xs.getD (off + j) 0]
def minM (xs : List Int) (c row col : Nat) : Nat → List Int
  | 0 => []
  | i + 1 => if i = row then minM xs c row col i else minM xs c row col i ++ minRow xs (i * c) col c
theorem minRow_len {xs : List Int} {off col : Nat} : ∀ {j : Nat}, (minRow xs off col j).length = if col < j then j - 1 else j
  | 0 => by simp [minRow]
  | j + 1 => by
    have ih := minRow_len (xs := xs) (off := off) (col := col) (j := j)
    unfold minRow
    split
    · rename_i h
      subst h
      rw [ih, if_neg (by omega), if_pos (by omega)]; omega
    · rw [List.length_append, ih, List.length_singleton]
      split <;> split <;> omega
theorem minM_len {xs : List Int} {n col : Nat} (hc : col < n + 1) : ∀ {i : Nat}, (minM xs (n + 1) 0 col (i + 1)).length = i * n
  | 0 => by simp [minM]
  | i + 1 => by
    rw [minM, if_neg (by omega), List.length_append, minM_len hc, minRow_len, if_pos hc, Nat.succ_mul]; omega
theorem minRow_num {xs : List Int} (h : xs.all numB = true) {off col : Nat} : ∀ {j : Nat}, (minRow xs off col j).all numB = true
  | 0 => rfl
  | j + 1 => by
    unfold minRow
    split
    · exact minRow_num h
    · rw [List.all_append, minRow_num h, List.all_cons, numB_true.2 (num_getD h (off + j))]; rfl
theorem minM_num {xs : List Int} (h : xs.all numB = true) {c row col : Nat} : ∀ {i : Nat}, (minM xs c row col i).all numB = true
  | 0 => rfl
  | i + 1 => by
    unfold minM
    split
    · exact minM_num h
    · rw [List.all_append, minM_num h, minRow_num h]; rfl
/-- the sum over the first j cells of the first row; d: the determinants without row 0 and a column -/
def detTo (xs : List Int) (d : Nat → Option Int) : Nat → Option Int
  | 0 => some 0
  | j + 1 => match detTo xs d j with
    | none => none
    | some s => if xs.getD j 0 = 0 then some s else match d j with
      | none => none
      | some v => some (s + (if j % 2 = 1 then -(xs.getD j 0) else xs.getD j 0) * v)
def fitO (o : Option Int) : Option Int := match o with
  | none => none
  | some s => if numB s then some s else none
def detZ : Nat → List Int → Option Int
  | 0, _ => some 1
  | n + 1, xs => fitO (detTo xs (fun j => detZ n (minM xs (n + 1) 0 j (n + 1))) (n + 1))
theorem detZ_num {n : Nat} {xs : List Int} {v : Int} (h : detZ n xs = some v) : numB v = true := by
  cases n with
  | zero => cases h; rfl
  | succ n =>
    rw [detZ] at h
    unfold fitO at h
    split at h
    · cases h
    · split at h
      · rename_i hn; cases h; exact hn
      · cases h
theorem detTo_bd {xs : List Int} {d : Nat → Option Int} (hx : xs.all numB = true) (hd : ∀ j v, d j = some v → numB v = true) : ∀ {j : Nat} {s : Int}, detTo xs d j = some s → -(160000000000000000 * (j : Int)) ≤ s ∧ s ≤ 160000000000000000 * (j : Int)
  | 0, s, h => by cases h; omega
  | j + 1, s, h => by
    unfold detTo at h
    split at h
    · cases h
    · rename_i s0 h0
      have ih := detTo_bd hx hd h0
      split at h
      · cases h; omega
      · split at h
        · cases h
        · rename_i v hv
          cases h
          have h1 := numB_true.1 (hd j v hv)
          have h2 := num_getD hx j
          have h3 : -400000000 ≤ (if j % 2 = 1 then -(xs.getD j 0) else xs.getD j 0) ∧ (if j % 2 = 1 then -(xs.getD j 0) else xs.getD j 0) ≤ 400000000 := by split <;> omega
          have h4 := prod_num h3 h1
          omega
theorem detTo_none {xs : List Int} {d : Nat → Option Int} {j : Nat} (h : detTo xs d j = none) : ∀ m, detTo xs d (j + m) = none
  | 0 => h
  | m + 1 => by rw [← Nat.add_assoc, detTo, detTo_none h m]
theorem detZ_none {n : Nat} {xs : List Int} {j : Nat} (hj : j ≤ n + 1) (h : detTo xs (fun j => detZ n (minM xs (n + 1) 0 j (n + 1))) j = none) : detZ (n + 1) xs = none := by
  have := detTo_none h (n + 1 - j)
  rw [show j + (n + 1 - j) = n + 1 by omega] at this
  rw [detZ, this]; rfl

def MinO (t : TypeId) (n : Nat) (ys : List Int) (v : AV) (Hout : List (Nat × Blk)) (n1 : Nat) : Prop := ∃ cap, ys.length ≤ cap ∧ v = .agg [.int n, .int n, .sl 2 1 0 ys.length cap] ∧ Hout = [(2, .own t cap (.ints ys))] ∧ n1 = 3
theorem MinO.out {t : TypeId} {n : Nat} {ys : List Int} : ∀ v Hout n1, MinO t n ys v Hout n1 → ∃ b, Hout = [(2, b)] ∧ n1 = 2 + 1 ∧ b.keys = [] := fun _ _ _ ⟨_, _, _, h2, h3⟩ => ⟨_, h2, h3, by simp [Blk.keys, Elts.keys, Elts.all, ints_keys]⟩
def minAt (xs : List Int) (c row col i j : Nat) : List Int := if i = row then minM xs c row col i else minM xs c row col i ++ minRow xs (i * c) col j
theorem minAt_zero {xs : List Int} {c row col i : Nat} : minAt xs c row col i 0 = minM xs c row col i := by unfold minAt; split <;> simp [minRow]
theorem minAt_full {xs : List Int} {c row col i : Nat} : minAt xs c row col i c = minM xs c row col (i + 1) := by rw [minAt, minM]
theorem minAt_skip {xs : List Int} {c row col i j : Nat} (h : i = row ∨ j = col) : minAt xs c row col i (j + 1) = minAt xs c row col i j := by
  unfold minAt
  split
  · rfl
  · rw [minRow, if_pos (by omega)]
theorem minAt_add {xs : List Int} {c row col i j : Nat} (h : i ≠ row) (h' : j ≠ col) : minAt xs c row col i (j + 1) = minAt xs c row col i j ++ [xs.getD (i * c + j) 0] := by
  unfold minAt
  rw [if_neg h, if_neg h, minRow, if_neg h', List.append_assoc]
theorem minRow_le {xs : List Int} {off col : Nat} : ∀ {j : Nat}, (minRow xs off col j).length ≤ j := fun {j} => by rw [minRow_len]; split <;> omega
theorem minM_le {xs : List Int} {c row col : Nat} : ∀ {i : Nat}, (minM xs c row col i).length ≤ i * c
  | 0 => by simp [minM]
  | i + 1 => by
    have h1 := minM_le (xs := xs) (c := c) (row := row) (col := col) (i := i)
    have h2 := minRow_le (xs := xs) (off := i * c) (col := col) (j := c)
    rw [minM, Nat.succ_mul]
    split
    · omega
    · rw [List.length_append]; omega
theorem minAt_le {xs : List Int} {c row col i j : Nat} (hi : i < 24) (hc : c ≤ 24) (hj : j ≤ c) : (minAt xs c row col i j).length ≤ 1000 := by
  have h1 := minM_le (xs := xs) (c := c) (row := row) (col := col) (i := i)
  have h2 := minRow_le (xs := xs) (off := i * c) (col := col) (j := j)
  have h3 : i * c ≤ 24 * 24 := Nat.mul_le_mul (by omega) hc
  unfold minAt
  split
  · omega
  · rw [List.length_append]; omega
theorem cell_natD {p k c : Nat} : 0 + ((p : Int) * c + k).toNat = p * c + k := by
  have e : ((p : Int) * c + k) = ((p * c + k : Nat) : Int) := by simp
  rw [e]; omega
theorem sl_eqD {k sz off a b cap : Nat} {m : Nat → Nat} (h : a = b) : some (AV.one (.sl (m k) sz off a cap)) = some ((AV.one (.sl k sz off b cap)).ren m) := by subst h; rfl
theorem own_lit3 {t : TypeId} {c : Nat} {x y : Int} {k a b cp : Nat} {m : Nat → Nat} (h : a = b) : some (Blk.own t c (.lit [.int x, .int y, .sl (m k) 1 0 a cp])) = some ((Blk.own t c (.lit [.int x, .int y, .sl k 1 0 b cp])).ren m) := by subst h; rfl

def detV : Option Int → AV
  | some d => .tup [.one (.int d), .one (.bool true)]
  | none => .tup [.one (.int 0), .one (.bool false)]
/-- what the program's expansion hands back: beyond the limit the number is told, too -/
def DetO (o : Option Int) (v : AV) (Hout : List (Nat × Blk)) (n1 : Nat) : Prop := Hout = [] ∧ n1 = 2 ∧ match o with
  | some d => v = .tup [.one (.int d), .one (.bool true)]
  | none => ∃ d, v = .tup [.one (.int d), .one (.bool false)]
def badV : Option Int → Int
  | some d => d
  | none => -4611686018427387904

def sqB (r c : Int) (xs : List Int) : Bool := isM r c xs && decide (r = c ∧ r ≤ 6)
def detB (r c : Int) (xs : List Int) : Option Int := if sqB r c xs then detZ r.toNat xs else none
def unimB (r c : Int) (xs : List Int) : Bool := match detB r c xs with
  | some d => decide (d = 1 ∨ d = -1)
  | none => false
theorem sqB_dims {r c : Int} {xs : List Int} (h : sqB r c xs = true) : ∃ n : Nat, r = n ∧ c = n ∧ n ≤ 6 ∧ xs.length = n * n ∧ xs.all numB = true := by
  simp only [sqB, Bool.and_eq_true, decide_eq_true_eq] at h
  obtain ⟨h1, rfl, h3⟩ := h
  obtain ⟨⟨g1, g2, g3, g4, g5⟩, g6⟩ := isM_true h1
  obtain ⟨n, rfl⟩ := Int.eq_ofNat_of_zero_le g1
  exact ⟨n, rfl, rfl, by omega, by exact_mod_cast g5, g6⟩
theorem detB_num {r c : Int} {xs : List Int} {d : Int} (h : detB r c xs = some d) : -400000000 ≤ d ∧ d ≤ 400000000 := by
  unfold detB at h
  split at h
  · exact numB_true.1 (detZ_num h)
  · cases h
end Go.Proofs.Ytbgeooalhoaemaa
