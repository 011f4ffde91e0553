/-
  CONTRACTS: what the program's Smith form needs: operations on columns, the least cell.
-/
import Derived.Test.YtmkoifmokdmebaapSmith
import Derived.Test.YtmkoifmokdmebaabWork2
import Derived.Test.YtmkoifmokdmebaaAm12
import Derived.Test.YtmkoifmokdmebaaAm11
set_option linter.unusedVariables false
set_option linter.unusedSimpArgs false
namespace Go.Proofs.Ytmkoifmokdmebaa
open Go.RowKit

theorem isM_of {a b : Nat} {xs : List Int} (ha : a ≤ 24) (hb : b ≤ 24) (hx : xs.length = a * b) (hnum : xs.all numB = true) : isM a b xs = true := by
  simp only [isM, Bool.and_eq_true, decide_eq_true_eq]
  exact ⟨⟨by omega, by omega, by omega, by omega, by exact_mod_cast hx⟩, hnum⟩
theorem d_turnN (a b n ca : Nat) (xs : List Int) (hn : n = xs.length) (hx : xs.length = a * b) (ha : a ≤ 24) (hb : b ≤ 24) (hnum : xs.all numB = true) : Does Try.prog 98 [vM a b 1 n ca] [(1, .ro (.ints xs))] 2 (fun v Hout n1 => v = .tup [.agg [.int b, .int a, .sl 2 1 0 (b * a) (b * a)], .one (.bool true)] ∧ Hout = [(2, .own 3 (b * a) (.ints (turnM xs a b)))] ∧ n1 = 3) := by
  subst hn
  have hab : a * b ≤ 24 * 24 := Nat.mul_le_mul ha hb
  have h := d_turnI a b xs ca (by omega)
  have e : TurnZ a b 3 xs = fun v Hout n1 => v = .tup [.agg [.int b, .int a, .sl 2 1 0 (b * a) (b * a)], .one (.bool true)] ∧ Hout = [(2, .own 3 (b * a) (.ints (turnM xs a b)))] ∧ n1 = 3 := by
    funext v Hout n1
    unfold TurnZ
    rw [isM_of ha hb hx hnum]
    simp
  rwa [e] at h
theorem d_atN (a b i j n cap : Nat) (xs : List Int) (hn : n = xs.length) (hx : xs.length = a * b) (ha : a ≤ 24) (hb : b ≤ 24) (hi : i < a) (hj : j < b) : Does Try.prog 87 [vM a b 1 n cap, vI i, vI j] [(1, .ro (.ints xs))] 2 (Ret (vI (xs.getD (i * b + j) 0)) 2) := by
  subst hn
  have hcell := cell_facts hi hj ha hb
  have hab : a * b ≤ 24 * 24 := Nat.mul_le_mul ha hb
  have h := d_at a b i j xs cap (by omega) (by omega) (by omega) (by omega)
  rwa [cell_nat] at h
/-- the outcome of an operation on columns: new cells -/
def DidC (t tw : TypeId) (a b cx cu cv : Nat) (o : Option S3) (v : AV) (Hout : List (Nat × Blk)) (n1 : Nat) : Prop := v = .tup [] ∧ n1 = 8 ∧ match o with
  | some s => Hout = [(2, .own tw 1 (.lit (workL 6 4 7 a b (a * b) (a * b) cu (b * b) false))), (6, .own t (a * b) (.ints s.1)), (7, .own t (b * b) (.ints s.2.2))]
  | none => Hout = [(2, .own tw 1 (.lit (workL 6 4 7 a b (a * b) cx cu cv true)))]
theorem col3_if {r c i j : Nat} {q : Int} {s : S3} : col3 r c i j q s = if (addOK (turnM s.1 r c) r i j q r && addOK (turnM s.2.2 c c) c i j q c) = true then some (turnM (addX (turnM s.1 r c) r i j q) c r, s.2.1, turnM (addX (turnM s.2.2 c c) c i j q) c c) else none := by
  unfold col3 colOK
  simp only [Bool.and_eq_true]
set_option maxHeartbeats 4000000 in
theorem d_colsAdd (a b i j cx cu cv : Nat) (q : Int) (s : S3) (hs : OK3 a b s) (ha : a ≤ 24) (hb : b ≤ 24) (hi : i < b) (hj : j < b) (hij : i ≠ j) (hq : numB q = true) :
    Does Try.prog 167 [vW, vO 2 i j q] [(2, .own 111 1 (.lit (workL 3 4 5 a b (a * b) cx cu cv false))), (3, .ro (.ints s.1)), (5, .ro (.ints s.2.2))] 6 (DidC 3 111 a b cx cu cv (col3 a b i j q s)) := by
  obtain ⟨h1, h2, h3, h4, h5, h6⟩ := hs
  refine Does.intro TT Try.func167 rfl (by kernel_rfl) rfl rfl fun E hE => ?_
  have g0 := d_isOpI 2 i j q b hb ⟨by omega, by omega⟩ ⟨by omega, by omega⟩ hq (.inr (.inr ⟨rfl, by omega⟩))
  have t1 := d_turnN a b (a * b) cx s.1 h1.symm h1 ha hb h4
  have t2 := d_turnN b b (b * b) cv s.2.2 h3.symm h3 hb hb h6
  have l1 : (turnM s.1 a b).length = b * a := turnM_len
  have l2 : (turnM s.2.2 b b).length = b * b := turnM_len
  have g1 := d_addI b a i j (b * a) (b * a) (b * a) q (turnM s.1 a b) l1.symm l1 (by omega) hb ha hi hj hij (trX_num h4) hq
  have g2 := d_addI b b i j (b * b) (b * b) (b * b) q (turnM s.2.2 b b) l2.symm l2 (by omega) hb hb hi hj hij (trX_num h6) hq
  unfold AddR at g1 g2
  rw [col3_if]
  cases k1 : addOK (turnM s.1 a b) a i j q a
  · rw [k1] at g1
    rw [if_neg (fun h => by cases h)]
    ((repeat' (first | (refine awpL_step TT rfl rfl rfl sd ?_) | (refine awpL_nil ?_) | (refine awpL_skip rfl rfl ?_) | (refine awpQ_step TT rfl rfl rfl rfl sd ?_) | (refine awpQ_nil ?_) | (refine awpQ_skip rfl rfl ?_) | (refine awp_seq ?_) | (refine awp_region ?_) | (first | refine awpL_ret (g0) rfl rfl rfl rfl rfl rfl rfl rfl ft rfl rfl ?_ | refine awpQ_ret (g0) rfl rfl rfl rfl rfl rfl rfl rfl ft rfl rfl ?_ | refine awpHop_ret _ (g0) rfl rfl rfl rfl rfl rfl rfl rfl rfl ft rfl rfl sb rfl ?_) | ((refine awpL_call (t1) rfl rfl rfl rfl rfl rfl rfl ft rfl ?_); rintro v Hout n1 ⟨rfl, rfl, rfl⟩) | ((refine awpL_call (t2) rfl rfl rfl rfl rfl rfl rfl ft rfl ?_); rintro v Hout n1 ⟨rfl, rfl, rfl⟩) | ((refine awpL_call (g1) rfl rfl rfl rfl rfl rfl rfl ft rfl ?_); rintro v Hout n1 ⟨ys, hy1, hy2, rfl, rfl, rfl⟩) | ((refine awpL_call (g2) rfl rfl rfl rfl rfl rfl rfl ft rfl ?_); rintro v Hout n1 ⟨zs, hz1, hz2, rfl, rfl, rfl⟩) | (refine awp_block ?_) | (refine awp_exit ?_) | (refine awp_skip ?_) | (refine awp_ret ?_) | (refine awp_cond_t rfl ?_) | (refine awp_cond_f rfl ?_) | (refine awp_quiet TM rfl (by kernel_rfl) ?_) | ((first | refine awpL_split rfl rfl rfl (fun hc => ?_) (fun hc => ?_) | refine awpQ_split rfl rfl rfl (fun hc => ?_) (fun hc => ?_) | refine awp_cond rfl (fun hc => ?_) (fun hc => ?_)) <;> ((try simp at hc) <;> try contradiction)))) <;> try (exfalso; omega))
    all_goals exact fin_n rfl (by repeat' (first | exact trivial | exact Nat.zero_lt_one | omega | refine ⟨?_, ?_⟩)) [(6, 3), (7, 5)] (.tup []) [(2, .own 111 1 (.lit (workL 6 4 7 a b (a * b) cx cu cv true)))] 8 ⟨rfl, rfl, rfl⟩ rfl ⟨trivial, ⟨rfl, trivial⟩, rfl⟩ rfl
  · rw [k1] at g1
    cases k2 : addOK (turnM s.2.2 b b) b i j q b
    · rw [k2] at g2
      rw [if_neg (fun h => by cases h)]
      ((repeat' (first | (refine awpL_step TT rfl rfl rfl sd ?_) | (refine awpL_nil ?_) | (refine awpL_skip rfl rfl ?_) | (refine awpQ_step TT rfl rfl rfl rfl sd ?_) | (refine awpQ_nil ?_) | (refine awpQ_skip rfl rfl ?_) | (refine awp_seq ?_) | (refine awp_region ?_) | (first | refine awpL_ret (g0) rfl rfl rfl rfl rfl rfl rfl rfl ft rfl rfl ?_ | refine awpQ_ret (g0) rfl rfl rfl rfl rfl rfl rfl rfl ft rfl rfl ?_ | refine awpHop_ret _ (g0) rfl rfl rfl rfl rfl rfl rfl rfl rfl ft rfl rfl sb rfl ?_) | ((refine awpL_call (t1) rfl rfl rfl rfl rfl rfl rfl ft rfl ?_); rintro v Hout n1 ⟨rfl, rfl, rfl⟩) | ((refine awpL_call (t2) rfl rfl rfl rfl rfl rfl rfl ft rfl ?_); rintro v Hout n1 ⟨rfl, rfl, rfl⟩) | ((refine awpL_call (g1) rfl rfl rfl rfl rfl rfl rfl ft rfl ?_); rintro v Hout n1 ⟨ys, hy1, hy2, rfl, rfl, rfl⟩) | ((refine awpL_call (g2) rfl rfl rfl rfl rfl rfl rfl ft rfl ?_); rintro v Hout n1 ⟨zs, hz1, hz2, rfl, rfl, rfl⟩) | (refine awp_block ?_) | (refine awp_exit ?_) | (refine awp_skip ?_) | (refine awp_ret ?_) | (refine awp_cond_t rfl ?_) | (refine awp_cond_f rfl ?_) | (refine awp_quiet TM rfl (by kernel_rfl) ?_) | ((first | refine awpL_split rfl rfl rfl (fun hc => ?_) (fun hc => ?_) | refine awpQ_split rfl rfl rfl (fun hc => ?_) (fun hc => ?_) | refine awp_cond rfl (fun hc => ?_) (fun hc => ?_)) <;> ((try simp at hc) <;> try contradiction)))) <;> try (exfalso; omega))
      all_goals exact fin_n rfl (by repeat' (first | exact trivial | exact Nat.zero_lt_one | omega | refine ⟨?_, ?_⟩)) [(6, 3), (7, 5)] (.tup []) [(2, .own 111 1 (.lit (workL 6 4 7 a b (a * b) cx cu cv true)))] 8 ⟨rfl, rfl, rfl⟩ rfl ⟨trivial, ⟨rfl, trivial⟩, rfl⟩ rfl
    · rw [k2] at g2
      rw [if_pos (show (true && true) = true from rfl)]
      have m1 := addX_num (trX_num h4) k1
      have m2 := addX_num (trX_num h6) k2
      have e1 := (addX_len (xs := turnM s.1 a b) (c := a) (i := i) (j := j) (q := q)).trans l1
      have e2 := (addX_len (xs := turnM s.2.2 b b) (c := b) (i := i) (j := j) (q := q)).trans l2
      have t3 := d_turnN b a (b * a) (b * a) _ e1.symm e1 hb ha m1
      have t4 := d_turnN b b (b * b) (b * b) _ e2.symm e2 hb hb m2
      have y1 : ∀ ys : List Int, ys.length = (turnM s.1 a b).length → (true = true → ys = addX (turnM s.1 a b) a i j q) → ys = addX (turnM s.1 a b) a i j q := fun _ _ h => h rfl
      have y2 : ∀ ys : List Int, ys.length = (turnM s.2.2 b b).length → (true = true → ys = addX (turnM s.2.2 b b) b i j q) → ys = addX (turnM s.2.2 b b) b i j q := fun _ _ h => h rfl
      ((repeat' (first | (refine awpL_step TT rfl rfl rfl sd ?_) | (refine awpL_nil ?_) | (refine awpL_skip rfl rfl ?_) | (refine awpQ_step TT rfl rfl rfl rfl sd ?_) | (refine awpQ_nil ?_) | (refine awpQ_skip rfl rfl ?_) | (refine awp_seq ?_) | (refine awp_region ?_) | (first | refine awpL_ret (g0) rfl rfl rfl rfl rfl rfl rfl rfl ft rfl rfl ?_ | refine awpQ_ret (g0) rfl rfl rfl rfl rfl rfl rfl rfl ft rfl rfl ?_ | refine awpHop_ret _ (g0) rfl rfl rfl rfl rfl rfl rfl rfl rfl ft rfl rfl sb rfl ?_) | ((refine awpL_call (t1) rfl rfl rfl rfl rfl rfl rfl ft rfl ?_); rintro v Hout n1 ⟨rfl, rfl, rfl⟩) | ((refine awpL_call (t2) rfl rfl rfl rfl rfl rfl rfl ft rfl ?_); rintro v Hout n1 ⟨rfl, rfl, rfl⟩) | ((refine awpL_call (g1) rfl rfl rfl rfl rfl rfl rfl ft rfl ?_); rintro v Hout n1 ⟨ys, hy1, hy2, rfl, rfl, rfl⟩; obtain rfl := y1 _ hy1 hy2) | ((refine awpL_call (g2) rfl rfl rfl rfl rfl rfl rfl ft rfl ?_); rintro v Hout n1 ⟨zs, hz1, hz2, rfl, rfl, rfl⟩; obtain rfl := y2 _ hz1 hz2) | ((refine awpL_call (t3) rfl rfl rfl rfl rfl rfl rfl ft rfl ?_); rintro v Hout n1 ⟨rfl, rfl, rfl⟩) | ((refine awpL_call (t4) rfl rfl rfl rfl rfl rfl rfl ft rfl ?_); rintro v Hout n1 ⟨rfl, rfl, rfl⟩) | (refine awp_block ?_) | (refine awp_exit ?_) | (refine awp_skip ?_) | (refine awp_ret ?_) | (refine awp_cond_t rfl ?_) | (refine awp_cond_f rfl ?_) | (refine awp_quiet TM rfl (by kernel_rfl) ?_) | ((first | refine awpL_split rfl rfl rfl (fun hc => ?_) (fun hc => ?_) | refine awpQ_split rfl rfl rfl (fun hc => ?_) (fun hc => ?_) | refine awp_cond rfl (fun hc => ?_) (fun hc => ?_)) <;> ((try simp at hc) <;> try contradiction)))) <;> try (exfalso; omega))
      all_goals exact fin_n rfl (by repeat' (first | exact trivial | exact Nat.zero_lt_one | omega | refine ⟨?_, ?_⟩)) [(6, 11), (7, 12)] (.tup []) [(2, .own 111 1 (.lit (workL 6 4 7 a b (a * b) (a * b) cu (b * b) false))), (6, .own 3 (a * b) (.ints (turnM (addX (turnM s.1 a b) a i j q) b a))), (7, .own 3 (b * b) (.ints (turnM (addX (turnM s.2.2 b b) b i j q) b b)))] 8 ⟨rfl, rfl, rfl⟩ rfl ⟨trivial, ⟨rfl, rfl, rfl, trivial⟩, rfl⟩ rfl
set_option maxHeartbeats 4000000 in
theorem d_colsSwap (a b i j cx cu cv : Nat) (s : S3) (hs : OK3 a b s) (ha : a ≤ 24) (hb : b ≤ 24) (hi : i < b) (hj : j < b) (hij : i ≠ j) :
    Does Try.prog 167 [vW, vO 0 i j 0] [(2, .own 111 1 (.lit (workL 3 4 5 a b (a * b) cx cu cv false))), (3, .ro (.ints s.1)), (5, .ro (.ints s.2.2))] 6 (DidC 3 111 a b cx cu cv (some (swC a b i j s))) := by
  obtain ⟨h1, h2, h3, h4, h5, h6⟩ := hs
  refine Does.intro TT Try.func167 rfl (by kernel_rfl) rfl rfl fun E hE => ?_
  have g0 := d_isOpI 0 i j 0 b hb ⟨by omega, by omega⟩ ⟨by omega, by omega⟩ (by decide) (.inl ⟨rfl, by omega, rfl⟩)
  have t1 := d_turnN a b (a * b) cx s.1 h1.symm h1 ha hb h4
  have t2 := d_turnN b b (b * b) cv s.2.2 h3.symm h3 hb hb h6
  have l1 : (turnM s.1 a b).length = b * a := turnM_len
  have l2 : (turnM s.2.2 b b).length = b * b := turnM_len
  have g1 := d_swapI b a i j (b * a) (b * a) (b * a) (turnM s.1 a b) l1.symm l1 (by omega) hb ha hi hj hij
  have g2 := d_swapI b b i j (b * b) (b * b) (b * b) (turnM s.2.2 b b) l2.symm l2 (by omega) hb hb hi hj hij
  have e1 := (swapTo_len (xs := turnM s.1 a b) (o1 := i * a) (o2 := j * a) (k := a)).trans l1
  have e2 := (swapTo_len (xs := turnM s.2.2 b b) (o1 := i * b) (o2 := j * b) (k := b)).trans l2
  have t3 := d_turnN b a (b * a) (b * a) _ e1.symm e1 hb ha (swapTo_num (trX_num h4))
  have t4 := d_turnN b b (b * b) (b * b) _ e2.symm e2 hb hb (swapTo_num (trX_num h6))
  have hsw : swC a b i j s = (turnM (swapTo (turnM s.1 a b) (i * a) (j * a) a) b a, s.2.1, turnM (swapTo (turnM s.2.2 b b) (i * b) (j * b) b) b b) := if_neg hij
  rw [hsw]
  ((repeat' (first | (refine awpL_step TT rfl rfl rfl sd ?_) | (refine awpL_nil ?_) | (refine awpL_skip rfl rfl ?_) | (refine awpQ_step TT rfl rfl rfl rfl sd ?_) | (refine awpQ_nil ?_) | (refine awpQ_skip rfl rfl ?_) | (refine awp_seq ?_) | (refine awp_region ?_) | (first | refine awpL_ret (g0) rfl rfl rfl rfl rfl rfl rfl rfl ft rfl rfl ?_ | refine awpQ_ret (g0) rfl rfl rfl rfl rfl rfl rfl rfl ft rfl rfl ?_ | refine awpHop_ret _ (g0) rfl rfl rfl rfl rfl rfl rfl rfl rfl ft rfl rfl sb rfl ?_) | ((refine awpL_call (t1) rfl rfl rfl rfl rfl rfl rfl ft rfl ?_); rintro v Hout n1 ⟨rfl, rfl, rfl⟩) | ((refine awpL_call (t2) rfl rfl rfl rfl rfl rfl rfl ft rfl ?_); rintro v Hout n1 ⟨rfl, rfl, rfl⟩) | ((refine awpL_call (g1) rfl rfl rfl rfl rfl rfl rfl ft rfl ?_); rintro v Hout n1 ⟨rfl, rfl, rfl⟩) | ((refine awpL_call (g2) rfl rfl rfl rfl rfl rfl rfl ft rfl ?_); rintro v Hout n1 ⟨rfl, rfl, rfl⟩) | ((refine awpL_call (t3) rfl rfl rfl rfl rfl rfl rfl ft rfl ?_); rintro v Hout n1 ⟨rfl, rfl, rfl⟩) | ((refine awpL_call (t4) rfl rfl rfl rfl rfl rfl rfl ft rfl ?_); rintro v Hout n1 ⟨rfl, rfl, rfl⟩) | (refine awp_block ?_) | (refine awp_exit ?_) | (refine awp_skip ?_) | (refine awp_ret ?_) | (refine awp_cond_t rfl ?_) | (refine awp_cond_f rfl ?_) | (refine awp_quiet TM rfl (by kernel_rfl) ?_) | ((first | refine awpL_split rfl rfl rfl (fun hc => ?_) (fun hc => ?_) | refine awpQ_split rfl rfl rfl (fun hc => ?_) (fun hc => ?_) | refine awp_cond rfl (fun hc => ?_) (fun hc => ?_)) <;> ((try simp at hc) <;> try contradiction)))) <;> try (exfalso; omega))
  all_goals exact fin_n rfl (by repeat' (first | exact trivial | exact Nat.zero_lt_one | omega | refine ⟨?_, ?_⟩)) [(6, 11), (7, 12)] (.tup []) [(2, .own 111 1 (.lit (workL 6 4 7 a b (a * b) (a * b) cu (b * b) false))), (6, .own 3 (a * b) (.ints (turnM (swapTo (turnM s.1 a b) (i * a) (j * a) a) b a))), (7, .own 3 (b * b) (.ints (turnM (swapTo (turnM s.2.2 b b) (i * b) (j * b) b) b b)))] 8 ⟨rfl, rfl, rfl⟩ rfl ⟨trivial, ⟨rfl, rfl, rfl, trivial⟩, rfl⟩ rfl
/-- an optional place as the programs tell it -/
def pA : Option (Nat × Nat) → Int
  | none => -1
  | some p => p.1
def pB : Option (Nat × Nat) → Int
  | none => -1
  | some p => p.2
theorem lpR_in {xs : List Int} {r c t n m : Nat} {p : Nat × Nat} (hn : t + n < r) (hm : t + m ≤ c) (h : lpR xs c t (t + n) (lpTo xs c t (c - t) n) m = some p) : p.1 < r ∧ p.2 < c := by
  have := LP.row (LP.to (xs := xs) (c := c) (t := t) (w := c - t) n) (i := t + n) (m := m) (fun _ => by
    rcases Nat.eq_zero_or_pos n with h | h
    · exact .inr (by omega)
    · rcases Nat.eq_zero_or_pos m with h0 | h0
      · rcases Nat.lt_or_ge t c with h1 | h1
        · exact .inl ⟨⟨by omega, by omega⟩, by omega, by omega⟩
        · exfalso
          rename_i hh
          subst h0
          have e : c - t = 0 := by omega
          have h9 : ∀ n, lpTo xs c t 0 n = none := fun n => by
            induction n with
            | zero => rfl
            | succ n ih => rw [lpTo, ih]; rfl
          rw [e, h9] at hh
          simp_all [lpR]
      · exact .inl ⟨⟨by omega, by omega⟩, by omega, by omega⟩)
  rw [h] at this
  have := this.1
  omega
end Go.Proofs.Ytmkoifmokdmebaa
