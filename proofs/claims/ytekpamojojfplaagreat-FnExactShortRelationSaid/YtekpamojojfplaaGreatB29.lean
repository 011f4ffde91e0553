/-
  TEXTS OF THE PROOF, put together: bSmA, bRoot, bShI.
-/
import Derived.Test.YtekpamojojfplaaGreatB24
import Derived.Test.YtekpamojojfplaaGreatB16
import Derived.Test.YtekpamojojfplaaGreatB28
import Derived.Test.YtekpamojojfplaaGreatB07
import Derived.Test.YtekpamojojfplaaGreatB26
import Derived.Test.YtekpamojojfplaaGreatB18
import Derived.Test.YtekpamojojfplaaGreatB10
import Derived.Test.YtekpamojojfplaaGreatB27
set_option linter.unusedVariables false
set_option linter.unusedSimpArgs false
namespace Go.Proofs.YtekpamojojfplaaGreat
open Go.RowKit
theorem isM_of {a b : Nat} {xs : List Int} (ha : a ≤ 24) (hb : b ≤ 24) (hx : xs.length = a * b) (hnum : xs.all numB = true) : isM a b xs = true := by
  simp only [isM, Bool.and_eq_true, decide_eq_true_eq]
  exact ⟨⟨by omega, by omega, by omega, by omega, by exact_mod_cast hx⟩, hnum⟩
theorem d_turnN (a b n ca : Nat) (xs : List Int) (hn : n = xs.length) (hx : xs.length = a * b) (ha : a ≤ 24) (hb : b ≤ 24) (hnum : xs.all numB = true) : Does Tryz.prog 61 [vM a b 1 n ca] [(1, .ro (.ints xs))] 2 (fun v Hout n1 => v = .tup [.agg [.int b, .int a, .sl 2 1 0 (b * a) (b * a)], .one (.bool true)] ∧ Hout = [(2, .own 3 (b * a) (.ints (turnM xs a b)))] ∧ n1 = 3) := by
  subst hn
  have hab : a * b ≤ 24 * 24 := Nat.mul_le_mul ha hb
  have h := d_turnI a b xs ca (by omega)
  have e : TurnZ a b 3 xs = fun v Hout n1 => v = .tup [.agg [.int b, .int a, .sl 2 1 0 (b * a) (b * a)], .one (.bool true)] ∧ Hout = [(2, .own 3 (b * a) (.ints (turnM xs a b)))] ∧ n1 = 3 := by
    funext v Hout n1
    unfold TurnZ
    rw [isM_of ha hb hx hnum]
    simp
  rwa [e] at h
theorem d_atN (a b i j n cap : Nat) (xs : List Int) (hn : n = xs.length) (hx : xs.length = a * b) (ha : a ≤ 24) (hb : b ≤ 24) (hi : i < a) (hj : j < b) : Does Tryz.prog 55 [vM a b 1 n cap, vI i, vI j] [(1, .ro (.ints xs))] 2 (Ret (vI (xs.getD (i * b + j) 0)) 2) := by
  subst hn
  have hcell := cell_facts hi hj ha hb
  have hab : a * b ≤ 24 * 24 := Nat.mul_le_mul ha hb
  have h := d_at a b i j xs cap (by omega) (by omega) (by omega) (by omega)
  rwa [cell_nat] at h
def DidC (t tw : TypeId) (a b cx cu cv : Nat) (o : Option S3) (v : AV) (Hout : List (Nat × Blk)) (n1 : Nat) : Prop := v = .tup [] ∧ n1 = 8 ∧ match o with
  | some s => Hout = [(2, .own tw 1 (.lit (workL 6 4 7 a b (a * b) (a * b) cu (b * b) false))), (6, .own t (a * b) (.ints s.1)), (7, .own t (b * b) (.ints s.2.2))]
  | none => Hout = [(2, .own tw 1 (.lit (workL 6 4 7 a b (a * b) cx cu cv true)))]
theorem col3_if {r c i j : Nat} {q : Int} {s : S3} : col3 r c i j q s = if (addOK (turnM s.1 r c) r i j q r && addOK (turnM s.2.2 c c) c i j q c) = true then some (turnM (addX (turnM s.1 r c) r i j q) c r, s.2.1, turnM (addX (turnM s.2.2 c c) c i j q) c c) else none := by
  unfold col3 colOK
  simp only [Bool.and_eq_true]
set_option maxHeartbeats 4000000 in
theorem d_colsAdd (a b i j cx cu cv : Nat) (q : Int) (s : S3) (hs : OK3 a b s) (ha : a ≤ 24) (hb : b ≤ 24) (hi : i < b) (hj : j < b) (hij : i ≠ j) (hq : numB q = true) :
    Does Tryz.prog 220 [vW, vO 2 i j q] [(2, .own 137 1 (.lit (workL 3 4 5 a b (a * b) cx cu cv false))), (3, .ro (.ints s.1)), (5, .ro (.ints s.2.2))] 6 (DidC 3 137 a b cx cu cv (col3 a b i j q s)) := by
  obtain ⟨h1, h2, h3, h4, h5, h6⟩ := hs
  refine Does.intro TT Tryz.func220 rfl (by kernel_rfl) Zz Zz fun E hE => ?_
  have g0 := d_isOpI 2 i j q b hb ⟨by omega, by omega⟩ ⟨by omega, by omega⟩ hq (.inr (.inr ⟨rfl, by omega⟩))
  have t1 := d_turnN a b (a * b) cx s.1 h1.symm h1 ha hb h4
  have t2 := d_turnN b b (b * b) cv s.2.2 h3.symm h3 hb hb h6
  have l1 : (turnM s.1 a b).length = b * a := turnM_len
  have l2 : (turnM s.2.2 b b).length = b * b := turnM_len
  have g1 := d_addI b a i j (b * a) (b * a) (b * a) q (turnM s.1 a b) l1.symm l1 (by omega) hb ha hi hj hij (trX_num h4) hq
  have g2 := d_addI b b i j (b * b) (b * b) (b * b) q (turnM s.2.2 b b) l2.symm l2 (by omega) hb hb hi hj hij (trX_num h6) hq
  unfold AddR at g1 g2
  rw [col3_if]
  cases k1 : addOK (turnM s.1 a b) a i j q a
  · rw [k1] at g1
    rw [if_neg (fun h => by cases h)]
    ((repeat' (first | refine stx ?_ | refine zqc (g0) ?_ | ((refine zqe (t1) ?_); rintro v Hout n1 ⟨rfl, rfl, rfl⟩) | ((refine zqe (t2) ?_); rintro v Hout n1 ⟨rfl, rfl, rfl⟩) | ((refine zqe (g1) ?_); rintro v Hout n1 ⟨ys, hy1, hy2, rfl, rfl, rfl⟩) | ((refine zqe (g2) ?_); rintro v Hout n1 ⟨zs, hz1, hz2, rfl, rfl, rfl⟩) | (refine stq ?_ ?_ <;> (intro hc; ((try simp at hc) <;> try contradiction))) | fail)) <;> try (exfalso; omega))
    all_goals exact fin_n rfl w_3 [(6, 3), (7, 5)] (.tup []) [(2, .own 137 1 (.lit (workL 6 4 7 a b (a * b) cx cu cv true)))] 8 ⟨rfl, rfl, rfl⟩ rfl ⟨trivial, ⟨rfl, trivial⟩, rfl⟩ rfl
  · rw [k1] at g1
    cases k2 : addOK (turnM s.2.2 b b) b i j q b
    · rw [k2] at g2
      rw [if_neg (fun h => by cases h)]
      ((repeat' (first | refine stx ?_ | refine zqc (g0) ?_ | ((refine zqe (t1) ?_); rintro v Hout n1 ⟨rfl, rfl, rfl⟩) | ((refine zqe (t2) ?_); rintro v Hout n1 ⟨rfl, rfl, rfl⟩) | ((refine zqe (g1) ?_); rintro v Hout n1 ⟨ys, hy1, hy2, rfl, rfl, rfl⟩) | ((refine zqe (g2) ?_); rintro v Hout n1 ⟨zs, hz1, hz2, rfl, rfl, rfl⟩) | (refine stq ?_ ?_ <;> (intro hc; ((try simp at hc) <;> try contradiction))) | fail)) <;> try (exfalso; omega))
      all_goals exact fin_n rfl w_3 [(6, 3), (7, 5)] (.tup []) [(2, .own 137 1 (.lit (workL 6 4 7 a b (a * b) cx cu cv true)))] 8 ⟨rfl, rfl, rfl⟩ rfl ⟨trivial, ⟨rfl, trivial⟩, rfl⟩ rfl
    · rw [k2] at g2
      rw [if_pos (show (true && true) = true from rfl)]
      have m1 := addX_num (trX_num h4) k1
      have m2 := addX_num (trX_num h6) k2
      have e1 := (addX_len (xs := turnM s.1 a b) (c := a) (i := i) (j := j) (q := q)).trans l1
      have e2 := (addX_len (xs := turnM s.2.2 b b) (c := b) (i := i) (j := j) (q := q)).trans l2
      have t3 := d_turnN b a (b * a) (b * a) _ e1.symm e1 hb ha m1
      have t4 := d_turnN b b (b * b) (b * b) _ e2.symm e2 hb hb m2
      have y1 : ∀ ys : List Int, ys.length = (turnM s.1 a b).length → (true = true → ys = addX (turnM s.1 a b) a i j q) → ys = addX (turnM s.1 a b) a i j q := fun _ _ h => h rfl
      have y2 : ∀ ys : List Int, ys.length = (turnM s.2.2 b b).length → (true = true → ys = addX (turnM s.2.2 b b) b i j q) → ys = addX (turnM s.2.2 b b) b i j q := fun _ _ h => h rfl
      ((repeat' (first | refine stx ?_ | refine zqc (g0) ?_ | ((refine zqe (t1) ?_); rintro v Hout n1 ⟨rfl, rfl, rfl⟩) | ((refine zqe (t2) ?_); rintro v Hout n1 ⟨rfl, rfl, rfl⟩) | ((refine zqe (g1) ?_); rintro v Hout n1 ⟨ys, hy1, hy2, rfl, rfl, rfl⟩; obtain rfl := y1 _ hy1 hy2) | ((refine zqe (g2) ?_); rintro v Hout n1 ⟨zs, hz1, hz2, rfl, rfl, rfl⟩; obtain rfl := y2 _ hz1 hz2) | ((refine zqe (t3) ?_); rintro v Hout n1 ⟨rfl, rfl, rfl⟩) | ((refine zqe (t4) ?_); rintro v Hout n1 ⟨rfl, rfl, rfl⟩) | (refine stq ?_ ?_ <;> (intro hc; ((try simp at hc) <;> try contradiction))) | fail)) <;> try (exfalso; omega))
      all_goals exact fin_n rfl w_3 [(6, 11), (7, 12)] (.tup []) [(2, .own 137 1 (.lit (workL 6 4 7 a b (a * b) (a * b) cu (b * b) false))), (6, .own 3 (a * b) (.ints (turnM (addX (turnM s.1 a b) a i j q) b a))), (7, .own 3 (b * b) (.ints (turnM (addX (turnM s.2.2 b b) b i j q) b b)))] 8 ⟨rfl, rfl, rfl⟩ rfl ⟨trivial, ⟨rfl, rfl, rfl, trivial⟩, rfl⟩ rfl
set_option maxHeartbeats 4000000 in
theorem d_colsSwap (a b i j cx cu cv : Nat) (s : S3) (hs : OK3 a b s) (ha : a ≤ 24) (hb : b ≤ 24) (hi : i < b) (hj : j < b) (hij : i ≠ j) :
    Does Tryz.prog 220 [vW, vO 0 i j 0] [(2, .own 137 1 (.lit (workL 3 4 5 a b (a * b) cx cu cv false))), (3, .ro (.ints s.1)), (5, .ro (.ints s.2.2))] 6 (DidC 3 137 a b cx cu cv (some (swC a b i j s))) := by
  obtain ⟨h1, h2, h3, h4, h5, h6⟩ := hs
  refine Does.intro TT Tryz.func220 rfl (by kernel_rfl) Zz Zz fun E hE => ?_
  have g0 := d_isOpI 0 i j 0 b hb ⟨by omega, by omega⟩ ⟨by omega, by omega⟩ (by decide) (.inl ⟨rfl, by omega, rfl⟩)
  have t1 := d_turnN a b (a * b) cx s.1 h1.symm h1 ha hb h4
  have t2 := d_turnN b b (b * b) cv s.2.2 h3.symm h3 hb hb h6
  have l1 : (turnM s.1 a b).length = b * a := turnM_len
  have l2 : (turnM s.2.2 b b).length = b * b := turnM_len
  have g1 := d_swapI b a i j (b * a) (b * a) (b * a) (turnM s.1 a b) l1.symm l1 (by omega) hb ha hi hj hij
  have g2 := d_swapI b b i j (b * b) (b * b) (b * b) (turnM s.2.2 b b) l2.symm l2 (by omega) hb hb hi hj hij
  have e1 := (swapTo_len (xs := turnM s.1 a b) (o1 := i * a) (o2 := j * a) (k := a)).trans l1
  have e2 := (swapTo_len (xs := turnM s.2.2 b b) (o1 := i * b) (o2 := j * b) (k := b)).trans l2
  have t3 := d_turnN b a (b * a) (b * a) _ e1.symm e1 hb ha (swapTo_num (trX_num h4))
  have t4 := d_turnN b b (b * b) (b * b) _ e2.symm e2 hb hb (swapTo_num (trX_num h6))
  have hsw : swC a b i j s = (turnM (swapTo (turnM s.1 a b) (i * a) (j * a) a) b a, s.2.1, turnM (swapTo (turnM s.2.2 b b) (i * b) (j * b) b) b b) := if_neg hij
  rw [hsw]
  ((repeat' (first | refine stx ?_ | refine zqc (g0) ?_ | ((refine zqe (t1) ?_); rintro v Hout n1 ⟨rfl, rfl, rfl⟩) | ((refine zqe (t2) ?_); rintro v Hout n1 ⟨rfl, rfl, rfl⟩) | ((refine zqe (g1) ?_); rintro v Hout n1 ⟨rfl, rfl, rfl⟩) | ((refine zqe (g2) ?_); rintro v Hout n1 ⟨rfl, rfl, rfl⟩) | ((refine zqe (t3) ?_); rintro v Hout n1 ⟨rfl, rfl, rfl⟩) | ((refine zqe (t4) ?_); rintro v Hout n1 ⟨rfl, rfl, rfl⟩) | (refine stq ?_ ?_ <;> (intro hc; ((try simp at hc) <;> try contradiction))) | fail)) <;> try (exfalso; omega))
  all_goals exact fin_n rfl w_3 [(6, 11), (7, 12)] (.tup []) [(2, .own 137 1 (.lit (workL 6 4 7 a b (a * b) (a * b) cu (b * b) false))), (6, .own 3 (a * b) (.ints (turnM (swapTo (turnM s.1 a b) (i * a) (j * a) a) b a))), (7, .own 3 (b * b) (.ints (turnM (swapTo (turnM s.2.2 b b) (i * b) (j * b) b) b b)))] 8 ⟨rfl, rfl, rfl⟩ rfl ⟨trivial, ⟨rfl, rfl, rfl, trivial⟩, rfl⟩ rfl
def pA : Option (Nat × Nat) → Int
  | none => -1
  | some p => p.1
def pB : Option (Nat × Nat) → Int
  | none => -1
  | some p => p.2
end Go.Proofs.YtekpamojojfplaaGreat
namespace Go.Proofs.YtekpamojojfplaaGreat
open Go.RowKit
def LsB (t : TypeId) (zs : List Int) (ok : Bool) (k : Nat) (v : AV) (Hout : List (Nat × Blk)) (n1 : Nat) : Prop := ∃ cap, zs.length ≤ cap ∧ v = .tup [.one (.sl k 1 0 zs.length cap), .one (.bool ok)] ∧ Hout = [(k, .own t cap (.ints zs))] ∧ n1 = k + 1
def LsO (t : TypeId) (o : Option (List Int)) (k : Nat) (v : AV) (Hout : List (Nat × Blk)) (n1 : Nat) : Prop := match o with
  | none => LsB t [] false k v Hout n1
  | some zs => LsB t zs true k v Hout n1
theorem rt_bd {r : Nat} {n : Int} (h : (r : Int) ≤ 400000000) : 0 ≤ ((r : Int) + 1) * ((r : Int) + 1) ∧ ((r : Int) + 1) * ((r : Int) + 1) ≤ 160000001000000000 := by
  have h1 := Int.mul_le_mul_of_nonneg_left (show (r : Int) + 1 ≤ 400000001 by omega) (show (0 : Int) ≤ (r : Int) + 1 by omega)
  have h2 := Int.mul_nonneg (show (0 : Int) ≤ (r : Int) + 1 by omega) (show (0 : Int) ≤ (r : Int) + 1 by omega)
  omega
theorem d_rootI (n : Int) (hn : n ≤ 400000000) : Does Tryz.prog 137 [vI n] [] 1 (Ret (vI ((rootN n : Nat) : Int)) 1) := by
 refine Does.intro TT Tryz.func137 rfl (by kernel_rfl) Zz Zz fun E hE => ?_
 ((repeat' (first | refine stx ?_ | (refine stq ?_ ?_ <;> (intro hc; ((try simp at hc) <;> try contradiction))) | fail)) <;> try (exfalso; omega))
 refine w_G hE (fun r : Nat => r ≤ n.toNat ∧ rtTo n (n.toNat - r) r = rootN n) (fun r => n.toNat - r)
  (fun r => [(0, vI n), (3, vI r)]) (fun _ => []) 1 [] 0 ⟨Nat.zero_le _, rfl⟩ ⟨w_1, w_2, rfl⟩ ?_
 rintro r ⟨hr, hrt⟩
 have hb := rt_bd (r := r) (n := n) (by omega)
 by_cases h : ((r : Int) + 1) * ((r : Int) + 1) ≤ n
 ·have h1 := rt_in h
  have h2 := rt_next h
  have h3 : ¬ n < ((r : Int) + 1) * ((r : Int) + 1) := by omega
  ((repeat' (first | refine stx ?_ | (refine stq ?_ ?_ <;> (intro hc; ((try simp at hc) <;> try contradiction))) | fail)) <;> try (exfalso; omega))
  all_goals exact ⟨[], r + 1, ⟨by omega, by rw [← h2]; exact hrt⟩, by dsimp only; omega, ⟨w_1, w_2, rfl⟩⟩
 ·have h3 : n < ((r : Int) + 1) * ((r : Int) + 1) := by omega
  rw [← hrt, rt_stop h]
  ((repeat' (first | refine stx ?_ | (refine stq ?_ ?_ <;> (intro hc; ((try simp at hc) <;> try contradiction))) | fail)) <;> try (exfalso; omega))
  all_goals refine fin_ret rfl w_3 (rfl) rfl
theorem d_rootS (n : Int) (hn : n ≤ 400000000) : Does Tryz.prog 201 [vI n] [] 1 (Ret (vI ((rootN n : Nat) : Int)) 1) := by
 refine Does.intro TT Tryz.func201 rfl (by kernel_rfl) Zz Zz fun E hE => ?_
 ((repeat' (first | refine stx ?_ | (refine stq ?_ ?_ <;> (intro hc; ((try simp at hc) <;> try contradiction))) | fail)) <;> try (exfalso; omega))
 refine w_G hE (fun r : Nat => r ≤ n.toNat ∧ rtTo n (n.toNat - r) r = rootN n) (fun r => n.toNat - r)
  (fun r => [(0, vI n), (3, vI r)]) (fun _ => []) 1 [] 0 ⟨Nat.zero_le _, rfl⟩ ⟨w_1, w_2, rfl⟩ ?_
 rintro r ⟨hr, hrt⟩
 have hb := rt_bd (r := r) (n := n) (by omega)
 by_cases h : ((r : Int) + 1) * ((r : Int) + 1) ≤ n
 ·have h1 := rt_in h
  have h2 := rt_next h
  have h3 : ¬ n < ((r : Int) + 1) * ((r : Int) + 1) := by omega
  ((repeat' (first | refine stx ?_ | (refine stq ?_ ?_ <;> (intro hc; ((try simp at hc) <;> try contradiction))) | fail)) <;> try (exfalso; omega))
  all_goals exact ⟨[], r + 1, ⟨by omega, by rw [← h2]; exact hrt⟩, by dsimp only; omega, ⟨w_1, w_2, rfl⟩⟩
 ·have h3 : n < ((r : Int) + 1) * ((r : Int) + 1) := by omega
  rw [← hrt, rt_stop h]
  ((repeat' (first | refine stx ?_ | (refine stq ?_ ?_ <;> (intro hc; ((try simp at hc) <;> try contradiction))) | fail)) <;> try (exfalso; omega))
  all_goals refine fin_ret rfl w_3 (rfl) rfl
theorem boxG_no {r c : Int} {g : List Int} {b : Int} (h : adjZ r c g = none ∨ defB r c g = false ∨ inB b 0 10000 = false) : boxG r c g b = none := by
  unfold boxG
  rcases h with h | h | h
  · rw [h]; rfl
  · cases adjZ r c g <;> simp [h]
  · cases adjZ r c g <;> simp [h]
theorem adjZ_some {n : Nat} {g a : List Int} (h : adjZ n n g = some a) : a.length = n * n ∧ a.all numB = true := by
  unfold adjZ at h
  split at h
  · rename_i hc
    rw [Bool.and_eq_true, Int.toNat_natCast] at hc
    rw [Int.toNat_natCast] at h
    cases h
    exact ⟨turnM_len, trX_num hc.2⟩
  · cases h
theorem tdiv_bdR {x d : Int} (hx : -400000000 ≤ x ∧ x ≤ 400000000) : -400000000 ≤ x.tdiv d ∧ x.tdiv d ≤ 400000000 := by
  have := Int.natAbs_tdiv_le_natAbs x d
  omega
set_option maxRecDepth 100000 in
set_option maxHeartbeats 4000000 in
theorem d_boxOI (r c : Int) (g : List Int) (b : Int) (ca : Nat) (hl : g.length ≤ 1099511627776) (hca : g.length ≤ ca) : Does Tryz.prog 91 [vM r c 1 g.length ca, vI b] [(1, .ro (.ints g))] 2 (LsO 3 (boxG r c g b) 2) := by
 refine Does.intro TT Tryz.func91 rfl (by kernel_rfl) Zz Zz fun E hE => ?_
 have hadj := d_adjI r c g ca hl
 have hdet := d_detOfI r c g ca hl
 have hdef := d_defI r c g ca hl hca
 cases ha : adjZ r c g with
 | none =>
  rw [ha] at hadj
  rw [boxG_no (.inl ha)]
  cases hd : detB r c g
  all_goals rw [hd] at hdet
  all_goals ((repeat' (first | refine stx ?_ | ((refine zqe (hadj) ?_); rintro v Hout n1 ⟨rfl, rfl, rfl⟩) | refine zqc (hdet) ?_ | (refine stq ?_ ?_ <;> (intro hc; ((try simp at hc) <;> try contradiction))) | fail)) <;> try (exfalso; omega))
  all_goals exact fin rfl w_3 [(2, 4)] (.tup [.one (.sl 2 1 0 0 0), .one (.bool false)]) [(2, .own 3 0 (.ints []))] 3 ⟨0, Nat.zero_le _, rfl, rfl, rfl⟩ rfl ⟨trivial, ⟨rfl, trivial⟩, rfl⟩ rfl
 | some a =>
  rw [ha] at hadj
  cases hD : defB r c g with
  | false =>
   rw [hD] at hdef
   rw [boxG_no (.inr (.inl hD))]
   cases hd : detB r c g
   all_goals rw [hd] at hdet
   all_goals ((repeat' (first | refine stx ?_ | ((refine zqe (hadj) ?_); rintro v Hout n1 ⟨c1, hc1, rfl, rfl, rfl⟩) | refine zqc (hdet) ?_ | refine zqc (hdef) ?_ | (refine stq ?_ ?_ <;> (intro hc; ((try simp at hc) <;> try contradiction))) | fail)) <;> try (exfalso; omega))
   all_goals exact fin rfl w_3 [(2, 5)] (.tup [.one (.sl 2 1 0 0 0), .one (.bool false)]) [(2, .own 3 0 (.ints []))] 3 ⟨0, Nat.zero_le _, rfl, rfl, rfl⟩ rfl ⟨trivial, ⟨rfl, trivial⟩, rfl⟩ rfl
  | true =>
   rw [hD] at hdef
   obtain ⟨d, hd, hd0⟩ := defB_det hD
   rw [hd] at hdet
   cases hb : inB b 0 10000 with
   | false =>
    rw [boxG_no (.inr (.inr hb))]
    have hbb : b < 0 ∨ 10000 < b := by
     rcases Int.lt_or_le b 0 with h | h
     ·exact .inl h
     ·rcases Int.lt_or_le 10000 b with h' | h'
      ·exact .inr h'
      ·rw [inB_true.2 ⟨h, h'⟩] at hb; cases hb
    ((repeat' (first | refine stx ?_ | ((refine zqe (hadj) ?_); rintro v Hout n1 ⟨c1, hc1, rfl, rfl, rfl⟩) | refine zqc (hdet) ?_ | refine zqc (hdef) ?_ | (refine stq ?_ ?_ <;> (intro hc; ((try simp at hc) <;> try contradiction))) | fail)) <;> try (exfalso; omega))
    all_goals exact fin rfl w_3 [(2, 5)] (.tup [.one (.sl 2 1 0 0 0), .one (.bool false)]) [(2, .own 3 0 (.ints []))] 3 ⟨0, Nat.zero_le _, rfl, rfl, rfl⟩ rfl ⟨trivial, ⟨rfl, trivial⟩, rfl⟩ rfl
   | true =>
    have hbb := inB_true.1 hb
    obtain ⟨n, rfl, rfl, hn, hx, hnum, -, -, -⟩ := defB_all hD
    obtain ⟨ax, an⟩ := adjZ_some ha
    have hG : boxG n n g b = bxTo a n b d n := by rw [boxG, ha, Option.bind_some, hD, hb, hd]; simp
    rw [hG]
    have hb1 : ¬ b < 0 := by omega
    have hb2 : ¬ 10000 < b := by omega
    have hnn : n * n ≤ 36 := Nat.mul_le_mul hn hn
    ((repeat' (first | refine stx ?_ | ((refine zqe (hadj) ?_); rintro v Hout n1 ⟨c1, hc1, rfl, rfl, rfl⟩) | refine zqc (hdet) ?_ | refine zqc (hdef) ?_ | (refine stq ?_ ?_ <;> (intro hc; ((try simp at hc) <;> try contradiction))) | fail)) <;> try (exfalso; omega))
    refine w_G hE (fun x : Nat × List Int × Nat => x.1 ≤ n ∧ bxTo a n b d x.1 = some x.2.1 ∧ x.2.1.length ≤ x.2.2) (fun x => n - x.1)
     (fun x => [(1, vI b), (2, .one (.ptr 2 3 0 0)), (6, .one (.ptr 4 3 0 0)), (8, vI d), (10, .one (.sl 5 1 0 x.2.1.length x.2.2)), (11, vI x.1)])
     (fun x => [(1, .ro (.ints g)), (2, .own 26 1 (.lit [.int n, .int n, .sl 1 1 0 g.length ca])), (3, .own 3 c1 (.ints a)), (4, .own 26 1 (.lit [.int n, .int n, .sl 3 1 0 a.length c1])), (5, .own 3 x.2.2 (.ints x.2.1))]) 6 [] (0, [], 0) ⟨Nat.zero_le _, rfl, Nat.le_refl _⟩ ⟨w_1, w_2, rfl⟩ ?_
    rintro ⟨i, l, cl⟩ ⟨hi, hT, hcl⟩
    dsimp only at hi hT hcl ⊢
    have hll := bxTo_len hT
    by_cases hin : i < n
    ·have hin2 : ¬ n ≤ i := by omega
     have hat := d_atN n n i i a.length c1 a rfl ax (by omega) (by omega) hin hin
     have hav := num_getD an (i * n + i)
     have hpr := prod_num (a := b) (by omega) hav
     have hnu := d_numI (b * a.getD (i * n + i) 0)
     have hnx : bxTo a n b d (i + 1) = if numB (b * a.getD (i * n + i) 0) = true then some (l ++ [((rootN ((b * a.getD (i * n + i) 0).tdiv d) : Nat) : Int)]) else none := by rw [bxTo, hT]; rfl
     cases hN : numB (b * a.getD (i * n + i) 0) with
     | false =>
      rw [hN] at hnu hnx
      have hno : bxTo a n b d n = none := by
       have := bxTo_none (hnx.trans (if_neg (by simp))) (n - (i + 1))
       rwa [show i + 1 + (n - (i + 1)) = n by omega] at this
      rw [hno]
      ((repeat' (first | refine stx ?_ | refine zqc (hat) ?_ | refine zqc (hnu) ?_ | (refine stq ?_ ?_ <;> (intro hc; ((try simp at hc) <;> try contradiction))) | fail)) <;> try (exfalso; omega))
      all_goals exact fin rfl w_3 [(2, 6)] (.tup [.one (.sl 2 1 0 0 0), .one (.bool false)]) [(2, .own 3 0 (.ints []))] 3 ⟨0, Nat.zero_le _, rfl, rfl, rfl⟩ rfl ⟨trivial, ⟨rfl, trivial⟩, rfl⟩ rfl
     | true =>
      rw [hN] at hnu hnx
      rw [if_pos rfl] at hnx
      have hNb := numB_true.1 hN
      have htb := tdiv_bdR (d := d) hNb
      have hro := d_rootI ((b * a.getD (i * n + i) 0).tdiv d) (by omega)
      have hdne : d ≠ 0 := by omega
      ((repeat' (first | refine stx ?_ | refine zqc (hat) ?_ | refine zqc (hnu) ?_ | refine zqc (hro) ?_ | (refine zqx ?_; intro cap hcap) | (refine stq ?_ ?_ <;> (intro hc; ((try simp at hc) <;> try contradiction))) | fail)) <;> try (exfalso; omega))
      all_goals exact ⟨[(5, 7)], (i + 1, l ++ [((rootN ((b * a.getD (i * n + i) 0).tdiv d) : Nat) : Int)], cap), ⟨by dsimp only; omega, hnx, by simpa using hcap⟩, w_4, ⟨w_1, w_2, rfl⟩⟩
    ·obtain rfl : i = n := by omega
     rw [hT]
     ((repeat' (first | refine stx ?_ | (refine stq ?_ ?_ <;> (intro hc; ((try simp at hc) <;> try contradiction))) | fail)) <;> try (exfalso; omega))
     all_goals exact fin rfl w_3 [(2, 5)] (.tup [.one (.sl 2 1 0 l.length cl), .one (.bool true)]) [(2, .own 3 cl (.ints l))] 3 ⟨cl, hcl, rfl, rfl, rfl⟩ rfl ⟨trivial, ⟨rfl, trivial⟩, rfl⟩ rfl
set_option maxRecDepth 100000 in
set_option maxHeartbeats 4000000 in
theorem d_boxOS (r c : Int) (g : List Int) (b : Int) (ca : Nat) (hl : g.length ≤ 1099511627776) : Does Tryz.prog 167 [vM r c 1 g.length ca, vI b] [(1, .ro (.ints g))] 2 (LsO 3 (boxG r c g b) 2) := by
 refine Does.intro TT Tryz.func167 rfl (by kernel_rfl) Zz Zz fun E hE => ?_
 have hadj := d_adjS r c g ca hl
 have hdet := d_detOfS r c g ca hl
 have hdef := d_defS r c g ca hl
 have hinb := d_l1In b 0 10000
 cases ha : adjZ r c g with
 | none =>
  rw [ha] at hadj
  rw [boxG_no (.inl ha)]
  ((repeat' (first | refine stx ?_ | ((refine zqe (hadj) ?_); rintro v Hout n1 ⟨rfl, rfl, rfl⟩) | (refine stq ?_ ?_ <;> (intro hc; ((try simp at hc) <;> try contradiction))) | fail)) <;> try (exfalso; omega))
  all_goals exact fin rfl w_3 [(2, 4)] (.tup [.one (.sl 2 1 0 0 0), .one (.bool false)]) [(2, .own 3 0 (.ints []))] 3 ⟨0, Nat.zero_le _, rfl, rfl, rfl⟩ rfl ⟨trivial, ⟨rfl, trivial⟩, rfl⟩ rfl
 | some a =>
  rw [ha] at hadj
  cases hD : defB r c g with
  | false =>
   rw [hD] at hdef
   rw [boxG_no (.inr (.inl hD))]
   ((repeat' (first | refine stx ?_ | ((refine zqe (hadj) ?_); rintro v Hout n1 ⟨c1, hc1, rfl, rfl, rfl⟩) | refine zqc (hdef) ?_ | (refine stq ?_ ?_ <;> (intro hc; ((try simp at hc) <;> try contradiction))) | fail)) <;> try (exfalso; omega))
   all_goals exact fin rfl w_3 [(2, 5)] (.tup [.one (.sl 2 1 0 0 0), .one (.bool false)]) [(2, .own 3 0 (.ints []))] 3 ⟨0, Nat.zero_le _, rfl, rfl, rfl⟩ rfl ⟨trivial, ⟨rfl, trivial⟩, rfl⟩ rfl
  | true =>
   rw [hD] at hdef
   obtain ⟨d, hd, hd0⟩ := defB_det hD
   rw [hd] at hdet
   cases hb : inB b 0 10000 with
   | false =>
    rw [hb] at hinb
    rw [boxG_no (.inr (.inr hb))]
    ((repeat' (first | refine stx ?_ | ((refine zqe (hadj) ?_); rintro v Hout n1 ⟨c1, hc1, rfl, rfl, rfl⟩) | refine zqc (hinb) ?_ | refine zqc (hdef) ?_ | (refine stq ?_ ?_ <;> (intro hc; ((try simp at hc) <;> try contradiction))) | fail)) <;> try (exfalso; omega))
    all_goals exact fin rfl w_3 [(2, 5)] (.tup [.one (.sl 2 1 0 0 0), .one (.bool false)]) [(2, .own 3 0 (.ints []))] 3 ⟨0, Nat.zero_le _, rfl, rfl, rfl⟩ rfl ⟨trivial, ⟨rfl, trivial⟩, rfl⟩ rfl
   | true =>
    rw [hb] at hinb
    have hbb := inB_true.1 hb
    obtain ⟨n, rfl, rfl, hn, hx, hnum, -, -, -⟩ := defB_all hD
    obtain ⟨ax, an⟩ := adjZ_some ha
    have hG : boxG n n g b = bxTo a n b d n := by rw [boxG, ha, Option.bind_some, hD, hb, hd]; simp
    rw [hG]
    have hnn : n * n ≤ 36 := Nat.mul_le_mul hn hn
    ((repeat' (first | refine stx ?_ | ((refine zqe (hadj) ?_); rintro v Hout n1 ⟨c1, hc1, rfl, rfl, rfl⟩) | refine zqc (hdet) ?_ | refine zqc (hdef) ?_ | refine zqc (hinb) ?_ | (refine stq ?_ ?_ <;> (intro hc; ((try simp at hc) <;> try contradiction))) | fail)) <;> try (exfalso; omega))
    refine w_G hE (fun x : Nat × List Int × Nat => x.1 ≤ n ∧ bxTo a n b d x.1 = some x.2.1 ∧ x.2.1.length ≤ x.2.2) (fun x => n - x.1)
     (fun x => [(1, vI b), (2, .one (.ptr 2 3 0 0)), (6, .one (.ptr 4 3 0 0)), (8, vI d), (10, .one (.sl 5 1 0 x.2.1.length x.2.2)), (11, vI x.1)])
     (fun x => [(1, .ro (.ints g)), (2, .own 26 1 (.lit [.int n, .int n, .sl 1 1 0 g.length ca])), (3, .own 3 c1 (.ints a)), (4, .own 26 1 (.lit [.int n, .int n, .sl 3 1 0 a.length c1])), (5, .own 3 x.2.2 (.ints x.2.1))]) 6 [] (0, [], 0) ⟨Nat.zero_le _, rfl, Nat.le_refl _⟩ ⟨w_1, w_2, rfl⟩ ?_
    rintro ⟨i, l, cl⟩ ⟨hi, hT, hcl⟩
    dsimp only at hi hT hcl ⊢
    have hll := bxTo_len hT
    by_cases hin : i < n
    ·have hin2 : ¬ n ≤ i := by omega
     have hat := d_cellH n n i i a.length c1 a rfl ax (by omega) (by omega) hin hin
     have hav := num_getD an (i * n + i)
     have hpr := prod_num (a := b) (by omega) hav
     have hmu := d_mulV b (a.getD (i * n + i) 0) (.inl (by omega)) (.inl hav)
     have hmv : mulV b (a.getD (i * n + i) 0) = fitV (b * a.getD (i * n + i) 0) := by unfold mulV; rw [if_neg (by unfold badN; omega)]
     rw [hmv] at hmu
     have hnx : bxTo a n b d (i + 1) = if numB (b * a.getD (i * n + i) 0) = true then some (l ++ [((rootN ((b * a.getD (i * n + i) 0).tdiv d) : Nat) : Int)]) else none := by rw [bxTo, hT]; rfl
     cases hN : numB (b * a.getD (i * n + i) 0) with
     | false =>
      rw [show fitV (b * a.getD (i * n + i) 0) = badN by unfold fitV; rw [hN]; rfl] at hmu
      rw [hN] at hnx
      have hno : bxTo a n b d n = none := by
       have := bxTo_none (hnx.trans (if_neg (by simp))) (n - (i + 1))
       rwa [show i + 1 + (n - (i + 1)) = n by omega] at this
      rw [hno]
      rw [show badN = -4611686018427387904 from rfl] at hmu
      ((repeat' (first | refine stx ?_ | refine zqc (hat) ?_ | refine zqc (hmu) ?_ | (refine stq ?_ ?_ <;> (intro hc; ((try simp at hc) <;> try contradiction))) | fail)) <;> try (exfalso; omega))
      all_goals exact fin rfl w_3 [(2, 6)] (.tup [.one (.sl 2 1 0 0 0), .one (.bool false)]) [(2, .own 3 0 (.ints []))] 3 ⟨0, Nat.zero_le _, rfl, rfl, rfl⟩ rfl ⟨trivial, ⟨rfl, trivial⟩, rfl⟩ rfl
     | true =>
      rw [show fitV (b * a.getD (i * n + i) 0) = b * a.getD (i * n + i) 0 by unfold fitV; rw [hN]; rfl] at hmu
      rw [hN] at hnx
      rw [if_pos rfl] at hnx
      have hNb := numB_true.1 hN
      have htb := tdiv_bdR (d := d) hNb
      have hro := d_rootS ((b * a.getD (i * n + i) 0).tdiv d) (by omega)
      have hdne : d ≠ 0 := by omega
      have hnb : ¬ b * a.getD (i * n + i) 0 = -4611686018427387904 := by omega
      ((repeat' (first | refine stx ?_ | refine zqc (hat) ?_ | refine zqc (hmu) ?_ | refine zqc (hro) ?_ | (refine zqx ?_; intro cap hcap) | (refine stq ?_ ?_ <;> (intro hc; ((try simp at hc) <;> try contradiction))) | fail)) <;> try (exfalso; omega))
      all_goals exact ⟨[(5, 7)], (i + 1, l ++ [((rootN ((b * a.getD (i * n + i) 0).tdiv d) : Nat) : Int)], cap), ⟨by dsimp only; omega, hnx, by simpa using hcap⟩, w_4, ⟨w_1, w_2, rfl⟩⟩
    ·obtain rfl : i = n := by omega
     rw [hT]
     ((repeat' (first | refine stx ?_ | (refine stq ?_ ?_ <;> (intro hc; ((try simp at hc) <;> try contradiction))) | fail)) <;> try (exfalso; omega))
     all_goals exact fin rfl w_3 [(2, 5)] (.tup [.one (.sl 2 1 0 l.length cl), .one (.bool true)]) [(2, .own 3 cl (.ints l))] 3 ⟨cl, hcl, rfl, rfl, rfl⟩ rfl ⟨trivial, ⟨rfl, trivial⟩, rfl⟩ rfl
end Go.Proofs.YtekpamojojfplaaGreat
namespace Go.Proofs.YtekpamojojfplaaGreat
open Go.RowKit
def allS (r c : Int) (g : List Int) (b : Int) (l : List Row) : List (Row × Int) := (l.filter fun x => conS r c g b x.xs).map fun x => (x, (vatO r c g x.xs).getD 0)
theorem allS_next {r c : Int} {g : List Int} {b : Int} {l : List Row} {i : Nat} (h : i < l.length) : allS r c g b (l.take (i + 1)) = allS r c g b (l.take i) ++ (if conS r c g b l[i].xs then [(l[i], (vatO r c g l[i].xs).getD 0)] else []) := by
  rw [List.take_succ_eq_append_getElem h, allS, List.filter_append, List.map_append]
  congr 1
  cases hc : conS r c g b l[i].xs <;> simp [hc]
theorem allS_base {r c : Int} {g : List Int} {b : Int} {l : List Row} {L : List (List Int)} (h : rowsX l = L) : (allS r c g b l).map Vx = baseS r c g b L := by
  rw [← h, allS, baseS, rowsX, List.filter_map, List.map_map, List.map_map]; rfl
theorem shO_no1 {r c : Int} {g : List Int} {b : Int} (h : boxG r c g b = none) : shO r c g b = none := by unfold shO shV; rw [h]; rfl
theorem shO_no2 {r c : Int} {g w : List Int} {b : Int} (h : boxG r c g b = some w) (h2 : boxO (w.map fun x => -x) w = none) : shO r c g b = none := by unfold shO shV; rw [h, Option.bind_some, h2]; rfl
theorem shO_yes {r c : Int} {g w : List Int} {b : Int} {L : List (List Int)} (h : boxG r c g b = some w) (h2 : boxO (w.map fun x => -x) w = some L) : shO r c g b = some ((putsV (baseS r c g b L)).map Prod.fst) := by unfold shO shV; rw [h, Option.bind_some, h2]; rfl
theorem sh_end {r c : Int} {g : List Int} {b : Int} {L : List (List Int)} {ls lr : List Row} {vl l' : List (Row × Int)} (hlx : rowsX ls = L) (hL : L.Nodup) (h2 : vl = allS r c g b ls) (hperm : l'.Perm vl) (hsort : l'.Pairwise fun x y => ¬ cmpV (Vx y) (Vx x) < 0) (hlr : lr = l'.map Prod.fst) : rowsX lr = (putsV (baseS r c g b L)).map Prod.fst := by
  have hp : (l'.map Vx).Perm (baseS r c g b L) := (hperm.map Vx).trans (by rw [h2, allS_base hlx])
  have hn := baseS_nodup (r := r) (c := c) (g := g) (b := b) hL
  have e : l'.map Vx = putsV (baseS r c g b L) := strictV_ext (strict_of (List.pairwise_map.2 hsort) (hp.nodup_iff.2 hn)) (puts_strict hn) fun x => by rw [hp.mem_iff, mem_puts]
  rw [← e, hlr, rowsX, List.map_map, List.map_map]; rfl
set_option maxRecDepth 100000 in
set_option maxHeartbeats 16000000 in
theorem d_shI (r c : Int) (g : List Int) (b : Int) (ca : Nat) (hl : g.length ≤ 1099511627776) (hca : g.length ≤ ca) : Does Tryz.prog 44 [vM r c 1 g.length ca, vI b] [(1, .ro (.ints g))] 2 (PtsR 24 3 (shO r c g b) 2) := by
 have hr := d_boxOI r c g b ca hl hca
 refine Does.intro TT Tryz.func44 rfl (by kernel_rfl) Zz Zz fun E hE => ?_
 cases hB : boxG r c g b with
 | none =>
  rw [hB] at hr
  rw [shO_no1 hB]
  ((repeat' (first | refine stx ?_ | ((refine zqe (hr) ?_); rintro v Hout n1 ⟨cw, hcw, rfl, rfl, rfl⟩) | (refine stq ?_ ?_ <;> (intro hc; ((try simp at hc) <;> try contradiction))) | fail)) <;> try (exfalso; omega))
  exact fin rfl w_3 [(2, 4)] (.tup [.one (.sl 2 1 0 0 0), .one (.bool false)]) [(2, .own 24 0 (.rows false true []))] 3 ⟨rfl, rfl, rfl⟩ rfl ⟨trivial, ⟨rfl, trivial⟩, rfl⟩ rfl
 | some w =>
  rw [hB] at hr
  obtain ⟨n, rfl, rfl, hn, hd, hb0, hb1, hwl, hw0, -⟩ := boxG_some hB
  have hwn : w.all numB = true := all_num fun k _ => by have := hw0 k; omega
  have hw0' : ∀ k, 0 ≤ w.getD k 0 := fun k => (hw0 k).1
  have hng := fun n c (hn : n = w.length) => d_negated w n c hn (by omega) hwn
  have hbx := fun ca cb m1 m2 (h1 : m1 = (w.map fun x => -x).length) (h2 : m2 = (w.map fun x => -x).length) => (by
   subst h1
   exact d_boxed (w.map fun x => -x) w ca cb m2 (by simp) h2 (by simp; omega) (neg_num hwn) (fun n hn => List.all_eq_true.1 hwn n hn) (fun k _ => neg_wid hw0' k) : Does Tryz.prog 92 [vS 1 1 0 m1 ca, vS 2 1 0 m2 cb] [(1, .ro (.ints (w.map fun x => -x))), (2, .ro (.ints w))] 3 _)
  cases hO : boxO (w.map fun x => -x) w with
  | none =>
   rw [hO] at hbx
   rw [shO_no2 hB hO]
   ((repeat' (first | refine stx ?_ | ((refine zqe (hr) ?_); rintro v Hout n1 ⟨cw, hcw, rfl, rfl, rfl⟩) | ((refine zqe (hng _ _ rfl) ?_); rintro v Hout n1 ⟨cn, hcn, rfl, rfl, rfl⟩) | ((refine w_E (hbx _ _ _ _ rfl (by simp)) Zz Zz Zz Zz Zz Zz Zz ft rfl ?_); rintro v Hout n1 ⟨rfl, rfl, rfl⟩) | (refine stq ?_ ?_ <;> (intro hc; ((try simp at hc) <;> try contradiction))) | fail)) <;> try (exfalso; omega))
   exact fin rfl w_3 [(2, 5)] (.tup [.one (.sl 2 1 0 0 0), .one (.bool false)]) [(2, .own 24 0 (.rows false true []))] 3 ⟨rfl, rfl, rfl⟩ rfl ⟨trivial, ⟨rfl, trivial⟩, rfl⟩ rfl
  | some L =>
   rw [hO] at hbx
   rw [shO_yes hB hO]
   have hsm := box_sm hw0' hO
   ((repeat' (first | refine stx ?_ | ((refine zqe (hr) ?_); rintro v Hout n1 ⟨cw, hcw, rfl, rfl, rfl⟩) | ((refine zqe (hng _ _ rfl) ?_); rintro v Hout n1 ⟨cn, hcn, rfl, rfl, rfl⟩) | ((refine w_E (hbx _ _ _ _ rfl (by simp)) Zz Zz Zz Zz Zz Zz Zz ft rfl ?_); rintro v Hout n1 ⟨l, cap, hlL, rfl, rfl, rfl⟩) | (refine stq ?_ ?_ <;> (intro hc; ((try simp at hc) <;> try contradiction))) | fail)) <;> try (exfalso; omega))
   have hl4 : l.length ≤ 4000 := by
    have := box_4000 (fun k _ => neg_wid hw0' k) hO
    rw [← hlL, rowsX, List.length_map] at this; exact this
   ((first | refine awpL_ghost (Ghost.partN 6 (l.map stripR) rfl (fun r hr => by obtain ⟨r0, h0, rfl⟩ := List.mem_map.1 hr; exact ⟨r0, h0, rfl, rfl, rfl⟩) (fun h => List.pairwise_map.2 (h.imp fun h => h))) ?_ | refine awp_ghost (Ghost.partN 6 (l.map stripR) rfl (fun r hr => by obtain ⟨r0, h0, rfl⟩ := List.mem_map.1 hr; exact ⟨r0, h0, rfl, rfl, rfl⟩) (fun h => List.pairwise_map.2 (h.imp fun h => h))) ?_ | refine awpH_ghost (Ghost.partN 6 (l.map stripR) rfl (fun r hr => by obtain ⟨r0, h0, rfl⟩ := List.mem_map.1 hr; exact ⟨r0, h0, rfl, rfl, rfl⟩) (fun h => List.pairwise_map.2 (h.imp fun h => h))) ?_ | refine awpHop_ghost (Ghost.partN 6 (l.map stripR) rfl (fun r hr => by obtain ⟨r0, h0, rfl⟩ := List.mem_map.1 hr; exact ⟨r0, h0, rfl, rfl, rfl⟩) (fun h => List.pairwise_map.2 (h.imp fun h => h))) ?_); rintro _ _ ⟨rfl, rfl⟩)
   ((first | refine awpL_ghost (Ghost.retell 5 6 (.rows false true (l.map stripR)) Zz Zz (by show (l.map stripR).flatMap _ = l.flatMap _; rw [List.flatMap_map]; rfl) (by show (l.map stripR).length = l.length; exact List.length_map _) rfl (fun x hx => by obtain ⟨r, hr, rfl⟩ := List.mem_map.1 hx; exact ⟨rfl, hr⟩)) ?_ | refine awp_ghost (Ghost.retell 5 6 (.rows false true (l.map stripR)) Zz Zz (by show (l.map stripR).flatMap _ = l.flatMap _; rw [List.flatMap_map]; rfl) (by show (l.map stripR).length = l.length; exact List.length_map _) rfl (fun x hx => by obtain ⟨r, hr, rfl⟩ := List.mem_map.1 hx; exact ⟨rfl, hr⟩)) ?_ | refine awpH_ghost (Ghost.retell 5 6 (.rows false true (l.map stripR)) Zz Zz (by show (l.map stripR).flatMap _ = l.flatMap _; rw [List.flatMap_map]; rfl) (by show (l.map stripR).length = l.length; exact List.length_map _) rfl (fun x hx => by obtain ⟨r, hr, rfl⟩ := List.mem_map.1 hx; exact ⟨rfl, hr⟩)) ?_ | refine awpHop_ghost (Ghost.retell 5 6 (.rows false true (l.map stripR)) Zz Zz (by show (l.map stripR).flatMap _ = l.flatMap _; rw [List.flatMap_map]; rfl) (by show (l.map stripR).length = l.length; exact List.length_map _) rfl (fun x hx => by obtain ⟨r, hr, rfl⟩ := List.mem_map.1 hx; exact ⟨rfl, hr⟩)) ?_); rintro _ _ ⟨rfl, rfl⟩)
   have hlx : rowsX (l.map stripR) = L := by rw [← hlL, rowsX, rowsX, List.map_map]; rfl
   have hlps : ∀ r ∈ l.map stripR, r.ps = [] := fun r hr => by obtain ⟨r0, h0, rfl⟩ := List.mem_map.1 hr; rfl
   have hll : (l.map stripR).length = l.length := List.length_map _
   generalize l.map stripR = ls at *
   have hrow : ∀ r ∈ ls, r.xs.length = n := fun r hr => by
    obtain ⟨g1, g2⟩ := hsm r.xs (by rw [← hlx]; exact List.mem_map.2 ⟨r, hr, rfl⟩)
    rw [hwl] at g1
    exact g1
   refine w_G hE (fun x : Nat × List (Row × Int) × Nat => x.1 ≤ l.length ∧ x.2.1 = allS n n g b (ls.take x.1)) (fun x => l.length - x.1)
    (fun x => [(1, vI b), (2, .one (.ptr 2 3 0 0)), (10, .one (.sl 7 2 0 x.2.1.length x.2.2)), (35, vS 5 1 0 l.length cap), (36, vI l.length), (37, vI x.1)])
    (fun x => [(1, .ro (.ints g)), (2, .own 26 1 (.lit [.int n, .int n, .sl 1 1 0 g.length ca])), (5, .own 24 cap (.rows false true ls)), (6, .tok 3 false ls), (7, .own 94 x.2.2 (.vals true x.2.1))]) 8 [] (0, [], 0) ⟨Nat.zero_le _, rfl⟩ ⟨w_1, w_2, rfl⟩ ?_
   rintro ⟨i, vl, cap1⟩ ⟨h1, h2⟩
   dsimp only at h1 h2
   have hvl0 : vl.length ≤ i := by
    rw [h2, allS, List.length_map]
    exact Nat.le_trans (List.length_filter_le _ _) (by rw [List.length_take]; omega)
   by_cases hi : i < l.length
   ·have hils : i < ls.length := by omega
    have e1 : (ls.getD (0 + (i : Int).toNat) rowD) = ls[i] := by rw [show 0 + (i : Int).toNat = i by omega, getD_in hils]
    have em : (ls.getD (0 + (i : Int).toNat) rowD) ∈ ls := by rw [e1]; exact List.getElem_mem hils
    have g1 := hrow (ls.getD (0 + (i : Int).toNat) rowD) em
    have g4 := row_eta (hlps (ls.getD (0 + (i : Int).toNat) rowD) em)
    have hnx := allS_next (r := n) (c := n) (g := g) (b := b) hils
    rw [← e1] at hnx
    have hpo := fun n c (hn : n = (ls.getD (0 + (i : Int).toNat) rowD).xs.length) => d_posI (ls.getD (0 + (i : Int).toNat) rowD).xs n c hn (by omega)
    have hva := fun m cv (hm : m = (ls.getD (0 + (i : Int).toNat) rowD).xs.length) => (by subst hm; exact d_valI n n g (ls.getD (0 + (i : Int).toNat) rowD).xs ca cv hl (by omega) : Does Tryz.prog 95 [vM n n 1 g.length ca, vS 2 1 0 m cv] [(1, .ro (.ints g)), (2, .ro (.ints (ls.getD (0 + (i : Int).toNat) rowD).xs))] 3 (Ret (valT (vatO n n g (ls.getD (0 + (i : Int).toNat) rowD).xs)) 3))
    cases cp : posF (ls.getD (0 + (i : Int).toNat) rowD).xs with
    | false =>
     have hcp : ¬ conS n n g b (ls.getD (0 + (i : Int).toNat) rowD).xs = true := by rw [conS, cp]; simp
     rw [cp] at hpo
     ((repeat' (first | refine stx ?_ | refine zqc (hpo _ _ rfl) ?_ | (refine stq ?_ ?_ <;> (intro hc; ((try simp at hc) <;> try contradiction))) | fail)) <;> try (exfalso; omega))
     exact ⟨[], (i + 1, vl, cap1), ⟨hi, by dsimp only; rw [hnx, if_neg hcp, List.append_nil]; exact h2⟩, w_4, ⟨w_1, w_2, rfl⟩⟩
    | true =>
     rw [cp] at hpo
     cases cv : vatO n n g (ls.getD (0 + (i : Int).toNat) rowD).xs with
     | none =>
      have hcp : ¬ conS n n g b (ls.getD (0 + (i : Int).toNat) rowD).xs = true := by rw [conS, cv]; simp
      rw [cv] at hva
      ((repeat' (first | refine stx ?_ | refine zqc (hpo _ _ rfl) ?_ | ((refine zqe (hva _ _ rfl) ?_); rintro v Hout n1 ⟨rfl, rfl, rfl⟩) | (refine stq ?_ ?_ <;> (intro hc; ((try simp at hc) <;> try contradiction))) | fail)) <;> try (exfalso; omega))
      exact ⟨[], (i + 1, vl, cap1), ⟨hi, by dsimp only; rw [hnx, if_neg hcp, List.append_nil]; exact h2⟩, w_4, ⟨w_1, w_2, rfl⟩⟩
     | some z =>
      rw [cv] at hva
      have hz1 := vat_pos hd cp cv
      have hz2 : ¬ z < 1 := by omega
      by_cases hzb : z ≤ b
      ·have hcp : conS n n g b (ls.getD (0 + (i : Int).toNat) rowD).xs = true := by rw [conS, cp, cv]; simp [hz1, hzb]
       have hzb2 : ¬ b < z := by omega
       ((repeat' (first | refine stx ?_ | refine zqc (hpo _ _ rfl) ?_ | ((refine zqe (hva _ _ rfl) ?_); rintro v Hout n1 ⟨rfl, rfl, rfl⟩) | (refine zqx ?_; intro cap hcap) | (refine stq ?_ ?_ <;> (intro hc; ((try simp at hc) <;> try contradiction))) | fail)) <;> try (exfalso; omega))
       refine ⟨[(7, 10)], (i + 1, _, _), ⟨hi, ?_⟩, w_4, ⟨w_1, ⟨rfl, rfl, rfl, rfl, rfl, trivial⟩, rfl⟩⟩
       show vl ++ [((⟨(ls.getD (0 + (i : Int).toNat) rowD).a, (ls.getD (0 + (i : Int).toNat) rowD).cap, (ls.getD (0 + (i : Int).toNat) rowD).xs, []⟩ : Row), z)] = _
       rw [g4, hnx, if_pos hcp, h2, cv]; rfl
      ·have hcp : ¬ conS n n g b (ls.getD (0 + (i : Int).toNat) rowD).xs = true := by rw [conS, cv]; simp [hzb]
       have hzb2 : b < z := by omega
       ((repeat' (first | refine stx ?_ | refine zqc (hpo _ _ rfl) ?_ | ((refine zqe (hva _ _ rfl) ?_); rintro v Hout n1 ⟨rfl, rfl, rfl⟩) | (refine stq ?_ ?_ <;> (intro hc; ((try simp at hc) <;> try contradiction))) | fail)) <;> try (exfalso; omega))
       exact ⟨[], (i + 1, vl, cap1), ⟨hi, by dsimp only; rw [hnx, if_neg hcp, List.append_nil]; exact h2⟩, w_4, ⟨w_1, w_2, rfl⟩⟩
   ·obtain rfl : i = l.length := by omega
    rw [List.take_of_length_le (by omega)] at h2
    have hvm : ∀ x ∈ vl, x.1 ∈ ls ∧ numB x.2 = true := fun x hx' => by
     rw [h2, allS] at hx'
     obtain ⟨r, hr, rfl⟩ := List.mem_map.1 hx'
     obtain ⟨q1, q2⟩ := List.mem_filter.1 hr
     refine ⟨q1, ?_⟩
     cases cv : vatO n n g r.xs with
     | none => rfl
     | some z => obtain ⟨-, -, -, -, -, -, h, -⟩ := vatO_some cv; exact h
    have hod := fun m hm => d_order vl ls m cap1 hm (by omega) (fun x hx' => by
     obtain ⟨m1, m2⟩ := hvm x hx'
     have g1 := hrow x.1 m1
     have m3 := numB_true.1 m2
     exact ⟨by omega, by omega, by omega⟩) (fun x hx' => (hvm x hx').1) (fun x hx' => hlps _ (hvm x hx').1)
    have hsub : (vl.map Prod.fst).Sublist ls := by
     rw [h2, allS, List.map_map]
     rw [show (Prod.fst ∘ fun x : Row => (x, (vatO n n g x.xs).getD 0)) = id from rfl, List.map_id]
     exact List.filter_sublist
    ((repeat' (first | refine stx ?_ | (((first | refine awpL_ghost (Ghost.forget 7 Zz Zz) ?_ | refine awp_ghost (Ghost.forget 7 Zz Zz) ?_ | refine awpH_ghost (Ghost.forget 7 Zz Zz) ?_ | refine awpHop_ghost (Ghost.forget 7 Zz Zz) ?_); rintro _ _ ⟨rfl, rfl⟩); refine awpL_callM [(1, 7), (2, 6)] (hod _ rfl) Zz Zz Zz Zz Zz Zz Zz ft rfl ?_; rintro v Hout n1 ⟨l', lr, co, hperm, hsort, hlr, rfl, rfl, rfl⟩; ((first | refine awpL_ghost (Ghost.part 6 (l' := lr) rfl (fun r hr => by rw [hlr] at hr; obtain ⟨x, hx', rfl⟩ := List.mem_map.1 hr; exact (hvm x (hperm.mem_iff.1 hx')).1) (fun hp => by rw [hlr]; exact ((hperm.map Prod.fst).pairwise_iff (fun h => h.symm)).2 (hp.sublist hsub))) ?_ | refine awp_ghost (Ghost.part 6 (l' := lr) rfl (fun r hr => by rw [hlr] at hr; obtain ⟨x, hx', rfl⟩ := List.mem_map.1 hr; exact (hvm x (hperm.mem_iff.1 hx')).1) (fun hp => by rw [hlr]; exact ((hperm.map Prod.fst).pairwise_iff (fun h => h.symm)).2 (hp.sublist hsub))) ?_ | refine awpH_ghost (Ghost.part 6 (l' := lr) rfl (fun r hr => by rw [hlr] at hr; obtain ⟨x, hx', rfl⟩ := List.mem_map.1 hr; exact (hvm x (hperm.mem_iff.1 hx')).1) (fun hp => by rw [hlr]; exact ((hperm.map Prod.fst).pairwise_iff (fun h => h.symm)).2 (hp.sublist hsub))) ?_ | refine awpHop_ghost (Ghost.part 6 (l' := lr) rfl (fun r hr => by rw [hlr] at hr; obtain ⟨x, hx', rfl⟩ := List.mem_map.1 hr; exact (hvm x (hperm.mem_iff.1 hx')).1) (fun hp => by rw [hlr]; exact ((hperm.map Prod.fst).pairwise_iff (fun h => h.symm)).2 (hp.sublist hsub))) ?_); rintro _ _ ⟨rfl, rfl⟩)) | (refine stq ?_ ?_ <;> (intro hc; ((try simp at hc) <;> try contradiction))) | fail)) <;> try (exfalso; omega))
    exact fin rfl w_3 [(2, 8), (3, 6)] (.tup [.one (.sl 2 1 0 lr.length co), .one (.bool true)]) [(2, .own 24 co (.rows false true lr)), (3, .tok 3 false lr)] 4
     ⟨lr, co, sh_end hlx (boxO_nodup hO) h2 hperm hsort hlr, rfl, rfl, rfl⟩ rfl ⟨trivial, ⟨rfl, rfl, trivial⟩, rfl⟩ rfl
end Go.Proofs.YtekpamojojfplaaGreat
