/-
  TEXTS OF THE PROOF, put together: bCone, bTurn.
-/
import Derived.Test.YtfkbjkmlpinoeaaGreatR17
import Derived.Test.YtfkbjkmlpinoeaaGreatR21
import Derived.Test.YtfkbjkmlpinoeaaGreatR08
import Derived.Test.YtfkbjkmlpinoeaaGreatR11
set_option linter.unusedVariables false
set_option linter.unusedSimpArgs false
namespace Go.Proofs.YtfkbjkmlpinoeaaGreat
open Go.RowKit
def prodTo (xs : List Int) (o : Nat) (ys : List Int) : Nat → Int
  | 0 => 0
  | k + 1 => prodTo xs o ys k + xs.getD (o + k) 0 * ys.getD k 0
theorem prodTo_bd {xs ys : List Int} {o : Nat} (hx : xs.all numB = true) (hy : ys.all numB = true) : ∀ k : Nat, -(160000000000000000 * (k : Int)) ≤ prodTo xs o ys k ∧ prodTo xs o ys k ≤ 160000000000000000 * (k : Int)
  | 0 => by simp [prodTo]
  | k + 1 => by
    have h1 := prodTo_bd (o := o) hx hy k
    have h2 := prod_getD hx hy (o + k) k
    rw [prodTo]
    omega
theorem d_dot (xs ys : List Int) (o n c m cb : Nat) (hm : m = ys.length) (hn : n = ys.length) (ho : o + n ≤ xs.length) (h24 : n ≤ 24) (hl : xs.length ≤ 1099511627776) (hx : xs.all numB = true) (hy : ys.all numB = true) :
    Does Tryz.prog 67 [vS 1 1 o n c, vS 2 1 0 m cb] [(1, .ro (.ints xs)), (2, .ro (.ints ys))] 3 (Ret (vI (prodTo xs o ys n)) 3) := by
  subst hm hn
  refine Does.intro TT Tryz.func67 rfl (by kernel_rfl) Zz Zz fun E hE => ?_
  ((repeat' (first | refine stx ?_ | (refine stq ?_ ?_ <;> (intro hc; ((try simp at hc) <;> try contradiction))) | fail)) <;> try (exfalso; omega))
  refine w_G hE (fun k : Nat => k ≤ ys.length) (fun k => ys.length - k)
    (fun k => [(0, vS 1 1 o ys.length c), (1, vS 2 1 0 ys.length cb), (5, vI (prodTo xs o ys k)), (8, vI ys.length), (9, vI k)]) (fun _ => [(1, .ro (.ints xs)), (2, .ro (.ints ys))]) 3 [] 0 (Nat.zero_le _) ⟨w_1, w_2, rfl⟩ ?_
  intro k hk
  by_cases hkn : k < ys.length
  · have b1 := prodTo_bd (o := o) hx hy k
    have b2 := prod_getD hx hy (o + k) k
    have b3 : ys.getD (0 + (k : Int).toNat) 0 = ys.getD k 0 := by simp
    have b4 : xs.getD (o + (k : Int).toNat) 0 = xs.getD (o + k) 0 := by simp
    rw [← b3, ← b4] at b2
    ((repeat' (first | refine stx ?_ | (refine stq ?_ ?_ <;> (intro hc; ((try simp at hc) <;> try contradiction))) | fail)) <;> try (exfalso; omega))
    exact ⟨[], k + 1, hkn, w_4, ⟨⟨rfl, rfl, congrArg some (congrArg vI (by rw [prodTo, b3, b4])), rfl, congrArg some (congrArg vI (by omega)), trivial⟩, ⟨rfl, rfl, trivial⟩, rfl⟩⟩
  · obtain rfl : k = ys.length := by omega
    ((repeat' (first | refine stx ?_ | (refine stq ?_ ?_ <;> (intro hc; ((try simp at hc) <;> try contradiction))) | fail)) <;> try (exfalso; omega))
    refine fin_ret rfl w_3 (rfl) rfl
def dotR (xs : List Int) (c : Nat) (ys : List Int) (i : Nat) : Int := prodTo xs (i * c) ys c
def inConeB (r c : Int) (xs ys : List Int) : Bool := coneM r c xs && decide ((ys.length : Int) = c) && ys.all numB && decide (∀ i, i < r.toNat → 0 ≤ dotR xs c.toNat ys i)
def prodOkB (r c : Int) (xs ys : List Int) : Bool := coneM r c xs && decide ((ys.length : Int) = c) && ys.all numB
theorem all_next {P : Nat → Prop} {i : Nat} (h : ∀ p, p < i → P p) (hi : P i) : ∀ p, p < i + 1 → P p := fun p hp => by
  rcases Nat.lt_or_ge p i with c | c
  · exact h p c
  · obtain rfl : p = i := by omega
    exact hi
set_option maxRecDepth 100000 in
set_option maxHeartbeats 2000000 in
theorem d_inConeI (r c : Int) (xs ys : List Int) (ca cb : Nat) (hl : xs.length ≤ 1099511627776) (hl' : ys.length ≤ 1099511627776) (hca : xs.length ≤ ca) : Does Tryz.prog 16 [vM r c 1 xs.length ca, vS 2 1 0 ys.length cb] [(1, .ro (.ints xs)), (2, .ro (.ints ys))] 3 (Ret (vB (inConeB r c xs ys)) 3) := by
 refine Does.intro TT Tryz.func16 rfl (by kernel_rfl) Zz Zz fun E hE => ?_
 have hg : inConeB r c xs ys = (coneM r c xs && decide ((ys.length : Int) = c) && ys.all numB && decide (∀ i, i < r.toNat → 0 ≤ dotR xs c.toNat ys i)) := rfl
 cases h1 : coneM r c xs
 ·have hs : inConeB r c xs ys = false := by simp [hg, h1]
  ((repeat' (first | refine stx ?_ | ((first | refine w_z (d_coneI _ _ _ _ hl) Zz Zz Zz Zz Zz Zz Zz Zz ft Zz Zz ?_ | refine w_A (d_coneI _ _ _ _ hl) Zz Zz Zz Zz Zz Zz Zz Zz ft Zz Zz ?_) <;> simp only [h1]) | (refine stq ?_ ?_ <;> (intro hc; ((try simp at hc) <;> try contradiction))) | fail)) <;> try (exfalso; omega))
  all_goals refine fin_ret rfl w_3 (congrArg vB hs.symm) rfl
 ·obtain ⟨a, b, rfl, rfl, ha, hb1, hb, hx, hnum⟩ := coneM_dims h1
  by_cases h2 : ys.length = b
  ·cases h3 : ys.all numB
   ·have hs : inConeB a b xs ys = false := by simp [hg, h3]
    have hd := d_areNumbers ys cb hl'
    rw [h3] at hd
    ((repeat' (first | refine stx ?_ | ((first | refine w_z (d_coneI _ _ _ _ hl) Zz Zz Zz Zz Zz Zz Zz Zz ft Zz Zz ?_ | refine w_A (d_coneI _ _ _ _ hl) Zz Zz Zz Zz Zz Zz Zz Zz ft Zz Zz ?_) <;> simp only [h1]) | (first | refine w_z (hd) Zz Zz Zz Zz Zz Zz Zz Zz ft Zz Zz ?_ | refine w_A (hd) Zz Zz Zz Zz Zz Zz Zz Zz ft Zz Zz ?_) | (refine stq ?_ ?_ <;> (intro hc; ((try simp at hc) <;> try contradiction))) | fail)) <;> try (exfalso; omega))
    all_goals refine fin_ret rfl w_3 (congrArg vB hs.symm) rfl
   ·have hd := d_areNumbers ys cb hl'
    rw [h3] at hd
    have hs : inConeB a b xs ys = decide (∀ i, i < a → 0 ≤ dotR xs b ys i) := by simp [hg, h1, h2, h3]
    rw [hs]
    ((repeat' (first | refine stx ?_ | ((first | refine w_z (d_coneI _ _ _ _ hl) Zz Zz Zz Zz Zz Zz Zz Zz ft Zz Zz ?_ | refine w_A (d_coneI _ _ _ _ hl) Zz Zz Zz Zz Zz Zz Zz Zz ft Zz Zz ?_) <;> simp only [h1]) | (first | refine w_z (hd) Zz Zz Zz Zz Zz Zz Zz Zz ft Zz Zz ?_ | refine w_A (hd) Zz Zz Zz Zz Zz Zz Zz Zz ft Zz Zz ?_) | (refine stq ?_ ?_ <;> (intro hc; ((try simp at hc) <;> try contradiction))) | fail)) <;> try (exfalso; omega))
    refine w_G hE (fun i : Nat => i ≤ a ∧ ∀ p, p < i → 0 ≤ dotR xs b ys p) (fun i => a - i)
     (fun i => [(1, vS 2 1 0 ys.length cb), (2, .one (.ptr 3 3 0 0)), (5, vI i)]) (fun _ => [(1, .ro (.ints xs)), (2, .ro (.ints ys)), (3, .own 26 1 (.lit [.int a, .int b, .sl 1 1 0 xs.length ca]))]) 4 [] 0 ⟨Nat.zero_le _, fun p hp => by omega⟩ ⟨w_1, w_2, rfl⟩ ?_
    rintro i ⟨hi, hall⟩
    by_cases hia : i < a
    ·have b2 := row_in (c := b) hia
     have hr := d_rowAt a b i xs.length ca xs rfl hx hca (by omega) (by omega) hia
     have hdd := fun cp => d_dot xs ys (i * b) b cp ys.length cb rfl h2.symm (by omega) (by omega) hl hnum h3
     ((repeat' (first | refine stx ?_ | ((refine w_E (hr) Zz Zz Zz Zz Zz Zz Zz ft rfl ?_); rintro v Hout n1 ⟨cpr, rfl, rfl, rfl⟩) | (first | refine w_z (hdd _) Zz Zz Zz Zz Zz Zz Zz Zz ft Zz Zz ?_ | refine w_A (hdd _) Zz Zz Zz Zz Zz Zz Zz Zz ft Zz Zz ?_) | (refine stq ?_ ?_ <;> (intro hc; ((try simp at hc) <;> try contradiction))) | fail)) <;> try (exfalso; omega))
     ·have hbad : 0 ≤ dotR xs b ys i → False := fun h => by unfold dotR at h; omega
      refine fin_ret rfl w_3 (congrArg vB (by symm; exact decide_eq_false fun h => hbad (h i hia))) rfl
     ·exact ⟨[], i + 1, ⟨by omega, all_next hall (by unfold dotR; omega)⟩, w_4, ⟨w_1, w_2, rfl⟩⟩
    ·obtain rfl : i = a := by omega
     ((repeat' (first | refine stx ?_ | (refine stq ?_ ?_ <;> (intro hc; ((try simp at hc) <;> try contradiction))) | fail)) <;> try (exfalso; omega))
     refine fin_ret rfl w_3 (congrArg vB (by symm; rw [decide_eq_true_eq]; exact hall)) rfl
  ·have h2' : ¬ ((ys.length : Int) = (b : Int)) := by omega
   have hs : inConeB a b xs ys = false := by rw [hg, decide_eq_false h2']; simp
   ((repeat' (first | refine stx ?_ | ((first | refine w_z (d_coneI _ _ _ _ hl) Zz Zz Zz Zz Zz Zz Zz Zz ft Zz Zz ?_ | refine w_A (d_coneI _ _ _ _ hl) Zz Zz Zz Zz Zz Zz Zz Zz ft Zz Zz ?_) <;> simp only [h1]) | (refine stq ?_ ?_ <;> (intro hc; ((try simp at hc) <;> try contradiction))) | fail)) <;> try (exfalso; omega))
   all_goals refine fin_ret rfl w_3 (congrArg vB hs.symm) rfl
def prT (xs : List Int) (r c : Nat) (ys : List Int) (j i : Nat) : List Int := (List.range r).map fun p => prodTo xs (p * c) ys (if p < i then j + 1 else j)
def prM (xs : List Int) (r c : Nat) (ys : List Int) : List Int := (List.range r).map fun p => dotR xs c ys p
theorem prT_len {xs : List Int} {r c : Nat} {ys : List Int} {j i : Nat} : (prT xs r c ys j i).length = r := by simp [prT]
theorem prM_len {xs : List Int} {r c : Nat} {ys : List Int} : (prM xs r c ys).length = r := by simp [prM]
theorem prT_zero {xs : List Int} {r c : Nat} {ys : List Int} : List.replicate r 0 = prT xs r c ys 0 0 := by
  apply List.ext_getElem (by simp [prT])
  intro p h1 h2
  simp [prT, prodTo]
theorem prT_at {xs : List Int} {r c : Nat} {ys : List Int} {j i : Nat} (hi : i < r) : (prT xs r c ys j i).getD i 0 = prodTo xs (i * c) ys j := by
  simp [prT, hi]
theorem prT_set {xs : List Int} {r c : Nat} {ys : List Int} {j i : Nat} (hi : i < r) : (prT xs r c ys j i).set i (prodTo xs (i * c) ys (j + 1)) = prT xs r c ys j (i + 1) := by
  apply List.ext_getElem (by simp [prT])
  intro p h1 h2
  rw [List.getElem_set]
  simp only [prT, List.getElem_map, List.getElem_range]
  by_cases cc : i = p
  · subst cc
    rw [if_pos rfl, if_pos (Nat.lt_succ_self i)]
  · rw [if_neg cc]
    by_cases c2 : p < i
    · rw [if_pos c2, if_pos (by omega)]
    · rw [if_neg c2, if_neg (by omega)]
theorem prT_next {xs : List Int} {r c : Nat} {ys : List Int} {j : Nat} : prT xs r c ys j r = prT xs r c ys (j + 1) 0 := by
  apply List.ext_getElem (by simp [prT])
  intro p h1 h2
  have : p < r := by rw [prT_len] at h1; exact h1
  simp [prT, this]
theorem prT_full {xs : List Int} {r c : Nat} {ys : List Int} : prT xs r c ys c 0 = prM xs r c ys := by
  apply List.ext_getElem (by simp [prT, prM])
  intro p h1 h2
  simp [prT, prM, dotR]
def ProdO (t : TypeId) (o : Option (List Int)) (v : AV) (Hout : List (Nat × Blk)) (n1 : Nat) : Prop := match o with
  | some zs => v = .tup [.one (.sl 3 1 0 zs.length zs.length), .one (.bool true)] ∧ Hout = [(3, .own t zs.length (.ints zs))] ∧ n1 = 4
  | none => v = .tup [.one (.sl 3 1 0 0 0), .one (.bool false)] ∧ Hout = [(3, .own t 0 (.ints []))] ∧ n1 = 4
theorem ProdO.some {t : TypeId} {zs : List Int} {n : Nat} (h : n = zs.length) : ProdO t (some zs) (.tup [.one (.sl 3 1 0 n n), .one (.bool true)]) [(3, .own t n (.ints zs))] 4 := by subst h; exact ⟨rfl, rfl, rfl⟩
def prodO (r c : Int) (xs ys : List Int) : Option (List Int) := if prodOkB r c xs ys then some (prM xs r.toNat c.toNat ys) else none
set_option maxHeartbeats 4000000 in
theorem d_prodS (r c : Int) (xs ys : List Int) (ca cb : Nat) (hl : xs.length ≤ 1099511627776) (hl' : ys.length ≤ 1099511627776) :
    Does Tryz.prog 104 [vM r c 1 xs.length ca, vS 2 1 0 ys.length cb] [(1, .ro (.ints xs)), (2, .ro (.ints ys))] 3 (ProdO 3 (prodO r c xs ys)) := by
  refine Does.intro TT Tryz.func104 rfl (by kernel_rfl) Zz Zz fun E hE => ?_
  cases h1 : coneM r c xs
  · have hs : prodO r c xs ys = none := by simp [prodO, prodOkB, h1]
    rw [hs]
    ((repeat' (first | refine stx ?_ | ((first | refine w_z (d_coneS _ _ _ _ hl) Zz Zz Zz Zz Zz Zz Zz Zz ft Zz Zz ?_ | refine w_A (d_coneS _ _ _ _ hl) Zz Zz Zz Zz Zz Zz Zz Zz ft Zz Zz ?_) <;> simp only [h1]) | (refine stq ?_ ?_ <;> (intro hc; ((try simp at hc) <;> try contradiction))) | fail)) <;> try (exfalso; omega))
    exact fin rfl w_3 [(3, 4)] (.tup [.one (.sl 3 1 0 0 0), .one (.bool false)]) [(3, .own 3 0 (.ints []))] 4 (⟨rfl, rfl, rfl⟩) rfl ⟨trivial, ⟨rfl, trivial⟩, rfl⟩ rfl
  · obtain ⟨a, b, rfl, rfl, ha, hb1, hb, hx, hnum⟩ := coneM_dims h1
    by_cases h2 : ys.length = b
    · ((repeat' (first | refine stx ?_ | ((first | refine w_z (d_coneS _ _ _ _ hl) Zz Zz Zz Zz Zz Zz Zz Zz ft Zz Zz ?_ | refine w_A (d_coneS _ _ _ _ hl) Zz Zz Zz Zz Zz Zz Zz Zz ft Zz Zz ?_) <;> simp only [h1]) | (refine stq ?_ ?_ <;> (intro hc; ((try simp at hc) <;> try contradiction))) | fail)) <;> try (exfalso; omega))
      refine w_G hE (fun j : Nat => j ≤ b ∧ (ys.take j).all numB = true) (fun j => b - j)
        (fun j => [(1, vS 2 1 0 ys.length cb), (2, .one (.ptr 3 3 0 0)), (6, vS 4 1 0 a a), (7, vI j)]) (fun j => [(1, .ro (.ints xs)), (2, .ro (.ints ys)), (3, .own 26 1 (.lit [.int a, .int b, .sl 1 1 0 xs.length ca])), (4, .own 3 a (.ints (prT xs a b ys j 0)))]) 5 [] 0 ⟨Nat.zero_le _, rfl⟩
        ⟨⟨rfl, rfl, rfl, rfl, trivial⟩, ⟨rfl, rfl, rfl, own_ints (by simpa using prT_zero), trivial⟩, rfl⟩ ?_
      rintro j ⟨hj, hall⟩
      by_cases hjb : j < b
      · have hjy : j < ys.length := by omega
        cases h4 : numB ys[j]
        · have hs : prodO a b xs ys = none := by
            have : ys.all numB = false := all_bad hjy h4
            simp [prodO, prodOkB, this]
          rw [hs]
          have hd := d_numS ys[j]
          rw [h4, ← getD_at hjy] at hd
          ((repeat' (first | refine stx ?_ | (first | refine w_z (hd) Zz Zz Zz Zz Zz Zz Zz Zz ft Zz Zz ?_ | refine w_A (hd) Zz Zz Zz Zz Zz Zz Zz Zz ft Zz Zz ?_) | (refine stq ?_ ?_ <;> (intro hc; ((try simp at hc) <;> try contradiction))) | fail)) <;> try (exfalso; omega))
          exact fin rfl w_3 [(3, 5)] (.tup [.one (.sl 3 1 0 0 0), .one (.bool false)]) [(3, .own 3 0 (.ints []))] 4 (⟨rfl, rfl, rfl⟩) rfl ⟨trivial, ⟨rfl, trivial⟩, rfl⟩ rfl
        · have hall' := all_take hjy hall h4
          have hd := d_numS ys[j]
          rw [h4, ← getD_at hjy] at hd
          have hnb := numB_true.1 h4
          rw [← getD_at hjy] at hnb
          ((repeat' (first | refine stx ?_ | (first | refine w_z (hd) Zz Zz Zz Zz Zz Zz Zz Zz ft Zz Zz ?_ | refine w_A (hd) Zz Zz Zz Zz Zz Zz Zz Zz ft Zz Zz ?_) | (refine stq ?_ ?_ <;> (intro hc; ((try simp at hc) <;> try contradiction))) | fail)) <;> try (exfalso; omega))
          refine w_G hE (fun i : Nat => i ≤ a) (fun i => a - i)
            (fun i => [(1, vS 2 1 0 ys.length cb), (2, .one (.ptr 3 3 0 0)), (6, vS 4 1 0 a a), (7, vI j), (8, vI i)]) (fun i => [(1, .ro (.ints xs)), (2, .ro (.ints ys)), (3, .own 26 1 (.lit [.int a, .int b, .sl 1 1 0 xs.length ca])), (4, .own 3 a (.ints (prT xs a b ys j i)))]) 5 [] 0 (Nat.zero_le _) ⟨w_1, w_2, rfl⟩ ?_
          intro i hi
          by_cases hia : i < a
          · have b1 := cell_facts hia hjb (show a ≤ 24 by omega) (show b ≤ 24 by omega)
            rw [← hx] at b1
            have hlp := prT_len (xs := xs) (r := a) (c := b) (ys := ys) (j := j) (i := i)
            have e1 : 0 + (i : Int).toNat = i := by simp
            have e2 : 0 + ((i : Int) * b + j).toNat = i * b + j := by
              have e : ((i : Int) * b + j) = ((i * b + j : Nat) : Int) := by simp
              rw [e]; omega
            have e3 : 0 + (j : Int).toNat = j := by simp
            have f1 := num_getD hnum (0 + ((i : Int) * b + j).toNat)
            have f2 := prod_num f1 hnb
            have hst : (prT xs a b ys j i).set (0 + (i : Int).toNat) ((prT xs a b ys j i).getD (0 + (i : Int).toNat) 0 + xs.getD (0 + ((i : Int) * b + j).toNat) 0 * ys.getD (0 + (j : Int).toNat) 0) = prT xs a b ys j (i + 1) := by
              rw [e1, prT_at hia, e2, e3, ← prT_set hia, prodTo]
            have f3 : -(160000000000000000 * (j : Int)) ≤ (prT xs a b ys j i).getD (0 + (i : Int).toNat) 0 ∧ (prT xs a b ys j i).getD (0 + (i : Int).toNat) 0 ≤ 160000000000000000 * (j : Int) := by
              rw [e1, prT_at hia]
              have hty : (ys.take j).all numB = true := hall
              clear f2 f1 hst
              have key : ∀ k, k ≤ j → -(160000000000000000 * (k : Int)) ≤ prodTo xs (i * b) ys k ∧ prodTo xs (i * b) ys k ≤ 160000000000000000 * (k : Int) := fun k => by
                induction k with
                | zero => intro _; simp [prodTo]
                | succ k ih =>
                  intro hk
                  have g1 := ih (by omega)
                  have g2 : -400000000 ≤ ys.getD k 0 ∧ ys.getD k 0 ≤ 400000000 := by
                    have := num_getD hty k
                    rw [List.getD_eq_getElem?_getD, List.getElem?_take_of_lt (by omega), ← List.getD_eq_getElem?_getD] at this
                    exact this
                  have g3 := prod_num (num_getD hnum (i * b + k)) g2
                  rw [prodTo]
                  omega
              exact key j (Nat.le_refl _)
            ((repeat' (first | refine stp ?_ | (refine stq ?_ ?_ <;> (intro hc; ((try simp at hc) <;> try contradiction))) | fail)) <;> try (exfalso; omega))
            refine awp_held TM [(1, _), (2, _), (3, _)] sb rfl (fun ρs => ?_)
            refine zt0 ?_
            refine zt1 ?_
            refine zt2 ?_
            refine zt3 ?_
            refine zt4 ?_
            refine zt6 ?_
            refine zt7 ?_
            refine zt8 ?_
            refine zt9 ?_
            refine zt10 ?_
            refine zt11 ?_
            refine zt12 ?_
            refine zt13 ?_
            refine zt14 ?_
            refine zt15 ?_
            refine zt16 ?_
            refine zt17 ?_
            refine zt18 ?_
            refine zt19 ?_
            refine zt20 ?_
            refine w_u [5] kr rfl ⟨?_, trivial⟩
            first | (refine zho ?_)
            refine zt21 ?_
            refine zt22 ?_
            refine w_u [23] kr rfl ⟨?_, trivial⟩
            first | (refine zho ?_)
            refine w_v kr ?_
            rotate_left
            all_goals ((repeat' (first | refine stx ?_ | (refine stq ?_ ?_ <;> (intro hc; ((try simp at hc) <;> try contradiction))) | fail)) <;> try (exfalso; omega))
            all_goals exact ⟨[], i + 1, hia, w_4, ⟨w_1, ⟨rfl, rfl, rfl, own_ints hst, trivial⟩, rfl⟩⟩
          · obtain rfl : i = a := by omega
            ((repeat' (first | refine stx ?_ | (refine stq ?_ ?_ <;> (intro hc; ((try simp at hc) <;> try contradiction))) | fail)) <;> try (exfalso; omega))
            exact ⟨[], j + 1, ⟨by omega, hall'⟩, w_4, ⟨w_1, ⟨rfl, rfl, rfl, own_ints prT_next, trivial⟩, rfl⟩⟩
      · obtain rfl : j = b := by omega
        have hs : prodO a j xs ys = some (prM xs a j ys) := by
          have : ys.all numB = true := by rw [← h2, List.take_length] at hall; exact hall
          simp [prodO, prodOkB, h1, h2, this]
        rw [hs]
        have hpl : a = (prM xs a j ys).length := prM_len.symm
        ((repeat' (first | refine stx ?_ | (refine stq ?_ ?_ <;> (intro hc; ((try simp at hc) <;> try contradiction))) | fail)) <;> try (exfalso; omega))
        exact fin rfl w_3 [(3, 4)] (.tup [.one (.sl 3 1 0 a a), .one (.bool true)]) [(3, .own 3 a (.ints (prM xs a j ys)))] 4 (ProdO.some hpl) rfl ⟨trivial, ⟨own_ints prT_full, trivial⟩, rfl⟩ rfl
    · have h2' : ¬ ((ys.length : Int) = (b : Int)) := by omega
      have hs : prodO a b xs ys = none := by unfold prodO prodOkB; rw [decide_eq_false h2']; simp
      rw [hs]
      ((repeat' (first | refine stx ?_ | ((first | refine w_z (d_coneS _ _ _ _ hl) Zz Zz Zz Zz Zz Zz Zz Zz ft Zz Zz ?_ | refine w_A (d_coneS _ _ _ _ hl) Zz Zz Zz Zz Zz Zz Zz Zz ft Zz Zz ?_) <;> simp only [h1]) | (refine stq ?_ ?_ <;> (intro hc; ((try simp at hc) <;> try contradiction))) | fail)) <;> try (exfalso; omega))
      exact fin rfl w_3 [(3, 4)] (.tup [.one (.sl 3 1 0 0 0), .one (.bool false)]) [(3, .own 3 0 (.ints []))] 4 (⟨rfl, rfl, rfl⟩) rfl ⟨trivial, ⟨rfl, trivial⟩, rfl⟩ rfl
set_option maxHeartbeats 2000000 in
theorem d_inConeS (r c : Int) (xs ys : List Int) (ca cb : Nat) (hl : xs.length ≤ 1099511627776) (hl' : ys.length ≤ 1099511627776) : Does Tryz.prog 62 [vM r c 1 xs.length ca, vS 2 1 0 ys.length cb] [(1, .ro (.ints xs)), (2, .ro (.ints ys))] 3 (Ret (vB (inConeB r c xs ys)) 3) := by
 refine Does.intro TT Tryz.func62 rfl (by kernel_rfl) Zz Zz fun E hE => ?_
 have hp := d_prodS r c xs ys ca cb hl hl'
 cases h1 : prodOkB r c xs ys
 ·have ho : prodO r c xs ys = none := by simp [prodO, h1]
  have hs : inConeB r c xs ys = false := by
   have : inConeB r c xs ys = (prodOkB r c xs ys && decide (∀ i, i < r.toNat → 0 ≤ dotR xs c.toNat ys i)) := rfl
   rw [this, h1]; rfl
  rw [ho] at hp
  ((repeat' (first | refine stx ?_ | ((refine w_E (hp) Zz Zz Zz Zz Zz Zz Zz ft rfl ?_); rintro v Hout n1 ⟨rfl, rfl, rfl⟩) | (refine stq ?_ ?_ <;> (intro hc; ((try simp at hc) <;> try contradiction))) | fail)) <;> try (exfalso; omega))
  refine w_G hE (fun _ : Nat => True) (fun k => k)
   (fun k => [(5, vS 4 1 0 0 0), (6, vB false), (7, vI 0)]) (fun _ => [(1, .ro (.ints xs)), (4, .own 3 0 (.ints []))]) 5 [] 0 trivial ⟨w_1, w_2, rfl⟩ ?_
  rintro k -
  ((repeat' (first | refine stx ?_ | (refine stq ?_ ?_ <;> (intro hc; ((try simp at hc) <;> try contradiction))) | fail)) <;> try (exfalso; omega))
  refine fin_ret rfl w_3 (congrArg vB hs.symm) rfl
 ·have ho : prodO r c xs ys = some (prM xs r.toNat c.toNat ys) := by simp [prodO, h1]
  have hs : inConeB r c xs ys = decide (∀ i, i < r.toNat → 0 ≤ dotR xs c.toNat ys i) := by
   have : inConeB r c xs ys = (prodOkB r c xs ys && decide (∀ i, i < r.toNat → 0 ≤ dotR xs c.toNat ys i)) := rfl
   rw [this, h1]; rfl
  rw [ho] at hp
  rw [hs]
  have hpl := prM_len (xs := xs) (r := r.toNat) (c := c.toNat) (ys := ys)
  have hra : r.toNat ≤ 24 := by
   simp only [prodOkB, Bool.and_eq_true] at h1
   obtain ⟨a, b, rfl, rfl, ha, _⟩ := coneM_dims h1.1.1
   omega
  have hat : ∀ i (h : i < r.toNat), (prM xs r.toNat c.toNat ys)[i]?.getD 0 = dotR xs c.toNat ys i := fun i h => by simp [prM, h]
  generalize prM xs r.toNat c.toNat ys = zs at *
  generalize r.toNat = a at *
  subst hpl
  ((repeat' (first | refine stx ?_ | ((refine w_E (hp) Zz Zz Zz Zz Zz Zz Zz ft rfl ?_); rintro v Hout n1 ⟨rfl, rfl, rfl⟩) | (refine stq ?_ ?_ <;> (intro hc; ((try simp at hc) <;> try contradiction))) | fail)) <;> try (exfalso; omega))
  refine w_G hE (fun i : Nat => i ≤ zs.length ∧ ∀ p, p < i → 0 ≤ dotR xs c.toNat ys p) (fun i => zs.length - i)
   (fun i => [(5, vS 4 1 0 zs.length zs.length), (6, vB true), (7, vI i)]) (fun _ => [(1, .ro (.ints xs)), (4, .own 3 zs.length (.ints zs))]) 5 [] 0 ⟨Nat.zero_le _, fun p hp => by omega⟩ ⟨w_1, w_2, rfl⟩ ?_
  rintro i ⟨hi, hall⟩
  by_cases hia : i < zs.length
  ·((repeat' (first | refine stx ?_ | (refine stq ?_ ?_ <;> (intro hc; ((try simp at hc) <;> try contradiction))) | fail)) <;> try (exfalso; omega))
   ·rw [hat i hia] at hc
    refine fin_ret rfl w_3 (congrArg vB (by symm; exact decide_eq_false fun h => absurd (h i hia) (by omega))) rfl
   ·rw [hat i hia] at hc
    exact ⟨[], i + 1, ⟨by omega, all_next hall hc⟩, w_4, ⟨w_1, w_2, rfl⟩⟩
  ·obtain rfl : i = zs.length := by omega
   ((repeat' (first | refine stx ?_ | (refine stq ?_ ?_ <;> (intro hc; ((try simp at hc) <;> try contradiction))) | fail)) <;> try (exfalso; omega))
   refine fin_ret rfl w_3 (congrArg vB (by symm; rw [decide_eq_true_eq]; exact hall)) rfl
end Go.Proofs.YtfkbjkmlpinoeaaGreat
namespace Go.Proofs.YtfkbjkmlpinoeaaGreat
open Go.RowKit
def turnP (xs : List Int) (r c i j : Nat) : List Int := (List.range (c * r)).map fun p => if p % r < i ∨ (p % r = i ∧ p / r < j) then xs.getD ((p % r) * c + p / r) 0 else 0
def turnM (xs : List Int) (r c : Nat) : List Int := (List.range (c * r)).map fun p => xs.getD ((p % r) * c + p / r) 0
theorem turnP_len {xs : List Int} {r c i j : Nat} : (turnP xs r c i j).length = c * r := by simp [turnP]
theorem turnM_len {xs : List Int} {r c : Nat} : (turnM xs r c).length = c * r := by simp [turnM]
theorem turnP_zero {xs : List Int} {r c : Nat} : List.replicate (c * r) 0 = turnP xs r c 0 0 := by
  apply List.ext_getElem (by simp [turnP])
  intro p h1 h2
  simp [turnP]
theorem turn_idx {r i j : Nat} (hi : i < r) : (j * r + i) / r = j ∧ (j * r + i) % r = i := by
  refine ⟨?_, ?_⟩
  · rw [Nat.mul_comm, Nat.mul_add_div (by omega), Nat.div_eq_of_lt hi, Nat.add_zero]
  · rw [Nat.mul_comm, Nat.mul_add_mod, Nat.mod_eq_of_lt hi]
theorem turnP_set {xs : List Int} {r c i j : Nat} (hi : i < r) : (turnP xs r c i j).set (j * r + i) (xs.getD (i * c + j) 0) = turnP xs r c i (j + 1) := by
  apply List.ext_getElem (by simp [turnP])
  intro p h1 h2
  rw [List.getElem_set]
  simp only [turnP, List.getElem_map, List.getElem_range]
  obtain ⟨e1, e2⟩ := turn_idx (j := j) hi
  by_cases cc : j * r + i = p
  · subst cc
    rw [if_pos rfl, e1, e2, if_pos (.inr ⟨rfl, Nat.lt_succ_self j⟩)]
  · rw [if_neg cc]
    have hd := Nat.div_add_mod p r
    have hne : ¬(p % r = i ∧ p / r = j) := fun ⟨h3, h4⟩ => cc (by rw [← hd, h3, h4, Nat.mul_comm])
    have : (p % r < i ∨ (p % r = i ∧ p / r < j)) ↔ (p % r < i ∨ (p % r = i ∧ p / r < j + 1)) := by
      generalize p % r = u at *
      generalize p / r = v at *
      omega
    simp only [this]
theorem turnP_row {xs : List Int} {r c i : Nat} (hc : ∀ p, p < c * r → p / r < c) : turnP xs r c i c = turnP xs r c (i + 1) 0 := by
  apply List.ext_getElem (by simp [turnP])
  intro p h1 h2
  simp only [turnP, List.getElem_map, List.getElem_range]
  have hp := hc p (by simpa [turnP] using h1)
  have : (p % r < i ∨ (p % r = i ∧ p / r < c)) ↔ (p % r < i + 1 ∨ (p % r = i + 1 ∧ p / r < 0)) := by
    generalize p % r = u at *
    generalize p / r = v at *
    omega
  simp only [this]
theorem div_lt_c {r c p : Nat} (h : p < c * r) : p / r < c := Nat.div_lt_of_lt_mul (by rw [Nat.mul_comm]; exact h)
theorem turnP_full {xs : List Int} {r c : Nat} : turnP xs r c r 0 = turnM xs r c := by
  apply List.ext_getElem (by simp [turnP, turnM])
  intro p h1 h2
  simp only [turnP, turnM, List.getElem_map, List.getElem_range]
  have hr : 0 < r := by
    rcases Nat.eq_zero_or_pos r with h | h
    · subst h; simp [turnM] at h2
    · exact h
  rw [if_pos (.inl (Nat.mod_lt _ hr))]
theorem cell_natT {p k c : Nat} : 0 + ((p : Int) * c + k).toNat = p * c + k := by
  have e : ((p : Int) * c + k) = ((p * c + k : Nat) : Int) := by simp
  rw [e]; omega
def TurnO (r c : Nat) (t : TypeId) (xs : List Int) (k : Nat) (v : AV) (Hout : List (Nat × Blk)) (n1 : Nat) : Prop := v = .agg [.int c, .int r, .sl k 1 0 (c * r) (c * r)] ∧ Hout = [(k, .own t (c * r) (.ints (turnM xs r c)))] ∧ n1 = k + 1
theorem TurnO.out {r c : Nat} {t : TypeId} {xs : List Int} {k : Nat} : ∀ v Hout n1, TurnO r c t xs k v Hout n1 → ∃ b, Hout = [(k, b)] ∧ n1 = k + 1 ∧ b.keys = [] := fun _ _ _ ⟨_, h2, h3⟩ => ⟨_, h2, h3, by simp [Blk.keys, Elts.keys, Elts.all, ints_keys]⟩
set_option maxHeartbeats 2000000 in
theorem d_turnS (r c : Nat) (xs : List Int) (m ca : Nat) (hm : m = xs.length) (hr : r ≤ 24) (hc24 : c ≤ 24) (hx : xs.length = r * c) : Does Tryz.prog 103 [vM r c 1 m ca] [(1, .ro (.ints xs))] 2 (TurnO r c 3 xs 2) := by
 subst hm
 refine Does.intro TT Tryz.func103 rfl (by kernel_rfl) Zz Zz fun E hE => ?_
 ((repeat' (first | refine stp ?_ | (refine w_C (d_newS _ _ hc24 hr) Zz Zz Zz Zz Zz Zz Zz ft Zz Zz (NewM.out) ?_; rintro v b ⟨rfl, he, -⟩; cases he) | (refine stq ?_ ?_ <;> (intro hc; ((try simp at hc) <;> try contradiction))) | fail)) <;> try (exfalso; omega))
 refine w_G hE (fun i : Nat => i ≤ r) (fun i => r - i)
  (fun i => [(1, .one (.ptr 2 3 0 0)), (2, .one (.ptr 3 3 0 0)), (3, .one (.ptr 5 3 0 0)), (4, vI i)])
  (fun i => [(1, .ro (.ints xs)), (2, .own 26 1 (.lit [.int r, .int c, .sl 1 1 0 xs.length ca])), (3, .own 26 1 (.lit zeroM)), (4, .own 3 (c * r) (.ints (turnP xs r c i 0))), (5, .own 26 1 (.lit [.int c, .int r, .sl 4 1 0 (c * r) (c * r)]))]) 6 [] 0 (Nat.zero_le _) ⟨w_1, ⟨rfl, rfl, rfl, own_ints turnP_zero, rfl, trivial⟩, rfl⟩ ?_
 intro i hi
 by_cases hir : i < r
 ·((repeat' (first | refine stp ?_ | (refine stq ?_ ?_ <;> (intro hc; ((try simp at hc) <;> try contradiction))) | fail)) <;> try (exfalso; omega))
  refine w_G hE (fun j : Nat => j ≤ c) (fun j => c - j)
   (fun j => [(1, .one (.ptr 2 3 0 0)), (2, .one (.ptr 3 3 0 0)), (3, .one (.ptr 5 3 0 0)), (4, vI i), (5, vI j)])
   (fun j => [(1, .ro (.ints xs)), (2, .own 26 1 (.lit [.int r, .int c, .sl 1 1 0 xs.length ca])), (3, .own 26 1 (.lit zeroM)), (4, .own 3 (c * r) (.ints (turnP xs r c i j))), (5, .own 26 1 (.lit [.int c, .int r, .sl 4 1 0 (c * r) (c * r)]))]) 6 [] 0 (Nat.zero_le _) ⟨w_1, w_2, rfl⟩ ?_
  intro j hj
  have hl := turnP_len (xs := xs) (r := r) (c := c) (i := i) (j := j)
  by_cases hjc : j < c
  ·have b1 := cell_facts hir hjc hr hc24
   have b2 := cell_facts hjc hir hc24 hr
   rw [← hx] at b1
   have e1 := cell_natT (p := i) (k := j) (c := c)
   have e2 := cell_natT (p := j) (k := i) (c := r)
   have hs := turnP_set (xs := xs) (c := c) (j := j) hir
   rw [← e1, ← e2] at hs
   ((repeat' (first | refine stp ?_ | (refine stq ?_ ?_ <;> (intro hc; ((try simp at hc) <;> try contradiction))) | fail)) <;> try (exfalso; omega))
   refine awp_held TM [(1, _), (2, _), (5, _)] sb rfl (fun ρs => ?_)
   refine zt0 ?_
   refine zt1 ?_
   refine zt2 ?_
   refine zt3 ?_
   refine zt4 ?_
   refine zt5 ?_
   refine zt6 ?_
   refine zt7 ?_
   refine zt8 ?_
   refine zt9 ?_
   refine zt10 ?_
   refine zt11 ?_
   refine zt12 ?_
   refine zt13 ?_
   refine zt14 ?_
   refine zt15 ?_
   refine zt16 ?_
   refine zt17 ?_
   refine zt18 ?_
   refine w_u [19] kr rfl ⟨?_, trivial⟩
   first | (refine zho ?_)
   refine w_v kr ?_
   rotate_left
   all_goals ((repeat' (first | refine stp ?_ | (refine stq ?_ ?_ <;> (intro hc; ((try simp at hc) <;> try contradiction))) | fail)) <;> try (exfalso; omega))
   all_goals exact ⟨[], j + 1, hjc, w_4, ⟨w_1, ⟨rfl, rfl, rfl, own_ints hs, rfl, trivial⟩, rfl⟩⟩
  ·obtain rfl : j = c := by omega
   ((repeat' (first | refine stx ?_ | (refine stq ?_ ?_ <;> (intro hc; ((try simp at hc) <;> try contradiction))) | fail)) <;> try (exfalso; omega))
   exact ⟨[], i + 1, by omega, w_4, ⟨w_1, ⟨rfl, rfl, rfl, own_ints (turnP_row fun p => div_lt_c), rfl, trivial⟩, rfl⟩⟩
 ·obtain rfl : i = r := by omega
  ((repeat' (first | refine stx ?_ | (refine stq ?_ ?_ <;> (intro hc; ((try simp at hc) <;> try contradiction))) | fail)) <;> try (exfalso; omega))
  exact fin rfl w_3 [(2, 4)] (.agg [.int c, .int i, .sl 2 1 0 (c * i) (c * i)]) [(2, .own 3 (c * i) (.ints (turnM xs i c)))] 3 ⟨rfl, rfl, rfl⟩ rfl ⟨trivial, ⟨own_ints turnP_full, trivial⟩, rfl⟩ rfl
def TurnZ (r c : Int) (t : TypeId) (xs : List Int) (v : AV) (Hout : List (Nat × Blk)) (n1 : Nat) : Prop :=
  match isM r c xs with
  | true => v = .tup [.agg [.int c, .int r, .sl 2 1 0 (c.toNat * r.toNat) (c.toNat * r.toNat)], .one (.bool true)] ∧ Hout = [(2, .own t (c.toNat * r.toNat) (.ints (turnM xs r.toNat c.toNat)))] ∧ n1 = 3
  | false => v = .tup [.agg zeroM, .one (.bool false)] ∧ Hout = [] ∧ n1 = 2
set_option maxHeartbeats 2000000 in
theorem d_turnI (r c : Int) (xs : List Int) (ca : Nat) (hl : xs.length ≤ 1099511627776) : Does Tryz.prog 94 [vM r c 1 xs.length ca] [(1, .ro (.ints xs))] 2 (TurnZ r c 3 xs) := by
 refine Does.intro TT Tryz.func94 rfl (by kernel_rfl) Zz Zz fun E hE => ?_
 cases h1 : isM r c xs
 ·((repeat' (first | refine stx ?_ | ((first | refine w_z (d_isMatI _ _ _ _ hl) Zz Zz Zz Zz Zz Zz Zz Zz ft Zz Zz ?_ | refine w_A (d_isMatI _ _ _ _ hl) Zz Zz Zz Zz Zz Zz Zz Zz ft Zz Zz ?_) <;> simp only [h1]) | (refine stq ?_ ?_ <;> (intro hc; ((try simp at hc) <;> try contradiction))) | fail)) <;> try (exfalso; omega))
  exact fin rfl w_3 [] (.tup [.agg zeroM, .one (.bool false)]) [] 2 (by unfold TurnZ; rw [h1]; exact ⟨rfl, rfl, rfl⟩) rfl ⟨trivial, trivial, rfl⟩ rfl
 ·obtain ⟨r, c, rfl, rfl⟩ := isM_pos h1
  obtain ⟨hr, hc24, hx, hnum⟩ := isM_nat h1
  ((repeat' (first | refine stp ?_ | ((first | refine w_z (d_isMatI _ _ _ _ hl) Zz Zz Zz Zz Zz Zz Zz Zz ft Zz Zz ?_ | refine w_A (d_isMatI _ _ _ _ hl) Zz Zz Zz Zz Zz Zz Zz Zz ft Zz Zz ?_) <;> simp only [h1]) | (refine w_C (d_newI _ _ hc24 hr) Zz Zz Zz Zz Zz Zz Zz ft Zz Zz (NewM.out) ?_; rintro v b ⟨rfl, he, -⟩; cases he) | (refine stq ?_ ?_ <;> (intro hc; ((try simp at hc) <;> try contradiction))) | fail)) <;> try (exfalso; omega))
  refine w_G hE (fun i : Nat => i ≤ r) (fun i => r - i)
   (fun i => [(1, .one (.ptr 2 3 0 0)), (2, .one (.ptr 3 3 0 0)), (4, .one (.ptr 5 3 0 0)), (5, vI i)])
   (fun i => [(1, .ro (.ints xs)), (2, .own 26 1 (.lit [.int r, .int c, .sl 1 1 0 xs.length ca])), (3, .own 26 1 (.lit zeroM)), (4, .own 3 (c * r) (.ints (turnP xs r c i 0))), (5, .own 26 1 (.lit [.int c, .int r, .sl 4 1 0 (c * r) (c * r)]))]) 6 [] 0 (Nat.zero_le _) ⟨w_1, ⟨rfl, rfl, rfl, own_ints turnP_zero, rfl, trivial⟩, rfl⟩ ?_
  intro i hi
  by_cases hir : i < r
  ·((repeat' (first | refine stp ?_ | (refine stq ?_ ?_ <;> (intro hc; ((try simp at hc) <;> try contradiction))) | fail)) <;> try (exfalso; omega))
   refine w_G hE (fun j : Nat => j ≤ c) (fun j => c - j)
    (fun j => [(1, .one (.ptr 2 3 0 0)), (2, .one (.ptr 3 3 0 0)), (4, .one (.ptr 5 3 0 0)), (5, vI i), (6, vI j)])
    (fun j => [(1, .ro (.ints xs)), (2, .own 26 1 (.lit [.int r, .int c, .sl 1 1 0 xs.length ca])), (3, .own 26 1 (.lit zeroM)), (4, .own 3 (c * r) (.ints (turnP xs r c i j))), (5, .own 26 1 (.lit [.int c, .int r, .sl 4 1 0 (c * r) (c * r)]))]) 6 [] 0 (Nat.zero_le _) ⟨w_1, w_2, rfl⟩ ?_
   intro j hj
   have hlen := turnP_len (xs := xs) (r := r) (c := c) (i := i) (j := j)
   by_cases hjc : j < c
   ·have b1 := cell_facts hir hjc hr hc24
    have b2 := cell_facts hjc hir hc24 hr
    have hcr : c * r ≤ 1099511627776 := by
     have : c * r ≤ 24 * 24 := Nat.mul_le_mul hc24 hr
     omega
    rw [← hx] at b1
    have e1 := cell_natT (p := i) (k := j) (c := c)
    have e2 := cell_natT (p := j) (k := i) (c := r)
    have hs := turnP_set (xs := xs) (c := c) (j := j) hir
    rw [← e1, ← e2] at hs
    have hd := d_at r c i j xs ca (by omega) (by omega) (by omega) hl
    ((repeat' (first | refine stp ?_ | (refine stq ?_ ?_ <;> (intro hc; ((try simp at hc) <;> try contradiction))) | fail)) <;> try (exfalso; omega))
    refine awp_held TM [(1, _), (2, _), (5, _)] sb rfl (fun ρs => ?_)
    refine zt0 ?_
    refine zt1 ?_
    refine zt2 ?_
    refine zt3 ?_
    refine zt4 ?_
    refine zt5 ?_
    refine w_u [6] kr rfl ⟨?_, trivial⟩
    first | (refine zho ?_) | refine w_B _ (hd) Zz Zz Zz Zz Zz Zz Zz Zz Zz ft Zz Zz sb rfl ?_ | (refine w_F _ (d_set c r j i _ (turnP xs r c i j) (c * r) (c * r) (c * r) hlen.symm (by omega) (by omega) (by omega) (by omega)) Zz Zz Zz Zz Zz Zz Zz Zz ft Zz Zz ?_; rintro v Hout n1 ⟨rfl, rfl, rfl⟩; refine ⟨sb, ?_⟩)
    refine w_u [7] kr rfl ⟨?_, trivial⟩
    first | (refine zho ?_) | refine w_B _ (hd) Zz Zz Zz Zz Zz Zz Zz Zz Zz ft Zz Zz sb rfl ?_ | (refine w_F _ (d_set c r j i _ (turnP xs r c i j) (c * r) (c * r) (c * r) hlen.symm (by omega) (by omega) (by omega) (by omega)) Zz Zz Zz Zz Zz Zz Zz Zz ft Zz Zz ?_; rintro v Hout n1 ⟨rfl, rfl, rfl⟩; refine ⟨sb, ?_⟩)
    refine w_v kr ?_
    rotate_left
    all_goals ((repeat' (first | refine stp ?_ | (refine stq ?_ ?_ <;> (intro hc; ((try simp at hc) <;> try contradiction))) | fail)) <;> try (exfalso; omega))
    all_goals exact ⟨[], j + 1, hjc, w_4, ⟨w_1, ⟨rfl, rfl, rfl, own_ints hs, rfl, trivial⟩, rfl⟩⟩
   ·obtain rfl : j = c := by omega
    ((repeat' (first | refine stx ?_ | (refine stq ?_ ?_ <;> (intro hc; ((try simp at hc) <;> try contradiction))) | fail)) <;> try (exfalso; omega))
    exact ⟨[], i + 1, by omega, w_4, ⟨w_1, ⟨rfl, rfl, rfl, own_ints (turnP_row fun p => div_lt_c), rfl, trivial⟩, rfl⟩⟩
  ·obtain rfl : i = r := by omega
   ((repeat' (first | refine stx ?_ | (refine stq ?_ ?_ <;> (intro hc; ((try simp at hc) <;> try contradiction))) | fail)) <;> try (exfalso; omega))
   exact fin rfl w_3 [(2, 4)] (.tup [.agg [.int c, .int i, .sl 2 1 0 (c * i) (c * i)], .one (.bool true)]) [(2, .own 3 (c * i) (.ints (turnM xs i c)))] 3 (by unfold TurnZ; rw [h1]; exact ⟨rfl, rfl, rfl⟩) rfl ⟨trivial, ⟨own_ints turnP_full, trivial⟩, rfl⟩ rfl
end Go.Proofs.YtfkbjkmlpinoeaaGreat
