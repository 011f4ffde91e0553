/-
  TEXTS OF THE PROOF, put together: bRowOp, bWork, bWork2, bHermI, pHerm2, bHermS, bHermS2.
-/
import Derived.Test.YtekpamojojfplaaGreatD10
import Derived.Test.YtekpamojojfplaaGreatD09
import Derived.Test.YtekpamojojfplaaGreatD07
set_option linter.unusedVariables false
set_option linter.unusedSimpArgs false
namespace Go.Proofs.YtekpamojojfplaaGreat
open Go.RowKit
def dfB (n d : Int) : Bool := numB n && (numB d && decide (d ≠ 0))
def dfR (n d : Int) : Int := if numB n = true ∧ numB d = true ∧ d ≠ 0 then n % d else 0
def dfV (n d : Int) : AV := .tup [.one (.int (dfQ n d)), .one (.int (dfR n d)), .one (.bool (dfB n d))]
theorem dfV_ok {n d : Int} (h1 : numB n = true) (h2 : numB d = true) (h3 : d ≠ 0) : dfV n d = .tup [.one (.int (n / d)), .one (.int (n % d)), .one (.bool true)] := by
  simp [dfV, dfQ, dfR, dfB, h1, h2, h3]
theorem dfV_no {n d : Int} (h : ¬ (numB n = true ∧ numB d = true ∧ d ≠ 0)) : dfV n d = .tup [.one (.int 0), .one (.int 0), .one (.bool false)] := by
  have h' : dfB n d = false := by
    cases hb : dfB n d
    · rfl
    · simp only [dfB, Bool.and_eq_true, decide_eq_true_eq] at hb
      exact absurd ⟨hb.1, hb.2.1, hb.2.2⟩ h
  simp only [dfV, dfQ, dfR, if_neg h, h']
theorem tmod_cases (n d : Int) (hd : d ≠ 0) : (n.tmod d < 0 → n.tmod d + d.natAbs = n % d) ∧ (0 ≤ n.tmod d → n.tmod d = n % d) := by
  have h1 := Int.emod_nonneg n hd
  have h2 := Int.emod_lt n hd
  rw [Int.tmod_eq_emod]
  split
  · exact ⟨fun h => by omega, fun _ => by omega⟩
  · exact ⟨fun h => by omega, fun h => by omega⟩
theorem df_quot (n d : Int) (hd : d ≠ 0) : (n - n % d).tdiv d = n / d := by
  have e : n - n % d = d * (n / d) := by rw [Int.emod_def]; omega
  rw [e, Int.mul_tdiv_cancel_left _ hd]
set_option maxHeartbeats 1000000 in
theorem d_dfI (n d : Int) (h1 : numB n = true) (h2 : numB d = true) (h3 : d ≠ 0) : Does Tryz.prog 158 [vI n, vI d] [] 1 (Ret (dfV n d) 1) := by
 refine Does.intro TT Tryz.func158 rfl (by kernel_rfl) Zz Zz fun E hE => ?_
 have b1 := numB_true.1 h1
 have b2 := numB_true.1 h2
 obtain ⟨c1, c2⟩ := tmod_cases n d h3
 have q := df_quot n d h3
 have m1 := Int.emod_nonneg n h3
 have m2 := Int.emod_lt n h3
 have m3 := Int.natAbs_ediv_le_natAbs n d
 have a1 := d_numI n
 have a2 := d_numI d
 rw [h1] at a1
 rw [h2] at a2
 rw [dfV_ok h1 h2 h3]
 by_cases hlt : n.tmod d < 0
 ·have e := c1 hlt
  have q' : (n - (n.tmod d + d.natAbs)).tdiv d = n / d := by rw [e, q]
  ((repeat' (first | refine stx ?_ | refine zqc (a1) ?_ | refine zqc (a2) ?_ | (first | refine w_z (d_absInt d (by omega) (by omega)) Zz Zz Zz Zz Zz Zz Zz Zz ft Zz Zz ?_ | refine w_A (d_absInt d (by omega) (by omega)) Zz Zz Zz Zz Zz Zz Zz Zz ft Zz Zz ?_) | (refine stq ?_ ?_ <;> (intro hc; ((try simp at hc) <;> try contradiction))) | fail)) <;> try (exfalso; omega))
  refine fin_ret rfl w_3 (congrArg AV.tup (by rw [q', e])) rfl
 ·have e := c2 (by omega)
  have q' : (n - n.tmod d).tdiv d = n / d := by rw [e, q]
  ((repeat' (first | refine stx ?_ | refine zqc (a1) ?_ | refine zqc (a2) ?_ | (first | refine w_z (d_absInt d (by omega) (by omega)) Zz Zz Zz Zz Zz Zz Zz Zz ft Zz Zz ?_ | refine w_A (d_absInt d (by omega) (by omega)) Zz Zz Zz Zz Zz Zz Zz Zz ft Zz Zz ?_) | (refine stq ?_ ?_ <;> (intro hc; ((try simp at hc) <;> try contradiction))) | fail)) <;> try (exfalso; omega))
  refine fin_ret rfl w_3 (congrArg AV.tup (by rw [q', e])) rfl
theorem d_floorN (n d : Int) (h1 : -1000000000000000000 ≤ n) (h2 : n ≤ 1000000000000000000) (hd : 0 < d) : Does Tryz.prog 185 [vI n, vI d] [] 1 (Ret (vI (n / d)) 1) := by
 refine Does.intro TT Tryz.func185 rfl (by kernel_rfl) Zz Zz fun E hE => ?_
 have hd0 : d ≠ 0 := by omega
 obtain ⟨c1, c2⟩ := tmod_cases n d hd0
 have q := df_quot n d hd0
 have m1 := Int.emod_nonneg n hd0
 have m2 := Int.emod_lt n hd0
 have m3 := Int.natAbs_ediv_le_natAbs n d
 have hq : n.tdiv d = if n.tmod d < 0 then n / d + 1 else n / d := by
  rw [Int.tdiv_eq_ediv]
  have ht := Int.tmod_eq_emod (a := n) (b := d)
  split
  ·rename_i h
   rw [if_pos h] at ht
   rw [if_neg (by omega)]; omega
  ·rename_i h
   rw [if_neg h] at ht
   rw [if_pos (by omega), Int.sign_eq_one_of_pos hd]
 have hmb := Int.natAbs_tdiv_le_natAbs n d
 by_cases hlt : n.tmod d < 0
 ·rw [if_pos hlt] at hq
  ((repeat' (first | refine stx ?_ | (refine stq ?_ ?_ <;> (intro hc; ((try simp at hc) <;> try contradiction))) | fail)) <;> try (exfalso; omega))
  refine fin_ret rfl w_3 (congrArg vI (by omega)) rfl
 ·rw [if_neg (by omega)] at hq
  ((repeat' (first | refine stx ?_ | (refine stq ?_ ?_ <;> (intro hc; ((try simp at hc) <;> try contradiction))) | fail)) <;> try (exfalso; omega))
  refine fin_ret rfl w_3 (congrArg vI (by omega)) rfl
set_option maxHeartbeats 1000000 in
theorem d_dfS (n d : Int) (hn : GB n) (hd : GB d) : Does Tryz.prog 178 [vI n, vI d] [] 1 (Ret (dfV n d) 1) := by
 refine Does.intro TT Tryz.func178 rfl (by kernel_rfl) Zz Zz fun E hE => ?_
 have g1 : -4611686018427387904 ≤ n ∧ n ≤ 400000000 := by rcases hn with h | h <;> (try unfold badN at h) <;> omega
 have g2 : -4611686018427387904 ≤ d ∧ d ≤ 400000000 := by rcases hd with h | h <;> (try unfold badN at h) <;> omega
 have a1 := d_numS n
 have a2 := d_numS d
 cases h1 : numB n
 ·rw [dfV_no (fun h => by rw [h1] at h; exact absurd h.1 (by decide))]
  rw [h1] at a1
  cases h2 : numB d <;> rw [h2] at a2
  all_goals by_cases h3 : d = 0
  all_goals ((repeat' (first | refine stx ?_ | refine zqc (a1) ?_ | refine zqc (a2) ?_ | (refine stq ?_ ?_ <;> (intro hc; ((try simp at hc) <;> try contradiction))) | fail)) <;> try (exfalso; omega))
  all_goals refine fin_ret rfl w_3 (rfl) rfl
 ·rw [h1] at a1
  cases h2 : numB d
  ·rw [dfV_no (fun h => by rw [h2] at h; exact absurd h.2.1 (by decide))]
   rw [h2] at a2
   ((repeat' (first | refine stx ?_ | refine zqc (a1) ?_ | refine zqc (a2) ?_ | (refine stq ?_ ?_ <;> (intro hc; ((try simp at hc) <;> try contradiction))) | fail)) <;> try (exfalso; omega))
   all_goals refine fin_ret rfl w_3 (rfl) rfl
  ·rw [h2] at a2
   by_cases h3 : d = 0
   ·rw [dfV_no (fun h => h.2.2 h3)]
    ((repeat' (first | refine stx ?_ | refine zqc (a1) ?_ | refine zqc (a2) ?_ | (refine stq ?_ ?_ <;> (intro hc; ((try simp at hc) <;> try contradiction))) | fail)) <;> try (exfalso; omega))
    all_goals refine fin_ret rfl w_3 (rfl) rfl
   ·rw [dfV_ok h1 h2 h3]
    have b1 := numB_true.1 h1
    have b2 := numB_true.1 h2
    have hfl := d_floorN n d.natAbs (by omega) (by omega) (by omega)
    have hab := d_l1Abs d (by omega) (by omega)
    have m1 := Int.emod_nonneg n h3
    have m2 := Int.emod_lt n h3
    have m3 := Int.natAbs_ediv_le_natAbs n d
    by_cases hlt : d < 0
    ·have ea : (d.natAbs : Int) = -d := by omega
     have eq : n / (d.natAbs : Int) = -(n / d) := by rw [ea, Int.ediv_neg]
     have e2 : n - (d.natAbs : Int) * (n / (d.natAbs : Int)) = n % d := by rw [eq, ea, Int.emod_def, Int.neg_mul_neg]
     have e3 : (d.natAbs : Int) * (n / (d.natAbs : Int)) = n - n % d := by omega
     rw [eq] at hfl
     rw [eq] at e2 e3
     ((repeat' (first | refine stx ?_ | refine zqc (a1) ?_ | refine zqc (a2) ?_ | refine zqc (hab) ?_ | refine zqc (hfl) ?_ | (refine stq ?_ ?_ <;> (intro hc; ((try simp at hc) <;> try contradiction))) | fail)) <;> try (exfalso; omega))
     all_goals refine fin_ret rfl w_3 (congrArg AV.tup (by rw [e2, Int.neg_neg])) rfl
    ·have ea : (d.natAbs : Int) = d := by omega
     have e2 : n - d * (n / d) = n % d := (Int.emod_def n d).symm
     have e3 : d * (n / d) = n - n % d := by omega
     rw [ea] at hfl hab
     ((repeat' (first | refine stx ?_ | refine zqc (a1) ?_ | refine zqc (a2) ?_ | refine zqc (hab) ?_ | refine zqc (hfl) ?_ | (refine stq ?_ ?_ <;> (intro hc; ((try simp at hc) <;> try contradiction))) | fail)) <;> try (exfalso; omega))
     all_goals refine fin_ret rfl w_3 (congrArg AV.tup (by rw [e2])) rfl
def AddR (t : TypeId) (cap : Nat) (xs : List Int) (c i j : Nat) (q : Int) (v : AV) (Hout : List (Nat × Blk)) (n1 : Nat) : Prop := ∃ ys : List Int, ys.length = xs.length ∧ (addOK xs c i j q c = true → ys = addX xs c i j q) ∧ v = vB (addOK xs c i j q c) ∧ Hout = [(1, .own t cap (.ints ys))] ∧ n1 = 2
theorem addOK_less {xs : List Int} {c i j : Nat} {q : Int} : ∀ {n k : Nat}, k < n → ¬ (numB (xs.getD (j * c + k) 0 * q) = true ∧ numB (addF xs c j q k (xs.getD (i * c + k) 0)) = true) → addOK xs c i j q n = false
  | 0, _, h, _ => by omega
  | n + 1, k, h, hb => by
    rcases Nat.lt_or_ge k n with e | e
    · rw [addOK, addOK_less e hb]; rfl
    · obtain rfl : k = n := by omega
      cases h1 : addOK xs c i j q (k + 1)
      · rfl
      · simp only [addOK, Bool.and_eq_true] at h1
        exact absurd h1.2 hb
theorem addOK_next {xs : List Int} {c i j k : Nat} {q : Int} (h : addOK xs c i j q k = true) (h1 : numB (xs.getD (j * c + k) 0 * q) = true) (h2 : numB (addF xs c j q k (xs.getD (i * c + k) 0)) = true) : addOK xs c i j q (k + 1) = true := by rw [addOK, h, h1, h2]; rfl
set_option maxHeartbeats 4000000 in
theorem d_addI (r c p t n ca cap : Nat) (q : Int) (xs : List Int) (hn : n = xs.length) (hx : xs.length = r * c) (hca : xs.length ≤ ca) (hr : r ≤ 24) (hc24 : c ≤ 24) (hp : p < r) (ht : t < r) (hne : p ≠ t) (hnum : xs.all numB = true) (hq : numB q = true) :
    Does Tryz.prog 191 [vM r c 1 n ca, .agg [.int 2, .int p, .int t, .int q]] [(1, .own 3 cap (.ints xs))] 2 (AddR 3 cap xs c p t q) := by
  have ha := row_apart (c := c) hne
  have h1 := row_in (c := c) hp
  have h2 := row_in (c := c) ht
  have hrc : r * c ≤ 576 := by have := Nat.mul_le_mul hr hc24; omega
  have hqb := numB_true.1 hq
  refine Does.intro TT Tryz.func191 rfl (by kernel_rfl) Zz Zz fun E hE => ?_
  ((repeat' (first | refine stx ?_ | ((refine zqe (d_rowAt r c p n ca xs hn hx hca hr hc24 hp) ?_); rintro v Hout n1 ⟨cp1, rfl, rfl, rfl⟩) | ((refine zqe (d_rowAt r c t n ca xs hn hx hca hr hc24 ht) ?_); rintro v Hout n1 ⟨cp2, rfl, rfl, rfl⟩) | (refine stq ?_ ?_ <;> (intro hc; ((try simp at hc) <;> try contradiction))) | fail)) <;> try (exfalso; omega))
  refine w_G hE (fun k : Nat => k ≤ c ∧ addOK xs c p t q k = true) (fun k => c - k)
    (fun k => [(3, .one (.ptr 3 4 0 0)), (5, vS 1 1 (p * c) c cp1), (6, vS 1 1 (t * c) c cp2), (18, vI c), (19, vI k)]) (fun k => [(1, .own 3 cap (.ints (updTo xs (p * c) (addF xs c t q) k))), (3, .own 74 1 (.lit [.int 2, .int p, .int t, .int q]))]) 4 [] 0 ⟨Nat.zero_le _, rfl⟩ ⟨w_1, w_2, rfl⟩ ?_
  rintro k ⟨hk, hok⟩
  have hlen : (updTo xs (p * c) (addF xs c t q) k).length = xs.length := updTo_len
  by_cases hkc : k < c
  · have e1 := off_nat (off := p * c) (k := k)
    have e2 := off_nat (off := t * c) (k := k)
    have a1 := updTo_at (xs := xs) (off := p * c) (f := addF xs c t q) (p := p * c + k) (k := k) (by omega)
    have a2 := updTo_at (xs := xs) (off := p * c) (f := addF xs c t q) (p := t * c + k) (k := k) (by omega)
    have b1 := num_getD hnum (p * c + k)
    have b2 := num_getD hnum (t * c + k)
    rw [← a1, ← e1] at b1
    rw [← a2, ← e2] at b2
    have hm := mul_bd (A := 400000000) (B := 400000000) (a := (updTo xs (p * c) (addF xs c t q) k).getD (t * c + (k : Int).toNat) 0) (b := q) (by omega) (by omega) (by omega) (by omega)
    have v1 : (updTo xs (p * c) (addF xs c t q) k).getD (t * c + (k : Int).toNat) 0 * q = xs.getD (t * c + k) 0 * q := by rw [e2, a2]
    have v2 : (updTo xs (p * c) (addF xs c t q) k).getD (p * c + (k : Int).toNat) 0 + (updTo xs (p * c) (addF xs c t q) k).getD (t * c + (k : Int).toNat) 0 * q = addF xs c t q k (xs.getD (p * c + k) 0) := by rw [e1, e2, a1, a2]; rfl
    have g1 := d_numI ((updTo xs (p * c) (addF xs c t q) k).getD (t * c + (k : Int).toNat) 0 * q)
    have g2 : ∀ z, z = addF xs c t q k (xs.getD (p * c + k) 0) → Does Tryz.prog 118 [vI z] [] 1 (Ret (vB (numB (addF xs c t q k (xs.getD (p * c + k) 0)))) 1) := fun z hz => by have := d_numI z; rwa [hz] at this ⊢
    rw [v1] at g1
    cases q1 : numB (xs.getD (t * c + k) 0 * q)
    · have hF : addOK xs c p t q c = false := addOK_less hkc fun h => by rw [q1] at h; exact absurd h.1 (by decide)
      rw [q1] at g1
      rw [← v1] at g1
      unfold AddR
      rw [hF]
      ((repeat' (first | refine stx ?_ | refine zqc (g1) ?_ | (refine stq ?_ ?_ <;> (intro hc; ((try simp at hc) <;> try contradiction))) | fail)) <;> try (exfalso; omega))
      exact fin rfl w_3 [] (vB false) [(1, .own 3 cap (.ints ((updTo xs (p * c) (addF xs c t q) k).set (p * c + (k : Int).toNat) ((updTo xs (p * c) (addF xs c t q) k).getD (p * c + (k : Int).toNat) 0 + (updTo xs (p * c) (addF xs c t q) k).getD (t * c + (k : Int).toNat) 0 * q))))] 2 ⟨_, by rw [List.length_set, hlen], (fun h => by cases h), rfl, rfl, rfl⟩ rfl ⟨trivial, ⟨rfl, trivial⟩, rfl⟩ rfl
    · rw [q1] at g1
      rw [← v1] at g1
      have hI : (p * c + (k : Int).toNat) < (updTo xs (p * c) (addF xs c t q) k).length := by omega
      have hZ : ((updTo xs (p * c) (addF xs c t q) k).set (p * c + (k : Int).toNat) ((updTo xs (p * c) (addF xs c t q) k).getD (p * c + (k : Int).toNat) 0 + (updTo xs (p * c) (addF xs c t q) k).getD (t * c + (k : Int).toNat) 0 * q)).getD (p * c + (k : Int).toNat) 0 = addF xs c t q k (xs.getD (p * c + k) 0) := by
        rw [← v2]
        rw [List.getD_eq_getElem?_getD, List.getElem?_set_self hI]; rfl
      have g3 := g2 _ hZ
      cases q2 : numB (addF xs c t q k (xs.getD (p * c + k) 0))
      · have hF : addOK xs c p t q c = false := addOK_less hkc fun h => by rw [q2] at h; exact absurd h.2 (by decide)
        rw [q2] at g3
        unfold AddR
        rw [hF]
        ((repeat' (first | refine stx ?_ | refine zqc (g1) ?_ | refine zqc (g3) ?_ | (refine stq ?_ ?_ <;> (intro hc; ((try simp at hc) <;> try contradiction))) | fail)) <;> try (exfalso; omega))
        exact fin rfl w_3 [] (vB false) [(1, .own 3 cap (.ints ((updTo xs (p * c) (addF xs c t q) k).set (p * c + (k : Int).toNat) ((updTo xs (p * c) (addF xs c t q) k).getD (p * c + (k : Int).toNat) 0 + (updTo xs (p * c) (addF xs c t q) k).getD (t * c + (k : Int).toNat) 0 * q))))] 2 ⟨_, by rw [List.length_set, hlen], (fun h => by cases h), rfl, rfl, rfl⟩ rfl ⟨trivial, ⟨rfl, trivial⟩, rfl⟩ rfl
      · rw [q2] at g3
        ((repeat' (first | refine stx ?_ | refine zqc (g1) ?_ | refine zqc (g3) ?_ | (refine stq ?_ ?_ <;> (intro hc; ((try simp at hc) <;> try contradiction))) | fail)) <;> try (exfalso; omega))
        refine ⟨[], k + 1, ⟨hkc, addOK_next hok q1 q2⟩, w_4, ⟨w_1, ⟨own_ints ?_, rfl, trivial⟩, rfl⟩⟩
        rw [v2, e1]; rfl
  · obtain rfl : k = c := by omega
    unfold AddR
    rw [hok]
    ((repeat' (first | refine stx ?_ | (refine stq ?_ ?_ <;> (intro hc; ((try simp at hc) <;> try contradiction))) | fail)) <;> try (exfalso; omega))
    exact fin rfl w_3 [] (vB true) [(1, .own 3 cap (.ints (updTo xs (p * k) (addF xs k t q) k)))] 2 ⟨_, hlen, fun _ => rfl, rfl, rfl, rfl⟩ rfl ⟨trivial, ⟨rfl, trivial⟩, rfl⟩ rfl
set_option maxHeartbeats 2000000 in
theorem d_negI (r c p n ca cap : Nat) (xs : List Int) (hn : n = xs.length) (hx : xs.length = r * c) (hca : xs.length ≤ ca) (hr : r ≤ 24) (hc24 : c ≤ 24) (hp : p < r) (hnum : xs.all numB = true) :
    Does Tryz.prog 191 [vM r c 1 n ca, .agg [.int 1, .int p, .int p, .int 0]] [(1, .own 3 cap (.ints xs))] 2 (DidM 3 cap (negX xs c p) true) := by
  have h1 := row_in (c := c) hp
  have hrc : r * c ≤ 576 := by have := Nat.mul_le_mul hr hc24; omega
  refine Does.intro TT Tryz.func191 rfl (by kernel_rfl) Zz Zz fun E hE => ?_
  ((repeat' (first | refine stx ?_ | ((refine zqe (d_rowAt r c p n ca xs hn hx hca hr hc24 hp) ?_); rintro v Hout n1 ⟨cp1, rfl, rfl, rfl⟩) | (refine stq ?_ ?_ <;> (intro hc; ((try simp at hc) <;> try contradiction))) | fail)) <;> try (exfalso; omega))
  rename_i cp2
  refine w_G hE (fun k : Nat => k ≤ c) (fun k => c - k)
    (fun k => [(3, .one (.ptr 3 4 0 0)), (5, vS 1 1 (p * c) c cp2), (6, vS 1 1 (p * c) c cp1), (18, vI c), (19, vI k)]) (fun k => [(1, .own 3 cap (.ints (updTo xs (p * c) (fun _ v => -v) k))), (3, .own 74 1 (.lit [.int 1, .int p, .int p, .int 0]))]) 4 [] 0 (Nat.zero_le _) ⟨w_1, w_2, rfl⟩ ?_
  intro k hk
  have hlen : (updTo xs (p * c) (fun _ v => -v) k).length = xs.length := updTo_len
  by_cases hkc : k < c
  · have e1 := off_nat (off := p * c) (k := k)
    have a1 := updTo_at (xs := xs) (off := p * c) (f := fun _ v => -v) (p := p * c + k) (k := k) (by omega)
    have b1 := num_getD hnum (p * c + k)
    rw [← a1, ← e1] at b1
    ((repeat' (first | refine stx ?_ | (refine stq ?_ ?_ <;> (intro hc; ((try simp at hc) <;> try contradiction))) | fail)) <;> try (exfalso; omega))
    refine ⟨[], k + 1, hkc, w_4, ⟨w_1, ⟨own_ints ?_, rfl, trivial⟩, rfl⟩⟩
    rw [e1, a1]; rfl
  · obtain rfl : k = c := by omega
    ((repeat' (first | refine stx ?_ | (refine stq ?_ ?_ <;> (intro hc; ((try simp at hc) <;> try contradiction))) | fail)) <;> try (exfalso; omega))
    exact fin rfl w_3 [] (vB true) [(1, .own 3 cap (.ints (updTo xs (p * k) (fun _ v => -v) k)))] 2 ⟨rfl, rfl, rfl⟩ rfl ⟨trivial, ⟨rfl, trivial⟩, rfl⟩ rfl
theorem GB.rng {n : Int} (h : GB n) : -4611686018427387904 ≤ n ∧ n ≤ 400000000 := by rcases h with h | h <;> (try unfold badN at h) <;> omega
theorem GB.num {n : Int} (h : GB n) (hb : n ≠ -4611686018427387904) : -400000000 ≤ n ∧ n ≤ 400000000 := by
  rcases h with h | h
  · exact h
  · exact absurd h hb
theorem d_fitV (n : Int) (h : -4611686018427387904 ≤ n ∧ n ≤ 4611686018427387904) : Does Tryz.prog 143 [vI n] [] 1 (Ret (vI (fitV n)) 1) := by
 refine Does.intro TT Tryz.func143 rfl (by kernel_rfl) Zz Zz fun E hE => ?_
 have g := d_l1In n (-400000000) 400000000
 have e : fitV n = if inB n (-400000000) 400000000 then n else -4611686018427387904 := rfl
 cases hb : inB n (-400000000) 400000000
 all_goals
  rw [hb] at g e
  rw [e]
  ((repeat' (first | refine stx ?_ | refine zqc (g) ?_ | (refine stq ?_ ?_ <;> (intro hc; ((try simp at hc) <;> try contradiction))) | fail)) <;> try (exfalso; omega))
  all_goals refine fin_ret rfl w_3 (rfl) rfl
theorem d_mulV (a b : Int) (ha : GB a) (hb : GB b) : Does Tryz.prog 145 [vI a, vI b] [] 1 (Ret (vI (mulV a b)) 1) := by
 refine Does.intro TT Tryz.func145 rfl (by kernel_rfl) Zz Zz fun E hE => ?_
 have h1 := ha.rng
 have h2 := hb.rng
 by_cases ca : a = -4611686018427387904
 ·have e : mulV a b = -4611686018427387904 := if_pos (.inl ca)
  rw [e]
  ((repeat' (first | refine stx ?_ | (refine stq ?_ ?_ <;> (intro hc; ((try simp at hc) <;> try contradiction))) | fail)) <;> try (exfalso; omega))
  all_goals refine fin_ret rfl w_3 (rfl) rfl
 ·by_cases cb : b = -4611686018427387904
  ·have e : mulV a b = -4611686018427387904 := if_pos (.inr cb)
   rw [e]
   ((repeat' (first | refine stx ?_ | (refine stq ?_ ?_ <;> (intro hc; ((try simp at hc) <;> try contradiction))) | fail)) <;> try (exfalso; omega))
   all_goals refine fin_ret rfl w_3 (rfl) rfl
  ·have e : mulV a b = fitV (a * b) := if_neg fun h => h.elim ca cb
   have g1 := ha.num ca
   have g2 := hb.num cb
   have hm := mul_bd g1.1 g1.2 g2.1 g2.2
   rw [e]
   ((repeat' (first | refine stx ?_ | (first | refine w_z (d_fitV (a * b) (by omega)) Zz Zz Zz Zz Zz Zz Zz Zz ft Zz Zz ?_ | refine w_A (d_fitV (a * b) (by omega)) Zz Zz Zz Zz Zz Zz Zz Zz ft Zz Zz ?_) | (refine stq ?_ ?_ <;> (intro hc; ((try simp at hc) <;> try contradiction))) | fail)) <;> try (exfalso; omega))
   all_goals refine fin_ret rfl w_3 (rfl) rfl
theorem d_addV (a b : Int) (ha : GB a) (hb : GB b) : Does Tryz.prog 146 [vI a, vI b] [] 1 (Ret (vI (addV a b)) 1) := by
 refine Does.intro TT Tryz.func146 rfl (by kernel_rfl) Zz Zz fun E hE => ?_
 have h1 := ha.rng
 have h2 := hb.rng
 by_cases ca : a = -4611686018427387904
 ·have e : addV a b = -4611686018427387904 := if_pos (.inl ca)
  rw [e]
  ((repeat' (first | refine stx ?_ | (refine stq ?_ ?_ <;> (intro hc; ((try simp at hc) <;> try contradiction))) | fail)) <;> try (exfalso; omega))
  all_goals refine fin_ret rfl w_3 (rfl) rfl
 ·by_cases cb : b = -4611686018427387904
  ·have e : addV a b = -4611686018427387904 := if_pos (.inr cb)
   rw [e]
   ((repeat' (first | refine stx ?_ | (refine stq ?_ ?_ <;> (intro hc; ((try simp at hc) <;> try contradiction))) | fail)) <;> try (exfalso; omega))
   all_goals refine fin_ret rfl w_3 (rfl) rfl
  ·have e : addV a b = fitV (a + b) := if_neg fun h => h.elim ca cb
   have g1 := ha.num ca
   have g2 := hb.num cb
   rw [e]
   ((repeat' (first | refine stx ?_ | (first | refine w_z (d_fitV (a + b) (by omega)) Zz Zz Zz Zz Zz Zz Zz Zz ft Zz Zz ?_ | refine w_A (d_fitV (a + b) (by omega)) Zz Zz Zz Zz Zz Zz Zz Zz ft Zz Zz ?_) | (refine stq ?_ ?_ <;> (intro hc; ((try simp at hc) <;> try contradiction))) | fail)) <;> try (exfalso; omega))
   all_goals refine fin_ret rfl w_3 (rfl) rfl
set_option maxHeartbeats 2000000 in
theorem d_doS (r c p t n ca cap : Nat) (q : Int) (xs : List Int) (hn : n = xs.length) (hx : xs.length = r * c) (hr : r ≤ 24) (hc24 : c ≤ 24) (hp : p < r) (ht : t < r) (hne : p ≠ t) (hg : GBs xs) (hq : GB q) :
    Does Tryz.prog 109 [vM r c 1 n ca, .agg [.int 2, .int p, .int t, .int q]] [(1, .own 3 cap (.ints xs))] 2 (SetM 3 cap (doX xs c p t q)) := by
  have ha := row_apart (c := c) hne
  have h1 := row_in (c := c) hp
  have h2 := row_in (c := c) ht
  have hqr := hq.rng
  refine Does.intro TT Tryz.func109 rfl (by kernel_rfl) Zz Zz fun E hE => ?_
  ((repeat' (first | refine stx ?_ | (refine stq ?_ ?_ <;> (intro hc; ((try simp at hc) <;> try contradiction))) | fail)) <;> try (exfalso; omega))
  refine w_G hE (fun k : Nat => k ≤ c) (fun k => c - k)
    (fun k => [(2, .one (.ptr 2 3 0 0)), (3, .one (.ptr 3 4 0 0)), (4, vI k)]) (fun k => [(1, .own 3 cap (.ints (updTo xs (p * c) (doF xs c t q) k))), (2, .own 26 1 (.lit [.int r, .int c, .sl 1 1 0 n ca])), (3, .own 74 1 (.lit [.int 2, .int p, .int t, .int q]))]) 4 [] 0 (Nat.zero_le _) ⟨w_1, w_2, rfl⟩ ?_
  intro k hk
  have hlen : (updTo xs (p * c) (doF xs c t q) k).length = xs.length := updTo_len
  by_cases hkc : k < c
  · have b1 := cell_facts hp hkc hr hc24
    have b2 := cell_facts ht hkc hr hc24
    have e1 := cell_nat (p := p) (k := k) (c := c)
    have e2 := cell_nat (p := t) (k := k) (c := c)
    have a1 := updTo_at (xs := xs) (off := p * c) (f := doF xs c t q) (p := p * c + k) (k := k) (by omega)
    have a2 := updTo_at (xs := xs) (off := p * c) (f := doF xs c t q) (p := t * c + k) (k := k) (by omega)
    have v1 := hg (p * c + k)
    have v2 := hg (t * c + k)
    rw [← a1, ← e1] at v1
    rw [← a2, ← e2] at v2
    have g1 := d_mulV _ q v2 hq
    have g2 := d_addV _ _ v1 (GB.mul ((updTo xs (p * c) (doF xs c t q) k).getD (0 + ((t : Int) * c + k).toNat) 0) q)
    have hv : addV ((updTo xs (p * c) (doF xs c t q) k).getD (0 + ((p : Int) * c + k).toNat) 0) (mulV ((updTo xs (p * c) (doF xs c t q) k).getD (0 + ((t : Int) * c + k).toNat) 0) q) = doF xs c t q k (xs.getD (p * c + k) 0) := by rw [e1, e2, a1, a2]; rfl
    ((repeat' (first | refine stp ?_ | (refine stq ?_ ?_ <;> (intro hc; ((try simp at hc) <;> try contradiction))) | fail)) <;> try (exfalso; omega))
    refine awp_held TM [(2, _), (3, _)] sb rfl (fun ρs => ?_)
    refine zt0 ?_
    refine zt1 ?_
    refine zt2 ?_
    refine zt3 ?_
    refine zt4 ?_
    refine zt5 ?_
    refine zt6 ?_
    refine zt7 ?_
    refine zt8 ?_
    refine zt9 ?_
    refine zt10 ?_
    refine zt11 ?_
    refine zt12 ?_
    refine w_u [13] kr rfl ⟨?_, trivial⟩
    first | (refine zho ?_) | refine zqb (g1) ?_ | refine zqb (g2) ?_
    refine w_u [14] kr rfl ⟨?_, trivial⟩
    first | (refine zho ?_) | refine zqb (g1) ?_ | refine zqb (g2) ?_
    refine zt15 ?_
    refine w_u [16] kr rfl ⟨?_, trivial⟩
    first | (refine zho ?_) | refine zqb (g1) ?_ | refine zqb (g2) ?_
    refine w_v kr ?_
    rotate_left
    all_goals ((repeat' (first | refine stp ?_ | (refine stq ?_ ?_ <;> (intro hc; ((try simp at hc) <;> try contradiction))) | fail)) <;> try (exfalso; omega))
    all_goals
      refine ⟨[], k + 1, hkc, w_4, ⟨w_1, ⟨own_ints ?_, rfl, rfl, trivial⟩, rfl⟩⟩
      rw [hv, e1]; rfl
  · obtain rfl : k = c := by omega
    ((repeat' (first | refine stx ?_ | (refine stq ?_ ?_ <;> (intro hc; ((try simp at hc) <;> try contradiction))) | fail)) <;> try (exfalso; omega))
    exact fin_n rfl w_3 [] (.tup []) [(1, .own 3 cap (.ints (updTo xs (p * k) (doF xs k t q) k)))] 2 ⟨rfl, rfl, rfl⟩ rfl ⟨trivial, ⟨rfl, trivial⟩, rfl⟩ rfl
set_option maxHeartbeats 2000000 in
theorem d_ngS (r c p n ca cap : Nat) (xs : List Int) (hn : n = xs.length) (hx : xs.length = r * c) (hr : r ≤ 24) (hc24 : c ≤ 24) (hp : p < r) (hg : GBs xs) :
    Does Tryz.prog 109 [vM r c 1 n ca, .agg [.int 1, .int p, .int p, .int 0]] [(1, .own 3 cap (.ints xs))] 2 (SetM 3 cap (ngX xs c p)) := by
  have h1 := row_in (c := c) hp
  refine Does.intro TT Tryz.func109 rfl (by kernel_rfl) Zz Zz fun E hE => ?_
  ((repeat' (first | refine stx ?_ | (refine stq ?_ ?_ <;> (intro hc; ((try simp at hc) <;> try contradiction))) | fail)) <;> try (exfalso; omega))
  refine w_G hE (fun k : Nat => k ≤ c) (fun k => c - k)
    (fun k => [(2, .one (.ptr 2 3 0 0)), (3, .one (.ptr 3 4 0 0)), (4, vI k)]) (fun k => [(1, .own 3 cap (.ints (updTo xs (p * c) (fun _ v => mulV v (-1)) k))), (2, .own 26 1 (.lit [.int r, .int c, .sl 1 1 0 n ca])), (3, .own 74 1 (.lit [.int 1, .int p, .int p, .int 0]))]) 4 [] 0 (Nat.zero_le _) ⟨w_1, w_2, rfl⟩ ?_
  intro k hk
  have hlen : (updTo xs (p * c) (fun _ v => mulV v (-1)) k).length = xs.length := updTo_len
  by_cases hkc : k < c
  · have b1 := cell_facts hp hkc hr hc24
    have e1 := cell_nat (p := p) (k := k) (c := c)
    have a1 := updTo_at (xs := xs) (off := p * c) (f := fun _ v => mulV v (-1)) (p := p * c + k) (k := k) (by omega)
    have v1 := hg (p * c + k)
    rw [← a1, ← e1] at v1
    have g1 := d_mulV _ (-1) v1 (.inl (by omega))
    ((repeat' (first | refine stp ?_ | (refine stq ?_ ?_ <;> (intro hc; ((try simp at hc) <;> try contradiction))) | fail)) <;> try (exfalso; omega))
    refine awp_held TM [(2, _), (3, _)] sb rfl (fun ρs => ?_)
    refine zt0 ?_
    refine zt1 ?_
    refine zt2 ?_
    refine zt3 ?_
    refine zt4 ?_
    refine zt5 ?_
    refine zt6 ?_
    refine zt7 ?_
    refine zt8 ?_
    refine zt9 ?_
    refine w_u [10] kr rfl ⟨?_, trivial⟩
    first | (refine zho ?_) | refine zqb (g1) ?_
    refine zt11 ?_
    refine w_u [12] kr rfl ⟨?_, trivial⟩
    first | (refine zho ?_) | refine zqb (g1) ?_
    refine w_v kr ?_
    rotate_left
    all_goals ((repeat' (first | refine stp ?_ | (refine stq ?_ ?_ <;> (intro hc; ((try simp at hc) <;> try contradiction))) | fail)) <;> try (exfalso; omega))
    all_goals
      refine ⟨[], k + 1, hkc, w_4, ⟨w_1, ⟨own_ints ?_, rfl, rfl, trivial⟩, rfl⟩⟩
      rw [e1, a1]; rfl
  · obtain rfl : k = c := by omega
    ((repeat' (first | refine stx ?_ | (refine stq ?_ ?_ <;> (intro hc; ((try simp at hc) <;> try contradiction))) | fail)) <;> try (exfalso; omega))
    exact fin_n rfl w_3 [] (.tup []) [(1, .own 3 cap (.ints (updTo xs (p * k) (fun _ v => mulV v (-1)) k)))] 2 ⟨rfl, rfl, rfl⟩ rfl ⟨trivial, ⟨rfl, trivial⟩, rfl⟩ rfl
end Go.Proofs.YtekpamojojfplaaGreat
namespace Go.Proofs.YtekpamojojfplaaGreat
open Go.RowKit
def workL (kx ku kv : Nat) (a b nx cx cu cv : Nat) (bad : Bool) : List SV := [.int a, .int b, .sl kx 1 0 nx cx, .int a, .int a, .sl ku 1 0 (a * a) cu, .int b, .int b, .sl kv 1 0 (b * b) cv, .bool bad]
abbrev vW : AV := .one (.ptr 2 10 0 0)
abbrev vO (k i j q : Int) : AV := .agg [.int k, .int i, .int j, .int q]
def NewW (t tw : TypeId) (a b : Nat) (xs : List Int) (v : AV) (Hout : List (Nat × Blk)) (n1 : Nat) : Prop := ∃ cx, xs.length ≤ cx ∧ v = .one (.ptr 5 10 0 0) ∧ Hout = [(2, .own t cx (.ints xs)), (3, .own t (a * a) (.ints (idTo a a))), (4, .own t (b * b) (.ints (idTo b b))), (5, .own tw 1 (.lit (workL 2 3 4 a b xs.length cx (a * a) (b * b) false)))] ∧ n1 = 6
def DidW (t tw : TypeId) (a b nx cx cu cv : Nat) (o : Option TwoL) (n : Nat) (v : AV) (Hout : List (Nat × Blk)) (n1 : Nat) : Prop := v = .tup [] ∧ n1 = n ∧ match o with
  | some s => Hout = [(2, .own tw 1 (.lit (workL 3 4 5 a b nx cx cu cv false))), (3, .own t cx (.ints s.1)), (4, .own t cu (.ints s.2))]
  | none => ∃ ys zs : List Int, Hout = [(2, .own tw 1 (.lit (workL 3 4 5 a b nx cx cu cv true))), (3, .own t cx (.ints ys)), (4, .own t cu (.ints zs))]
def pI : Option Nat → Int
  | none => -1
  | some p => p
end Go.Proofs.YtekpamojojfplaaGreat
namespace Go.Proofs.YtekpamojojfplaaGreat
open Go.RowKit
end Go.Proofs.YtekpamojojfplaaGreat
namespace Go.Proofs.YtekpamojojfplaaGreat
open Go.RowKit
theorem swapTo_in {xs : List Int} {o1 o2 k : Nat} : ∀ {n : Nat}, k < n → (o1 + n ≤ o2 ∨ o2 + n ≤ o1) → o1 + n ≤ xs.length → o2 + n ≤ xs.length → (swapTo xs o1 o2 n).getD (o1 + k) 0 = xs.getD (o2 + k) 0 ∧ (swapTo xs o1 o2 n).getD (o2 + k) 0 = xs.getD (o1 + k) 0
  | 0, h, _, _, _ => by omega
  | n + 1, h, ha, h1, h2 => by
    have hl : (swapTo xs o1 o2 n).length = xs.length := swapTo_len
    rw [swapTo, getD_set, getD_set, getD_set, getD_set]
    simp only [List.length_set, hl]
    rcases Nat.lt_or_ge k n with e | e
    · obtain ⟨i1, i2⟩ := swapTo_in (xs := xs) (o1 := o1) (o2 := o2) e (by omega) (by omega) (by omega)
      rw [if_neg (by omega), if_neg (by omega), if_neg (by omega), if_neg (by omega)]
      exact ⟨i1, i2⟩
    · obtain rfl : k = n := by omega
      rw [if_neg (by omega), if_pos ⟨rfl, by omega⟩, if_pos ⟨rfl, by omega⟩]
      exact ⟨rfl, rfl⟩
def HermR (t : TypeId) (r c : Int) (o : Option TwoL) (k : Nat) (v : AV) (Hout : List (Nat × Blk)) (n1 : Nat) : Prop := match o with
  | none => v = .tup [.agg zeroM, .agg zeroM, .one (.bool false)] ∧ Hout = [] ∧ n1 = k
  | some s => ∃ cx cu, s.1.length ≤ cx ∧ s.2.length ≤ cu ∧ v = .tup [.agg [.int r, .int c, .sl k 1 0 s.1.length cx], .agg [.int r, .int r, .sl (k + 1) 1 0 s.2.length cu], .one (.bool true)] ∧ Hout = [(k, .own t cx (.ints s.1)), (k + 1, .own t cu (.ints s.2))] ∧ n1 = k + 2
abbrev hH (tm tw t : TypeId) (a b nx ca cx : Nat) (s : TwoL) (bad : Bool) : List (Nat × Blk) := [(2, .own tw 1 (.lit (workL 3 4 5 a b nx cx (a * a) (b * b) bad))), (3, .own t cx (.ints s.1)), (4, .own t (a * a) (.ints s.2)), (6, .own tm 1 (.lit [.int a, .int b, .sl 1 1 0 nx ca])), (7, .own tm 1 (.lit zeroM)), (8, .own tm 1 (.lit zeroM))]
abbrev hF (j t : Int) : List (Nat × AV) := [(1, .one (.ptr 6 3 0 0)), (2, .one (.ptr 7 3 0 0)), (3, .one (.ptr 8 3 0 0)), (5, vW), (6, vI t), (7, vI j)]
end Go.Proofs.YtekpamojojfplaaGreat
namespace Go.Proofs.YtekpamojojfplaaGreat
theorem addX_cell {xs : List Int} {r c i i' j k : Nat} {q : Int} (hl : xs.length = r * c) (hi : i < r) (hk : k < c) : (addX xs c i j q).getD (i' * c + k) 0 = if i' = i then xs.getD (i * c + k) 0 + xs.getD (j * c + k) 0 * q else xs.getD (i' * c + k) 0 := by
  by_cases h : i' = i
  · subst h
    rw [if_pos rfl, addX_row hl hi hk]
  · rw [if_neg h, addX_other h hk]
theorem swap_cell {xs : List Int} {r c p t i k : Nat} (hl : xs.length = r * c) (hp : p < r) (ht : t < r) (hne : p ≠ t) (hk : k < c) : (swapTo xs (p * c) (t * c) c).getD (i * c + k) 0 = if i = p then xs.getD (t * c + k) 0 else if i = t then xs.getD (p * c + k) 0 else xs.getD (i * c + k) 0 := by
  have h := swapTo_in (xs := xs) (o1 := p * c) (o2 := t * c) hk (row_apart hne) (by rw [hl]; exact row_in hp) (by rw [hl]; exact row_in ht)
  by_cases h1 : i = p
  · subst h1
    rw [if_pos rfl]; exact h.1
  · rw [if_neg h1]
    by_cases h2 : i = t
    · subst h2
      rw [if_pos rfl]; exact h.2
    · rw [if_neg h2]
      have a1 := row_apart (c := c) h1
      have a2 := row_apart (c := c) h2
      exact swapTo_at (by omega) (by omega)
theorem neg_cell {xs : List Int} {r c t i k : Nat} (hl : xs.length = r * c) (ht : t < r) (hk : k < c) : (negX xs c t).getD (i * c + k) 0 = if i = t then -xs.getD (t * c + k) 0 else xs.getD (i * c + k) 0 := by
  by_cases h : i = t
  · subst h
    rw [if_pos rfl, negX, updTo_in hk (by rw [hl]; exact row_in ht)]
  · rw [if_neg h]
    have a1 := row_apart (c := c) h
    exact updTo_at (by omega)
structure Low (r c t j : Nat) (xs ys : List Int) : Prop where
  keep : ∀ i k, i < t → k < c → ys.getD (i * c + k) 0 = xs.getD (i * c + k) 0
  zero : ∀ i k, t ≤ i → i < r → k < j → ys.getD (i * c + k) 0 = 0
theorem Low.add {r c t j i p jj : Nat} {q : Int} {xs : List Int} {s s' : TwoL} (h : Low r c t j xs s.1) (o : OKs r c s) (hj : j ≤ c) (hi : t ≤ i ∧ i < r) (hp : t ≤ p ∧ p < r) (he : addS c r i p q s = some s') : Low r c t j xs s'.1 := by
  unfold addS at he
  split at he
  · cases he
    refine ⟨fun i' k h1 h2 => ?_, fun i' k h1 h2 h3 => ?_⟩
    · try dsimp only
      rw [addX_cell o.1 hi.2 h2, if_neg (by omega)]
      exact h.keep i' k h1 h2
    · try dsimp only
      rw [addX_cell o.1 hi.2 (by omega)]
      split
      · rename_i e
        rw [h.zero i k hi.1 hi.2 h3, h.zero p k hp.1 hp.2 h3]; omega
      · exact h.zero i' k h1 h2 h3
  · cases he
theorem Low.rnd {r c t j p jj : Nat} {xs : List Int} {s0 : TwoL} (o0 : OKs r c s0) (hj : j ≤ c) (hp : t ≤ p ∧ p < r) (h0 : Low r c t j xs s0.1) : ∀ {n : Nat} {s : TwoL}, t + n ≤ r → rndTo r c t p jj s0 n = some s → Low r c t j xs s.1
  | 0, s, _, he => by cases he; exact h0
  | n + 1, s, hn, he => by
    simp only [rndTo, Option.bind_eq_some_iff] at he
    obtain ⟨x, h1, h2⟩ := he
    have ih := Low.rnd (jj := jj) o0 hj hp h0 (n := n) (by omega) h1
    have o1 := rndTo_ok o0 h1
    unfold rndAt at h2
    split at h2
    · exact Low.add (jj := jj) ih o1 hj ⟨by omega, by omega⟩ hp h2
    · cases h2; exact ih
structure Shape (r c j t : Nat) (xs : List Int) (pv : Nat → Nat) : Prop where
  pos : ∀ i, i < t → pv i < j ∧ 0 < xs.getD (i * c + pv i) 0
  left : ∀ i k, i < t → k < pv i → xs.getD (i * c + k) 0 = 0
  mono : ∀ i i', i < i' → i' < t → pv i < pv i'
  zero : ∀ i k, t ≤ i → i < r → k < j → xs.getD (i * c + k) 0 = 0
end Go.Proofs.YtekpamojojfplaaGreat
namespace Go.Proofs.YtekpamojojfplaaGreat
open Go.RowKit
theorem d_cellH (a b i j n cap : Nat) (xs : List Int) (hn : n = xs.length) (hx : xs.length = a * b) (ha : a ≤ 24) (hb : b ≤ 24) (hi : i < a) (hj : j < b) : Does Tryz.prog 101 [vM a b 1 n cap, vI i, vI j] [(1, .ro (.ints xs))] 2 (Ret (vI (xs.getD (i * b + j) 0)) 2) := by
 subst hn
 refine Does.intro TT Tryz.func101 rfl (by kernel_rfl) Zz Zz fun E hE => ?_
 have hcell := cell_facts hi hj ha hb
 have hab : a * b ≤ 24 * 24 := Nat.mul_le_mul ha hb
 have ecell := cell_nat (p := i) (k := j) (c := b)
 ((repeat' (first | refine stx ?_ | (refine stq ?_ ?_ <;> (intro hc; ((try simp at hc) <;> try contradiction))) | fail)) <;> try (exfalso; omega))
 refine fin_ret rfl w_3 (congrArg vI (by rw [ecell])) rfl
end Go.Proofs.YtekpamojojfplaaGreat
namespace Go.Proofs.YtekpamojojfplaaGreat
open Go.RowKit
abbrev hHS (tm t : TypeId) (a b nx cx : Nat) (s : TwoL) : List (Nat × Blk) := [(1, .own t cx (.ints s.1)), (2, .own t (a * a) (.ints s.2)), (3, .own tm 1 (.lit [.int a, .int b, .sl 1 1 0 nx cx])), (4, .own tm 1 (.lit [.int a, .int a, .sl 2 1 0 (a * a) (a * a)]))]
abbrev hFS (j t : Int) : List (Nat × AV) := [(2, .one (.ptr 3 3 0 0)), (3, .one (.ptr 4 3 0 0)), (5, vI t), (6, vI j)]
def HermT (t : TypeId) (cx cu : Nat) (o : Option (TwoL × Nat)) (v : AV) (Hout : List (Nat × Blk)) (n1 : Nat) : Prop := n1 = 3 ∧ match o with
  | some s => v = vB true ∧ Hout = [(1, .own t cx (.ints s.1.1)), (2, .own t cu (.ints s.1.2))]
  | none => v = vB false ∧ ∃ ys zs : List Int, Hout = [(1, .own t cx (.ints ys)), (2, .own t cu (.ints zs))]
end Go.Proofs.YtekpamojojfplaaGreat
