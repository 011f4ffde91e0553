/-
  CONTRACTS: the mixing of the laws: a matrix of determinant 1, made by row operations that the bytes of a code draw.
-/
import Derived.Test.YtekpamojojfplaaGreatD20
import Derived.Test.YtekpamojojfplaaGreatD21
import Derived.Test.YtekpamojojfplaaGreatD11
import Derived.Test.YtekpamojojfplaaGreatD09
import Derived.Test.YtekpamojojfplaaGreatDpIsF
import Derived.Test.YtekpamojojfplaaGreatDStpN
set_option linter.unusedVariables false
set_option linter.unusedSimpArgs false
namespace Go.Proofs.YtekpamojojfplaaGreat
open Go.RowKit

theorem wrapV_u8 {n : Int} (h : 0 ≤ n ∧ n ≤ 255) : wrapV n = n := by
  unfold wrapV
  exact wrap_in (by unfold InR; omega)
theorem mix_idx {n k m : Int} (h1 : 1 < n) (hk : 0 ≤ k ∧ k < n) (hm : 0 ≤ m ∧ m < n - 1) : 0 ≤ (k + 1 + m).tmod n ∧ (k + 1 + m).tmod n < n ∧ k ≠ (k + 1 + m).tmod n := by
  rw [Int.tmod_eq_emod_of_nonneg (by omega)]
  rcases Int.lt_or_le (k + 1 + m) n with c | c
  · rw [Int.emod_eq_of_lt (by omega) c]; omega
  · have e : (k + 1 + m) % n = (k + 1 + m - n) % n := (Int.sub_emod_right _ _).symm
    rw [e, Int.emod_eq_of_lt (by omega) (by omega)]; omega
theorem mul_small {a q B : Int} (h : -B ≤ a ∧ a ≤ B) (hq : -1 ≤ q ∧ q ≤ 1) : -B ≤ a * q ∧ a * q ≤ B := by
  obtain rfl | rfl | rfl : q = -1 ∨ q = 0 ∨ q = 1 := by omega
  all_goals omega
theorem addOK_small {xs : List Int} {c i j : Nat} {q B : Int} (hb : Bnd xs B) (hB : B ≤ 1000) (hq : -1 ≤ q ∧ q ≤ 1) : ∀ n, addOK xs c i j q n = true
  | 0 => rfl
  | n + 1 => by
    have h1 := mul_small (hb (j * c + n)) hq
    have h2 := hb (i * c + n)
    rw [addOK, addOK_small hb hB hq n, Bool.true_and, Bool.and_eq_true]
    refine ⟨numB_true.2 (by omega), numB_true.2 ?_⟩
    show -400000000 ≤ xs.getD (i * c + n) 0 + xs.getD (j * c + n) 0 * q ∧ xs.getD (i * c + n) 0 + xs.getD (j * c + n) 0 * q ≤ 400000000
    omega
theorem addX_bnd {xs : List Int} {n i j : Nat} {q B : Int} (hl : xs.length = n * n) (hi : i < n) (hb : Bnd xs B) (hq : -1 ≤ q ∧ q ≤ 1) : Bnd (addX xs n i j q) (2 * B) := fun p => by
  have h0 := hb 0
  by_cases c : p < n * n
  · have hn : 0 < n := by omega
    have h1 := addX_cell (xs := xs) (i := i) (i' := p / n) (j := j) (k := p % n) (q := q) hl hi (Nat.mod_lt _ hn)
    have e : p / n * n + p % n = p := by rw [Nat.mul_comm]; exact Nat.div_add_mod p n
    rw [e] at h1
    rw [h1]
    have h2 := hb (i * n + p % n)
    have h3 := mul_small (hb (j * n + p % n)) hq
    have h4 := hb p
    split <;> omega
  · rw [List.getD_eq_getElem?_getD, List.getElem?_eq_none (by rw [addX_len, hl]; omega)]
    simp; omega
theorem addX_det {xs : List Int} {n i j : Nat} {q : Int} (hl : xs.length = n * n) (hi : i < n) (hj : j < n) (hij : i ≠ j) : detF n (mxL n (addX xs n i j q)) = detF n (mxL n xs) :=
  detF_add hi hj hij fun a b _ hb => addX_cell hl hi hb
theorem det_idF : ∀ n, detF n idF = 1
  | 0 => rfl
  | n + 1 => by
    rw [detF, sg_single (p := 0) (by omega) fun k _ hk => by
      show sgnN k * (if 0 = k then 1 else 0) * _ = 0
      rw [if_neg (fun e => hk e.symm)]; grind]
    have e : detF n (minF idF 0 0) = detF n idF := detF_congr fun a b _ _ => by
      show (if skp 0 a = skp 0 b then (1 : Int) else 0) = if a = b then 1 else 0
      unfold skp
      by_cases h : a = b
      · subst h; rw [if_pos rfl, if_pos rfl]
      · rw [if_neg (show ¬ a < 0 by omega), if_neg (show ¬ b < 0 by omega), if_neg (by omega), if_neg h]
    rw [e, det_idF n]
    show sgnN 0 * (if 0 = 0 then 1 else 0) * 1 = 1
    rw [if_pos rfl]; rfl
theorem det_idTo {n : Nat} : detF n (mxL n (idTo n n)) = 1 := by
  rw [← det_idF n]
  refine detF_congr fun i j hi hj => ?_
  have hl : i * n + j < (idTo n n).length := by rw [idTo_len]; exact cell_lt hi hj
  show (idTo n n).getD (i * n + j) 0 = if i = j then 1 else 0
  rw [List.getD_eq_getElem?_getD, List.getElem?_eq_getElem hl, Option.getD_some]
  simp only [idTo, List.getElem_map, List.getElem_range]
  have e1 : (i * n + j) / n = i := by
    rw [Nat.mul_comm, Nat.mul_add_div (by omega), Nat.div_eq_of_lt hj, Nat.add_zero]
  have e2 : (i * n + j) % n = j := by
    rw [Nat.mul_comm, Nat.mul_add_mod, Nat.mod_eq_of_lt hj]
  rw [e1, e2]
  by_cases h : i = j
  · rw [if_pos ⟨h, hi⟩, if_pos h]
  · rw [if_neg (fun e => h e.1), if_neg h]
def p2 : Nat → Int
  | 0 => 1
  | n + 1 => 2 * p2 n
theorem p2_le {n : Nat} (h : n ≤ 6) : 0 ≤ p2 n ∧ p2 n ≤ 64 := by
  match n, h with
  | 0, _ => decide
  | 1, _ => decide
  | 2, _ => decide
  | 3, _ => decide
  | 4, _ => decide
  | 5, _ => decide
  | 6, _ => decide
theorem d_isOpS (i j q n : Int) (hn : 0 ≤ n ∧ n ≤ 24) (hi : 0 ≤ i ∧ i < n) (hj : 0 ≤ j ∧ j < n) (hq : numB q = true) (hij : i ≠ j) : Does Tryz.prog 107 [.agg [.int 2, .int i, .int j, .int q], vI n] [] 1 (Ret (vB true) 1) := by
  refine Does.intro TT Tryz.func107 rfl (by kernel_rfl) rfl rfl fun E hE => ?_
  have g1 := d_l1In 2 0 2
  have g2 := d_l1In n 0 24
  have g3 := d_l1In i 0 (n - 1)
  have g4 := d_l1In j 0 (n - 1)
  have g5 := d_numS q
  rw [inB_true.2 (by omega)] at g1 g2 g3 g4
  rw [hq] at g5
  ((repeat' (first | refine stx ?_ | (first | refine w_z (g1) rfl rfl rfl rfl rfl rfl rfl rfl ft rfl rfl ?_ | refine w_A (g1) rfl rfl rfl rfl rfl rfl rfl rfl ft rfl rfl ?_) | (first | refine w_z (g2) rfl rfl rfl rfl rfl rfl rfl rfl ft rfl rfl ?_ | refine w_A (g2) rfl rfl rfl rfl rfl rfl rfl rfl ft rfl rfl ?_) | (first | refine w_z (g3) rfl rfl rfl rfl rfl rfl rfl rfl ft rfl rfl ?_ | refine w_A (g3) rfl rfl rfl rfl rfl rfl rfl rfl ft rfl rfl ?_) | (first | refine w_z (g4) rfl rfl rfl rfl rfl rfl rfl rfl ft rfl rfl ?_ | refine w_A (g4) rfl rfl rfl rfl rfl rfl rfl rfl ft rfl rfl ?_) | (first | refine w_z (g5) rfl rfl rfl rfl rfl rfl rfl rfl ft rfl rfl ?_ | refine w_A (g5) rfl rfl rfl rfl rfl rfl rfl rfl ft rfl rfl ?_) | (refine stq ?_ ?_ <;> (intro hc; ((try simp at hc) <;> try contradiction))) | fail)) <;> try (exfalso; omega))
  all_goals refine fin_ret rfl w_3 (congrArg vB (decide_eq_true fun e => hij e.symm)) rfl
def RowedM (t : TypeId) (n m : Nat) (zs : List Int) (v : AV) (Hout : List (Nat × Blk)) (n1 : Nat) : Prop := ∃ cap, m ≤ cap ∧ v = doneV n n 2 m cap true ∧ zs.length = m ∧ Hout = [(2, .own t cap (.ints zs))] ∧ n1 = 3
set_option maxHeartbeats 2000000 in
theorem d_doRow (n m ca : Nat) (p t q B : Int) (xs : List Int) (hm : m = xs.length) (hn : n ≤ 24) (hp : 0 ≤ p ∧ p < n) (ht : 0 ≤ t ∧ t < n) (hpt : p ≠ t) (hx : xs.length = n * n) (hb : Bnd xs B) (hB : 0 ≤ B ∧ B ≤ 1000) (hq : -1 ≤ q ∧ q ≤ 1) :
    Does Tryz.prog 60 [vM n n 1 m ca, .agg [.int 2, .int p, .int t, .int q]] [(1, .ro (.ints xs))] 2 (RowedM 3 n m (addX xs n p.toNat t.toNat q)) := by
  subst hm
  obtain ⟨p, rfl⟩ := Int.eq_ofNat_of_zero_le hp.1
  obtain ⟨t, rfl⟩ := Int.eq_ofNat_of_zero_le ht.1
  rw [Int.toNat_natCast, Int.toNat_natCast]
  have hnn : n * n ≤ 24 * 24 := Nat.mul_le_mul hn hn
  have hl : xs.length ≤ 1099511627776 := by omega
  have hnum : xs.all numB = true := all_num fun k _ => by have := hb k; omega
  have hok := addOK_small (c := n) (i := p) (j := t) hb hB.2 hq n
  have hnum2 := addX_num hnum hok
  have hx2 : (addX xs n p t q).length = n * n := by rw [addX_len, hx]
  have hM : ∀ {ys : List Int}, ys.length = n * n → ys.all numB = true → isM n n ys = true := fun {ys} h1 h2 => by
    simp only [isM, Bool.and_eq_true, decide_eq_true_eq]
    exact ⟨⟨by omega, by omega, by omega, by omega, by rw [h1]; exact Int.natCast_mul n n⟩, h2⟩
  have g1 := d_isMatS n n xs ca hl
  rw [hM hx hnum] at g1
  have g2 := d_isOpS p t q n (by omega) hp ht (numB_true.2 (by omega)) hpt
  have g3 := fun cap ca => d_doS n n p t xs.length ca cap q xs rfl hx hn hn (by omega) (by omega) (by omega) (GBs.num hnum) (.inl (by omega))
  rw [doX_ok hnum (num_ne (numB_true.2 (by omega))) hok] at g3
  refine Does.intro TT Tryz.func60 rfl (by kernel_rfl) rfl rfl fun E hE => ?_
  ((repeat' (first | refine stx ?_ | (first | refine w_z (g1) rfl rfl rfl rfl rfl rfl rfl rfl ft rfl rfl ?_ | refine w_A (g1) rfl rfl rfl rfl rfl rfl rfl rfl ft rfl rfl ?_) | (first | refine w_z (g2) rfl rfl rfl rfl rfl rfl rfl rfl ft rfl rfl ?_ | refine w_A (g2) rfl rfl rfl rfl rfl rfl rfl rfl ft rfl rfl ?_) | (refine w_C (d_copyS _ _ xs _ hl) rfl rfl rfl rfl rfl rfl rfl ft rfl rfl (CopyM.out) ?_; rintro v b ⟨c1, hc1, rfl, he, -⟩; cases he) | ((refine w_E (g3 _ _) rfl rfl rfl rfl rfl rfl rfl ft rfl ?_); rintro v Hout n1 ⟨rfl, rfl, rfl⟩) | (refine stq ?_ ?_ <;> (intro hc; ((try simp at hc) <;> try contradiction))) | fail)) <;> try (exfalso; omega))
  have g4 := fun ca => d_doneS n n (addX xs n p t q) xs.length ca addX_len.symm true (hM hx2 hnum2) (by omega)
  ((repeat' (first | refine stx ?_ | ((refine w_E (g4 _) rfl rfl rfl rfl rfl rfl rfl ft rfl ?_); rintro v Hout n1 ⟨rfl, rfl, rfl⟩) | (refine stq ?_ ?_ <;> (intro hc; ((try simp at hc) <;> try contradiction))) | fail)) <;> try (exfalso; omega))
  exact fin rfl w_3 [(2, 5)] (doneV n n 2 xs.length c1 true) [(2, .own 3 c1 (.ints (addX xs n p t q)))] 3 ⟨c1, hc1, rfl, addX_len, rfl, rfl⟩ rfl ⟨trivial, ⟨rfl, trivial⟩, rfl⟩ rfl
theorem d_unit (n : Nat) (hn : n ≤ 24) : Does Tryz.prog 59 [vI n] [] 1 (fun v Hout n1 => v = .agg [.int n, .int n, .sl 1 1 0 (n * n) (n * n)] ∧ Hout = [(1, .own 3 (n * n) (.ints (idTo n n)))] ∧ n1 = 2) := by
  have hid := d_identS n
  rw [idOut_nat hn] at hid
  refine Does.intro TT Tryz.func59 rfl (by kernel_rfl) rfl rfl fun E hE => ?_
  ((repeat' (first | refine stx ?_ | ((refine w_E (hid) rfl rfl rfl rfl rfl rfl rfl ft rfl ?_); rintro v Hout n1 ⟨rfl, rfl, rfl⟩) | (refine stq ?_ ?_ <;> (intro hc; ((try simp at hc) <;> try contradiction))) | fail)) <;> try (exfalso; omega))
  exact fin rfl w_3 [(1, 2)] (.agg [.int n, .int n, .sl 1 1 0 (n * n) (n * n)]) [(1, .own 3 (n * n) (.ints (idTo n n)))] 2 ⟨rfl, rfl, rfl⟩ rfl ⟨trivial, ⟨rfl, trivial⟩, rfl⟩ rfl
def MixO (t : TypeId) (n : Nat) (v : AV) (Hout : List (Nat × Blk)) (n1 : Nat) : Prop := ∃ (xs : List Int) (cap : Nat), xs.length = n * n ∧ n * n ≤ cap ∧ Bnd xs 64 ∧ detF n (mxL n xs) = 1 ∧ v = .agg [.int n, .int n, .sl 2 1 0 (n * n) cap] ∧ Hout = [(2, .own t cap (.ints xs))] ∧ n1 = 3
set_option maxHeartbeats 4000000 in
theorem d_mix (bs : List Int) (c n : Nat) (hby : ∀ k : Nat, 0 ≤ bs.getD k 0 ∧ bs.getD k 0 ≤ 255) (hn : n ≤ 6) (hl : bs.length ≤ 1048576) : Does Tryz.prog 18 [vS 1 1 0 bs.length c, vI n] [(1, .ro (.bytes bs))] 2 (MixO 3 n) := by
  refine Does.intro TT Tryz.func18 rfl (by kernel_rfl) rfl rfl fun E hE => ?_
  ((repeat' (first | refine stx ?_ | ((refine w_E (d_unit n (by omega)) rfl rfl rfl rfl rfl rfl rfl ft rfl ?_); rintro v Hout n1 ⟨rfl, rfl, rfl⟩) | (refine stq ?_ ?_ <;> (intro hc; ((try simp at hc) <;> try contradiction))) | fail)) <;> try (exfalso; omega))
  refine w_G hE (fun p : Nat × List Int × Nat => p.1 ≤ 6 ∧ p.2.1.length = n * n ∧ n * n ≤ p.2.2 ∧ Bnd p.2.1 (p2 p.1) ∧ detF n (mxL n p.2.1) = 1) (fun p => 6 - p.1)
    (fun p => [(0, vS 1 1 0 bs.length c), (1, vI n), (4, .one (.ptr 2 3 0 0)), (5, .one (.ptr 4 3 0 0)), (6, vI p.1)])
    (fun p => [(1, .ro (.bytes bs)), (2, .own 26 1 (.lit zeroM)), (3, .own 3 p.2.2 (.ints p.2.1)), (4, .own 26 1 (.lit [.int n, .int n, .sl 3 1 0 (n * n) p.2.2]))]) 5 [] (0, idTo n n, n * n) ⟨Nat.zero_le _, idTo_len, Nat.le_refl _, id_bnd, det_idTo⟩ ⟨w_1, w_2, rfl⟩ ?_
  rintro ⟨i, xs, cap⟩ ⟨q1, q2, q3, q4, q5⟩
  dsimp only at q1 q2 q3 q4 q5 ⊢
  have hp2 := p2_le q1
  by_cases hgo : i < bs.length ∧ i < 6 ∧ 1 < n
  · obtain ⟨g1, g2, g3⟩ := hgo
    have hb := hby (0 + (i : Int).toNat)
    have t8 := tdiv_u8 (m := 8) (by decide) hb.1 hb.2
    have t32 := tdiv_u8 (m := 32) (by decide) hb.1 hb.2
    have w1 := wrapV_u8 hb
    have w8 := wrapV_u8 t8
    have w32 := wrapV_u8 t32
    have m1 := tmod_in' (x := wrapV (bs.getD (0 + (i : Int).toNat) 0)) (n := (n : Int)) (by omega)
    have m2 := tmod_in' (x := wrapV ((bs.getD (0 + (i : Int).toNat) 0).tdiv 8)) (n := (n : Int) - 1) (by omega)
    have m3 := tmod_in' (x := wrapV ((bs.getD (0 + (i : Int).toNat) 0).tdiv 32)) (n := 3) (by omega)
    obtain ⟨m10, m11⟩ := m1
    obtain ⟨m20, m21⟩ := m2
    obtain ⟨m30, m31⟩ := m3
    replace m11 := m11 (by omega)
    replace m21 := m21 (by omega)
    replace m31 := m31 (by omega)
    obtain ⟨m40, m41, m42⟩ := mix_idx (n := (n : Int)) (by omega) ⟨m10, m11⟩ ⟨m20, m21⟩
    have hrow := fun ca => d_doRow n (n * n) ca _ _ ((wrapV ((bs.getD (0 + (i : Int).toNat) 0).tdiv 32)).tmod 3 - 1) (p2 i) xs q2.symm (by omega) ⟨m10, m11⟩ ⟨m40, m41⟩ m42 q2 q4 (by omega) (by omega)
    have s1 := addX_bnd (n := n) (i := ((wrapV (bs.getD (0 + (i : Int).toNat) 0)).tmod (n : Int)).toNat) (j := (((wrapV (bs.getD (0 + (i : Int).toNat) 0)).tmod (n : Int) + 1 + (wrapV ((bs.getD (0 + (i : Int).toNat) 0).tdiv 8)).tmod ((n : Int) - 1)).tmod (n : Int)).toNat) (q := (wrapV ((bs.getD (0 + (i : Int).toNat) 0).tdiv 32)).tmod 3 - 1) q2 (by omega) q4 (by omega)
    have s2 := addX_det (n := n) (i := ((wrapV (bs.getD (0 + (i : Int).toNat) 0)).tmod (n : Int)).toNat) (j := (((wrapV (bs.getD (0 + (i : Int).toNat) 0)).tmod (n : Int) + 1 + (wrapV ((bs.getD (0 + (i : Int).toNat) 0).tdiv 8)).tmod ((n : Int) - 1)).tmod (n : Int)).toNat) (q := (wrapV ((bs.getD (0 + (i : Int).toNat) 0).tdiv 32)).tmod 3 - 1) q2 (by omega) (by omega) (by omega)
    ((repeat' (first | refine stp ?_ | (refine stq ?_ ?_ <;> (intro hc; ((try simp at hc) <;> try contradiction))) | fail)) <;> try (exfalso; omega))
    refine awp_held TM [(1, _), (4, _)] sb rfl (fun ρs => ?_)
    refine zt0 ?_
    refine zt1 ?_
    refine zt2 ?_
    refine zt3 ?_
    refine zt4 ?_
    refine zt5 ?_
    refine zt6 ?_
    refine zt7 ?_
    refine zt8 ?_
    refine zt10 ?_
    refine zt11 ?_
    refine zt14 ?_
    refine zt16 ?_
    refine zt17 ?_
    refine zt18 ?_
    refine zt19 ?_
    refine zt20 ?_
    refine w_u [9, 21, 29] kr rfl ⟨?_, ?_, ?_, trivial⟩
    first | (refine zho ?_) | (refine w_F _ (hrow _) rfl rfl rfl rfl rfl rfl rfl rfl ft rfl rfl ?_; rintro v Hout n1 ⟨cap2, hcap2, rfl, hlen2, rfl, rfl⟩; refine ⟨sb, ?_⟩)
    refine zt12 ?_
    refine zt13 ?_
    refine zt15 ?_
    refine w_u [21, 29] kr rfl ⟨?_, ?_, trivial⟩
    first | (refine zho ?_) | (refine w_F _ (hrow _) rfl rfl rfl rfl rfl rfl rfl rfl ft rfl rfl ?_; rintro v Hout n1 ⟨cap2, hcap2, rfl, hlen2, rfl, rfl⟩; refine ⟨sb, ?_⟩)
    refine zt22 ?_
    refine zt23 ?_
    refine zt24 ?_
    refine w_u [25, 29] kr rfl ⟨?_, ?_, trivial⟩
    first | (refine zho ?_) | (refine w_F _ (hrow _) rfl rfl rfl rfl rfl rfl rfl rfl ft rfl rfl ?_; rintro v Hout n1 ⟨cap2, hcap2, rfl, hlen2, rfl, rfl⟩; refine ⟨sb, ?_⟩)
    refine zt26 ?_
    refine zt27 ?_
    refine zt28 ?_
    refine w_u [29] kr rfl ⟨?_, trivial⟩
    first | (refine zho ?_) | (refine w_F _ (hrow _) rfl rfl rfl rfl rfl rfl rfl rfl ft rfl rfl ?_; rintro v Hout n1 ⟨cap2, hcap2, rfl, hlen2, rfl, rfl⟩; refine ⟨sb, ?_⟩)
    refine w_u [30] kr rfl ⟨?_, trivial⟩
    first | (refine zho ?_) | (refine w_F _ (hrow _) rfl rfl rfl rfl rfl rfl rfl rfl ft rfl rfl ?_; rintro v Hout n1 ⟨cap2, hcap2, rfl, hlen2, rfl, rfl⟩; refine ⟨sb, ?_⟩)
    refine zt31 ?_
    refine w_v kr ?_
    rotate_left
    first | (refine zho ?_) | (refine w_F _ (hrow _) rfl rfl rfl rfl rfl rfl rfl rfl ft rfl rfl ?_; rintro v Hout n1 ⟨cap2, hcap2, rfl, hlen2, rfl, rfl⟩; refine ⟨sb, ?_⟩)
    refine w_u [25] kr rfl ⟨?_, trivial⟩
    first | (refine zho ?_) | (refine w_F _ (hrow _) rfl rfl rfl rfl rfl rfl rfl rfl ft rfl rfl ?_; rintro v Hout n1 ⟨cap2, hcap2, rfl, hlen2, rfl, rfl⟩; refine ⟨sb, ?_⟩)
    refine zt26 ?_
    refine zt27 ?_
    refine zt28 ?_
    refine w_u [30] kr rfl ⟨?_, trivial⟩
    first | (refine zho ?_) | (refine w_F _ (hrow _) rfl rfl rfl rfl rfl rfl rfl rfl ft rfl rfl ?_; rintro v Hout n1 ⟨cap2, hcap2, rfl, hlen2, rfl, rfl⟩; refine ⟨sb, ?_⟩)
    refine zt31 ?_
    refine w_v kr ?_
    rotate_left
    first | (refine zho ?_) | (refine w_F _ (hrow _) rfl rfl rfl rfl rfl rfl rfl rfl ft rfl rfl ?_; rintro v Hout n1 ⟨cap2, hcap2, rfl, hlen2, rfl, rfl⟩; refine ⟨sb, ?_⟩)
    refine w_u [21] kr rfl ⟨?_, trivial⟩
    first | (refine zho ?_) | (refine w_F _ (hrow _) rfl rfl rfl rfl rfl rfl rfl rfl ft rfl rfl ?_; rintro v Hout n1 ⟨cap2, hcap2, rfl, hlen2, rfl, rfl⟩; refine ⟨sb, ?_⟩)
    refine zt22 ?_
    refine zt23 ?_
    refine zt24 ?_
    refine w_u [25] kr rfl ⟨?_, trivial⟩
    first | (refine zho ?_) | (refine w_F _ (hrow _) rfl rfl rfl rfl rfl rfl rfl rfl ft rfl rfl ?_; rintro v Hout n1 ⟨cap2, hcap2, rfl, hlen2, rfl, rfl⟩; refine ⟨sb, ?_⟩)
    refine zt26 ?_
    refine zt27 ?_
    refine zt28 ?_
    refine w_u [30] kr rfl ⟨?_, trivial⟩
    first | (refine zho ?_) | (refine w_F _ (hrow _) rfl rfl rfl rfl rfl rfl rfl rfl ft rfl rfl ?_; rintro v Hout n1 ⟨cap2, hcap2, rfl, hlen2, rfl, rfl⟩; refine ⟨sb, ?_⟩)
    refine zt31 ?_
    refine w_v kr ?_
    rotate_left
    first | (refine zho ?_) | (refine w_F _ (hrow _) rfl rfl rfl rfl rfl rfl rfl rfl ft rfl rfl ?_; rintro v Hout n1 ⟨cap2, hcap2, rfl, hlen2, rfl, rfl⟩; refine ⟨sb, ?_⟩)
    refine zt22 ?_
    refine zt23 ?_
    refine w_u [9, 29] kr rfl ⟨?_, ?_, trivial⟩
    first | (refine zho ?_) | (refine w_F _ (hrow _) rfl rfl rfl rfl rfl rfl rfl rfl ft rfl rfl ?_; rintro v Hout n1 ⟨cap2, hcap2, rfl, hlen2, rfl, rfl⟩; refine ⟨sb, ?_⟩)
    refine zt12 ?_
    refine zt13 ?_
    refine zt15 ?_
    refine zt24 ?_
    refine w_u [25, 29] kr rfl ⟨?_, ?_, trivial⟩
    first | (refine zho ?_) | (refine w_F _ (hrow _) rfl rfl rfl rfl rfl rfl rfl rfl ft rfl rfl ?_; rintro v Hout n1 ⟨cap2, hcap2, rfl, hlen2, rfl, rfl⟩; refine ⟨sb, ?_⟩)
    refine zt26 ?_
    refine zt27 ?_
    refine zt28 ?_
    refine w_u [29] kr rfl ⟨?_, trivial⟩
    first | (refine zho ?_) | (refine w_F _ (hrow _) rfl rfl rfl rfl rfl rfl rfl rfl ft rfl rfl ?_; rintro v Hout n1 ⟨cap2, hcap2, rfl, hlen2, rfl, rfl⟩; refine ⟨sb, ?_⟩)
    refine w_u [30] kr rfl ⟨?_, trivial⟩
    first | (refine zho ?_) | (refine w_F _ (hrow _) rfl rfl rfl rfl rfl rfl rfl rfl ft rfl rfl ?_; rintro v Hout n1 ⟨cap2, hcap2, rfl, hlen2, rfl, rfl⟩; refine ⟨sb, ?_⟩)
    refine zt31 ?_
    refine w_v kr ?_
    rotate_left
    first | (refine zho ?_) | (refine w_F _ (hrow _) rfl rfl rfl rfl rfl rfl rfl rfl ft rfl rfl ?_; rintro v Hout n1 ⟨cap2, hcap2, rfl, hlen2, rfl, rfl⟩; refine ⟨sb, ?_⟩)
    refine w_u [25] kr rfl ⟨?_, trivial⟩
    first | (refine zho ?_) | (refine w_F _ (hrow _) rfl rfl rfl rfl rfl rfl rfl rfl ft rfl rfl ?_; rintro v Hout n1 ⟨cap2, hcap2, rfl, hlen2, rfl, rfl⟩; refine ⟨sb, ?_⟩)
    refine zt26 ?_
    refine zt27 ?_
    refine zt28 ?_
    refine w_u [30] kr rfl ⟨?_, trivial⟩
    first | (refine zho ?_) | (refine w_F _ (hrow _) rfl rfl rfl rfl rfl rfl rfl rfl ft rfl rfl ?_; rintro v Hout n1 ⟨cap2, hcap2, rfl, hlen2, rfl, rfl⟩; refine ⟨sb, ?_⟩)
    refine zt31 ?_
    refine w_v kr ?_
    rotate_left
    first | (refine zho ?_) | (refine w_F _ (hrow _) rfl rfl rfl rfl rfl rfl rfl rfl ft rfl rfl ?_; rintro v Hout n1 ⟨cap2, hcap2, rfl, hlen2, rfl, rfl⟩; refine ⟨sb, ?_⟩)
    refine w_u [9] kr rfl ⟨?_, trivial⟩
    first | (refine zho ?_) | (refine w_F _ (hrow _) rfl rfl rfl rfl rfl rfl rfl rfl ft rfl rfl ?_; rintro v Hout n1 ⟨cap2, hcap2, rfl, hlen2, rfl, rfl⟩; refine ⟨sb, ?_⟩)
    refine zt12 ?_
    refine zt13 ?_
    refine zt15 ?_
    refine zt24 ?_
    refine w_u [25] kr rfl ⟨?_, trivial⟩
    first | (refine zho ?_) | (refine w_F _ (hrow _) rfl rfl rfl rfl rfl rfl rfl rfl ft rfl rfl ?_; rintro v Hout n1 ⟨cap2, hcap2, rfl, hlen2, rfl, rfl⟩; refine ⟨sb, ?_⟩)
    refine zt26 ?_
    refine zt27 ?_
    refine zt28 ?_
    refine w_u [30] kr rfl ⟨?_, trivial⟩
    first | (refine zho ?_) | (refine w_F _ (hrow _) rfl rfl rfl rfl rfl rfl rfl rfl ft rfl rfl ?_; rintro v Hout n1 ⟨cap2, hcap2, rfl, hlen2, rfl, rfl⟩; refine ⟨sb, ?_⟩)
    refine zt31 ?_
    refine w_v kr ?_
    rotate_left
    first | (refine zho ?_) | (refine w_F _ (hrow _) rfl rfl rfl rfl rfl rfl rfl rfl ft rfl rfl ?_; rintro v Hout n1 ⟨cap2, hcap2, rfl, hlen2, rfl, rfl⟩; refine ⟨sb, ?_⟩)
    refine w_u [9, 21] kr rfl ⟨?_, ?_, trivial⟩
    first | (refine zho ?_) | (refine w_F _ (hrow _) rfl rfl rfl rfl rfl rfl rfl rfl ft rfl rfl ?_; rintro v Hout n1 ⟨cap2, hcap2, rfl, hlen2, rfl, rfl⟩; refine ⟨sb, ?_⟩)
    refine zt12 ?_
    refine zt13 ?_
    refine zt15 ?_
    refine w_u [21] kr rfl ⟨?_, trivial⟩
    first | (refine zho ?_) | (refine w_F _ (hrow _) rfl rfl rfl rfl rfl rfl rfl rfl ft rfl rfl ?_; rintro v Hout n1 ⟨cap2, hcap2, rfl, hlen2, rfl, rfl⟩; refine ⟨sb, ?_⟩)
    refine zt22 ?_
    refine zt23 ?_
    refine zt24 ?_
    refine w_u [25] kr rfl ⟨?_, trivial⟩
    first | (refine zho ?_) | (refine w_F _ (hrow _) rfl rfl rfl rfl rfl rfl rfl rfl ft rfl rfl ?_; rintro v Hout n1 ⟨cap2, hcap2, rfl, hlen2, rfl, rfl⟩; refine ⟨sb, ?_⟩)
    refine zt26 ?_
    refine zt27 ?_
    refine zt28 ?_
    refine w_u [30] kr rfl ⟨?_, trivial⟩
    first | (refine zho ?_) | (refine w_F _ (hrow _) rfl rfl rfl rfl rfl rfl rfl rfl ft rfl rfl ?_; rintro v Hout n1 ⟨cap2, hcap2, rfl, hlen2, rfl, rfl⟩; refine ⟨sb, ?_⟩)
    refine zt31 ?_
    refine w_v kr ?_
    rotate_left
    first | (refine zho ?_) | (refine w_F _ (hrow _) rfl rfl rfl rfl rfl rfl rfl rfl ft rfl rfl ?_; rintro v Hout n1 ⟨cap2, hcap2, rfl, hlen2, rfl, rfl⟩; refine ⟨sb, ?_⟩)
    refine zt22 ?_
    refine zt23 ?_
    refine w_u [9] kr rfl ⟨?_, trivial⟩
    first | (refine zho ?_) | (refine w_F _ (hrow _) rfl rfl rfl rfl rfl rfl rfl rfl ft rfl rfl ?_; rintro v Hout n1 ⟨cap2, hcap2, rfl, hlen2, rfl, rfl⟩; refine ⟨sb, ?_⟩)
    refine zt12 ?_
    refine zt13 ?_
    refine zt15 ?_
    refine zt24 ?_
    refine w_u [25] kr rfl ⟨?_, trivial⟩
    first | (refine zho ?_) | (refine w_F _ (hrow _) rfl rfl rfl rfl rfl rfl rfl rfl ft rfl rfl ?_; rintro v Hout n1 ⟨cap2, hcap2, rfl, hlen2, rfl, rfl⟩; refine ⟨sb, ?_⟩)
    refine zt26 ?_
    refine zt27 ?_
    refine zt28 ?_
    refine w_u [30] kr rfl ⟨?_, trivial⟩
    first | (refine zho ?_) | (refine w_F _ (hrow _) rfl rfl rfl rfl rfl rfl rfl rfl ft rfl rfl ?_; rintro v Hout n1 ⟨cap2, hcap2, rfl, hlen2, rfl, rfl⟩; refine ⟨sb, ?_⟩)
    refine zt31 ?_
    refine w_v kr ?_
    rotate_left
    all_goals ((repeat' (first | refine stp ?_ | (refine stq ?_ ?_ <;> (intro hc; ((try simp at hc) <;> try contradiction))) | fail)) <;> try (exfalso; omega))
    · exact ⟨[(3, 5)], (i + 1, _, cap2), ⟨by dsimp only; omega, hlen2, hcap2, s1, s2.trans q5⟩, w_4, ⟨w_1, w_2, rfl⟩⟩
    · exact ⟨[(3, 6)], (i + 1, _, cap2), ⟨by dsimp only; omega, hlen2, hcap2, s1, s2.trans q5⟩, w_4, ⟨w_1, w_2, rfl⟩⟩
    · exact ⟨[(3, 6)], (i + 1, _, cap2), ⟨by dsimp only; omega, hlen2, hcap2, s1, s2.trans q5⟩, w_4, ⟨w_1, w_2, rfl⟩⟩
    · exact ⟨[(3, 5)], (i + 1, _, cap2), ⟨by dsimp only; omega, hlen2, hcap2, s1, s2.trans q5⟩, w_4, ⟨w_1, w_2, rfl⟩⟩
    · exact ⟨[(3, 6)], (i + 1, _, cap2), ⟨by dsimp only; omega, hlen2, hcap2, s1, s2.trans q5⟩, w_4, ⟨w_1, w_2, rfl⟩⟩
    · exact ⟨[(3, 6)], (i + 1, _, cap2), ⟨by dsimp only; omega, hlen2, hcap2, s1, s2.trans q5⟩, w_4, ⟨w_1, w_2, rfl⟩⟩
    · exact ⟨[(3, 6)], (i + 1, _, cap2), ⟨by dsimp only; omega, hlen2, hcap2, s1, s2.trans q5⟩, w_4, ⟨w_1, w_2, rfl⟩⟩
    · exact ⟨[(3, 6)], (i + 1, _, cap2), ⟨by dsimp only; omega, hlen2, hcap2, s1, s2.trans q5⟩, w_4, ⟨w_1, w_2, rfl⟩⟩
  · have hgo2 : ¬ (i : Int) < bs.length ∨ ¬ (i : Int) < 6 ∨ ¬ (1 : Int) < n := by omega
    ((repeat' (first | refine stx ?_ | (refine stq ?_ ?_ <;> (intro hc; ((try simp at hc) <;> try contradiction))) | fail)) <;> try (exfalso; omega))
    all_goals exact fin rfl w_3 [(2, 3)] (.agg [.int n, .int n, .sl 2 1 0 (n * n) cap]) [(2, .own 3 cap (.ints xs))] 3 ⟨xs, cap, q2, q3, q4.mono (by omega), q5, rfl, rfl, rfl⟩ rfl ⟨trivial, ⟨rfl, trivial⟩, rfl⟩ rfl
end Go.Proofs.YtekpamojojfplaaGreat
