/-
  TEXTS OF THE PROOF, put together: bKer.
-/
import Derived.Test.YtfkbjkmlpinoeaaGreatR18
import Derived.Test.YtfkbjkmlpinoeaaGreatR22
import Derived.Test.YtfkbjkmlpinoeaaGreatR19
import Derived.Test.YtfkbjkmlpinoeaaGreatR20
set_option linter.unusedVariables false
set_option linter.unusedSimpArgs false
namespace Go.Proofs.YtfkbjkmlpinoeaaGreat
open Go.RowKit
def kerB (r c : Int) (xs : List Int) : Option (List Int × Nat) := if isM r c xs then kerO r.toNat c.toNat xs else none
def zerosB (r c : Int) (xs : List Int) : Option (List Int × Nat) := if isM r c xs then kerO c.toNat r.toNat (turnM xs r.toNat c.toNat) else none
def zrs (t i : Nat) : List Nat := (List.range (i - t)).map (t + ·)
theorem zrs_lo {t i : Nat} (h : i ≤ t) : zrs t i = [] := by simp [zrs, show i - t = 0 by omega]
theorem zrs_hi {t i : Nat} (h : t ≤ i) : zrs t (i + 1) = zrs t i ++ [i] := by
  unfold zrs
  rw [show i + 1 - t = (i - t) + 1 by omega, List.range_succ, List.map_append]
  simp; omega
theorem zrs_len {t i : Nat} : (zrs t i).length = i - t := by simp [zrs]
theorem zrs_lt {t i : Nat} : ∀ p ∈ zrs t i, p < i := fun p hp => by
  obtain ⟨q, hq, rfl⟩ := List.mem_map.1 hp
  rw [List.mem_range] at hq; omega
theorem pickR_zrs {xs : List Int} {r c t : Nat} (hx : xs.length = r * c) (ht : t ≤ r) : pickR xs c (zrs t r) = xs.drop (t * c) := by
  have h : ∀ n, pickR xs c ((List.range n).map (t + ·)) = (xs.drop (t * c)).take (n * c) := fun n => by
    induction n with
    | zero => simp [pickR]
    | succ n ih =>
      rw [List.range_succ, List.map_append]
      simp only [pickR, List.flatMap_append, List.map_cons, List.map_nil, List.flatMap_cons, List.flatMap_nil, List.append_nil] at ih ⊢
      rw [ih, Nat.succ_mul, List.take_add, List.drop_drop, Nat.add_mul]
  unfold zrs
  rw [h, List.take_of_length_le]
  rw [List.length_drop, hx, Nat.sub_mul]; exact Nat.le_refl _
def SplitZ (ti : TypeId) (t a : Nat) (v : AV) (Hout : List (Nat × Blk)) (n1 : Nat) : Prop := ∃ (c1 c2 : Nat), a - t ≤ c2 ∧ v = .tup [.one (.sl 2 1 0 t c1), .one (.sl 3 1 0 (a - t) c2)] ∧ Hout = [(2, .own ti c1 (.ints (natsI (List.range t)))), (3, .own ti c2 (.ints (natsI (zrs t a))))] ∧ n1 = 4
set_option maxHeartbeats 2000000 in
theorem d_splitZ (a b t n ca : Nat) (xs : List Int) (hn : n = xs.length) (hx : xs.length = a * b) (hca : xs.length ≤ ca) (ha : a ≤ 24) (hb : b ≤ 24) (hs : Split a b t xs) : Does Tryz.prog 127 [vM a b 1 n ca] [(1, .ro (.ints xs))] 2 (SplitZ 3 t a) := by
 subst hn
 refine Does.intro TT Tryz.func127 rfl (by kernel_rfl) Zz Zz fun E hE => ?_
 have hta := hs.le
 have hab : a * b ≤ 24 * 24 := Nat.mul_le_mul ha hb
 ((repeat' (first | refine stx ?_ | (refine stq ?_ ?_ <;> (intro hc; ((try simp at hc) <;> try contradiction))) | fail)) <;> try (exfalso; omega))
 refine w_G hE (fun x : Nat × Nat × Nat => x.1 ≤ a ∧ min x.1 t ≤ x.2.1 ∧ x.1 - t ≤ x.2.2) (fun x => a - x.1)
  (fun x => [(1, .one (.ptr 4 3 0 0)), (4, vS 2 1 0 (min x.1 t) x.2.1), (5, vS 3 1 0 (x.1 - t) x.2.2), (6, vI x.1)]) (fun x => [(1, .ro (.ints xs)), (2, .own 3 x.2.1 (.ints (natsI (List.range (min x.1 t))))), (3, .own 3 x.2.2 (.ints (natsI (zrs t x.1)))), (4, .own 26 1 (.lit [.int a, .int b, .sl 1 1 0 xs.length ca]))]) 5 [(2, 3), (3, 4), (4, 2)] (0, 0, 0) ⟨Nat.zero_le _, by simp, by simp⟩ ⟨⟨rfl, sl_eqA (by simp), sl_eqA (by simp), rfl, trivial⟩, ⟨rfl, own_ints (by simp [natsI]), own_ints (by simp [natsI, zrs]), rfl, trivial⟩, rfl⟩ ?_
 rintro ⟨i, c1, c2⟩ ⟨hi, h1, h2⟩
 dsimp only at hi h1 h2 ⊢
 have hnl : (natsI (List.range (min i t))).length = min i t := by rw [natsI_len, List.length_range]
 have hzl : (natsI (zrs t i)).length = i - t := by rw [natsI_len, zrs_len]
 by_cases hia : i < a
 ·have hin := row_in (c := b) hia
  have hz := fun c => d_zeroO xs (i * b) b c (by omega) (by omega)
  rw [hs.zo hia] at hz
  by_cases hti : t ≤ i
  ·have e1 : min i t = t := by omega
   have e2 : min (i + 1) t = t := by omega
   have e3 : natsI (zrs t (i + 1)) = natsI (zrs t i) ++ [(i : Int)] := by rw [zrs_hi hti]; simp [natsI]
   rw [decide_eq_true hti] at hz
   rw [e1] at hnl h1
   rw [e1]
   ((repeat' (first | refine stx ?_ | ((refine w_E (d_rowAt a b i xs.length ca xs rfl hx hca ha hb hia) Zz Zz Zz Zz Zz Zz Zz ft rfl ?_); rintro v Hout n1 ⟨cp, rfl, rfl, rfl⟩) | (first | refine w_z (hz _) Zz Zz Zz Zz Zz Zz Zz Zz ft Zz Zz ?_ | refine w_A (hz _) Zz Zz Zz Zz Zz Zz Zz Zz ft Zz Zz ?_) | (refine w_x TT Zz Zz Zz Zz Zz sd ?_; intro cap hcap) | (refine stq ?_ ?_ <;> (intro hc; ((try simp at hc) <;> try contradiction))) | fail)) <;> try (exfalso; omega))
   refine ⟨[(3, 6)], (i + 1, c1, cap), ⟨hia, by dsimp only; omega, by dsimp only at hcap ⊢; omega⟩, w_4, ⟨⟨rfl, sl_eqA (by dsimp only; omega), sl_eqA (by dsimp only; omega), congrArg some (congrArg vI (by dsimp only; omega)), trivial⟩, ⟨rfl, own_ints (by dsimp only; rw [e2]), own_ints (by dsimp only; rw [e3]; rfl), rfl, trivial⟩, rfl⟩⟩
  ·have e1 : min i t = i := by omega
   have e2 : min (i + 1) t = i + 1 := by omega
   have e3 : zrs t i = [] := zrs_lo (by omega)
   have e4 : zrs t (i + 1) = [] := zrs_lo (by omega)
   rw [decide_eq_false hti] at hz
   rw [e1] at hnl h1
   rw [e1]
   ((repeat' (first | refine stx ?_ | ((refine w_E (d_rowAt a b i xs.length ca xs rfl hx hca ha hb hia) Zz Zz Zz Zz Zz Zz Zz ft rfl ?_); rintro v Hout n1 ⟨cp, rfl, rfl, rfl⟩) | (first | refine w_z (hz _) Zz Zz Zz Zz Zz Zz Zz Zz ft Zz Zz ?_ | refine w_A (hz _) Zz Zz Zz Zz Zz Zz Zz Zz ft Zz Zz ?_) | (refine w_x TT Zz Zz Zz Zz Zz sd ?_; intro cap hcap) | (refine stq ?_ ?_ <;> (intro hc; ((try simp at hc) <;> try contradiction))) | fail)) <;> try (exfalso; omega))
   refine ⟨[(2, 6)], (i + 1, cap, c2), ⟨hia, by dsimp only at hcap ⊢; omega, by dsimp only; omega⟩, w_4, ⟨⟨rfl, sl_eqA (by dsimp only; omega), sl_eqA (by dsimp only; omega), congrArg some (congrArg vI (by dsimp only; omega)), trivial⟩, ⟨rfl, own_ints (by dsimp only; rw [e2, natsI_snoc]; rfl), own_ints (by dsimp only; rw [e3, e4]), rfl, trivial⟩, rfl⟩⟩
 ·obtain rfl : i = a := by omega
  have e1 : min i t = t := by omega
  rw [e1] at h1
  rw [e1]
  ((repeat' (first | refine stx ?_ | (refine stq ?_ ?_ <;> (intro hc; ((try simp at hc) <;> try contradiction))) | fail)) <;> try (exfalso; omega))
  exact fin rfl w_3 [] (.tup [.one (.sl 2 1 0 t c1), .one (.sl 3 1 0 (i - t) c2)]) [(2, .own 3 c1 (.ints (natsI (List.range t)))), (3, .own 3 c2 (.ints (natsI (zrs t i))))] 4 ⟨c1, c2, h2, rfl, rfl, rfl⟩ rfl ⟨trivial, ⟨rfl, rfl, trivial⟩, rfl⟩ rfl
set_option maxHeartbeats 4000000 in
theorem d_kerI (r c : Int) (xs : List Int) (ca : Nat) (hl : xs.length ≤ 1099511627776) : Does Tryz.prog 95 [vM r c 1 xs.length ca] [(1, .ro (.ints xs))] 2 (BasR 3 r (kerB r c xs) 2) := by
 refine Does.intro TT Tryz.func95 rfl (by kernel_rfl) Zz Zz fun E hE => ?_
 have hh := d_hermI r c xs ca hl
 cases hm : isM r c xs
 ·have hR : kerB r c xs = none := by simp [kerB, hm]
  have hR2 : hermO r c xs = none := by simp [hermO, hm]
  rw [hR]
  rw [hR2] at hh
  ((repeat' (first | refine stx ?_ | ((refine w_E (hh) Zz Zz Zz Zz Zz Zz Zz ft rfl ?_); rintro v Hout n1 ⟨rfl, rfl, rfl⟩) | (refine stq ?_ ?_ <;> (intro hc; ((try simp at hc) <;> try contradiction))) | fail)) <;> try (exfalso; omega))
  all_goals exact fin rfl w_3 [] (.tup [.agg zeroM, .one (.bool false)]) [] 2 ⟨rfl, rfl, rfl⟩ rfl ⟨trivial, trivial, rfl⟩ rfl
 ·obtain ⟨a, b, rfl, rfl, ha, hb, hx, hnum⟩ := isM_dimsH hm
  have hR2 : hermO a b xs = (hTo a b (xs, idTo a a) b).map (·.1) := by simp [hermO, hm]
  have o0 : OKs a b (xs, idTo a a) := ⟨hx, idTo_len, hnum, id_num⟩
  rw [hR2] at hh
  cases hT : hTo a b (xs, idTo a a) b with
  | none =>
   have hR : kerB a b xs = none := by simp [kerB, hm, kerO, hT]
   rw [hR]
   rw [hT] at hh
   dsimp only [Option.map_none] at hh ⊢
   ((repeat' (first | refine stx ?_ | ((refine w_E (hh) Zz Zz Zz Zz Zz Zz Zz ft rfl ?_); rintro v Hout n1 ⟨rfl, rfl, rfl⟩) | (refine stq ?_ ?_ <;> (intro hc; ((try simp at hc) <;> try contradiction))) | fail)) <;> try (exfalso; omega))
   all_goals exact fin rfl w_3 [] (.tup [.agg zeroM, .one (.bool false)]) [] 2 ⟨rfl, rfl, rfl⟩ rfl ⟨trivial, trivial, rfl⟩ rfl
  | some st =>
   obtain ⟨s, t⟩ := st
   have hR : kerB a b xs = basO ((a - t : Nat) : Int) (a : Int) (s.2.drop (t * a)) := by simp [kerB, hm, kerO, hT]
   rw [hR]
   rw [hT] at hh
   dsimp only [Option.map_some] at hh ⊢
   obtain ⟨o1, o2, o3⟩ := hTo_ok o0 hT
   obtain ⟨pv, hsh⟩ := hTo_shape o0 (Nat.le_refl _) hT
   have hsp := hsh.split o2
   dsimp only at o1 o2 hsp
   have l1 : s.1.length = a * b := o1.1
   have l2 : s.2.length = a * a := o1.2.1
   have hab : a * b ≤ 24 * 24 := Nat.mul_le_mul ha hb
   have haa : a * a ≤ 24 * 24 := Nat.mul_le_mul ha ha
   have hdl : (s.2.drop (t * a)).length ≤ 576 := by rw [List.length_drop, l2]; omega
   have hspl := fun cx h => d_splitZ a b t s.1.length cx s.1 rfl l1 h ha hb hsp
   have htk := fun cx cp h => d_takeRows a a s.2 (zrs t a) cx cp s.2.length (a - t) rfl zrs_len.symm l2 h ha ha zrs_lt (by rw [zrs_len]; omega)
   rw [pickR_zrs l2 o2, zrs_len] at htk
   have hbs := fun cx => d_basI ((a - t : Nat) : Int) (a : Int) (s.2.drop (t * a)) cx (by omega)
   cases hB : basO ((a - t : Nat) : Int) (a : Int) (s.2.drop (t * a)) with
   | none =>
    rw [hB] at hbs
    ((repeat' (first | refine stx ?_ | ((refine w_E (hh) Zz Zz Zz Zz Zz Zz Zz ft rfl ?_); rintro v Hout n1 ⟨cx, cu, hcx, hcu, rfl, rfl, rfl⟩) | ((refine w_E (hspl _ hcx) Zz Zz Zz Zz Zz Zz Zz ft rfl ?_); rintro v Hout n1 ⟨e1, e2, he1, rfl, rfl, rfl⟩) | ((refine w_E (htk _ _ hcu) Zz Zz Zz Zz Zz Zz Zz ft rfl ?_); rintro v Hout n1 ⟨cap, hcap, rfl, rfl, rfl⟩) | ((refine w_E (hbs _) Zz Zz Zz Zz Zz Zz Zz ft rfl ?_); rintro v Hout n1 ⟨rfl, rfl, rfl⟩) | (refine stq ?_ ?_ <;> (intro hc; ((try simp at hc) <;> try contradiction))) | fail)) <;> try (exfalso; omega))
    exact fin rfl w_3 [] (.tup [.agg zeroM, .one (.bool false)]) [] 2 ⟨rfl, rfl, rfl⟩ rfl ⟨trivial, trivial, rfl⟩ rfl
   | some y =>
    rw [hB] at hbs
    ((repeat' (first | refine stx ?_ | ((refine w_E (hh) Zz Zz Zz Zz Zz Zz Zz ft rfl ?_); rintro v Hout n1 ⟨cx, cu, hcx, hcu, rfl, rfl, rfl⟩) | ((refine w_E (hspl _ hcx) Zz Zz Zz Zz Zz Zz Zz ft rfl ?_); rintro v Hout n1 ⟨e1, e2, he1, rfl, rfl, rfl⟩) | ((refine w_E (htk _ _ hcu) Zz Zz Zz Zz Zz Zz Zz ft rfl ?_); rintro v Hout n1 ⟨cap, hcap, rfl, rfl, rfl⟩) | ((refine w_E (hbs _) Zz Zz Zz Zz Zz Zz Zz ft rfl ?_); rintro v Hout n1 ⟨cap2, hcap2, rfl, rfl, rfl⟩) | (refine stq ?_ ?_ <;> (intro hc; ((try simp at hc) <;> try contradiction))) | fail)) <;> try (exfalso; omega))
    exact fin rfl w_3 [(2, 11)] (.tup [.agg [.int y.2, .int a, .sl 2 1 0 y.1.length cap2], .one (.bool true)]) [(2, .own 3 cap2 (.ints y.1))] 3 ⟨cap2, hcap2, rfl, rfl, rfl⟩ rfl ⟨trivial, ⟨rfl, trivial⟩, rfl⟩ rfl
set_option maxHeartbeats 4000000 in
theorem d_kerS (r c : Int) (xs : List Int) (ca : Nat) (hl : xs.length ≤ 1099511627776) : Does Tryz.prog 102 [vM r c 1 xs.length ca] [(1, .ro (.ints xs))] 2 (BasR 3 r (kerB r c xs) 2) := by
 refine Does.intro TT Tryz.func102 rfl (by kernel_rfl) Zz Zz fun E hE => ?_
 have hh := d_hermS r c xs ca hl
 cases hm : isM r c xs
 ·have hR : kerB r c xs = none := by simp [kerB, hm]
  have hR2 : hermO r c xs = none := by simp [hermO, hm]
  rw [hR]
  rw [hR2] at hh
  ((repeat' (first | refine stx ?_ | ((refine w_E (hh) Zz Zz Zz Zz Zz Zz Zz ft rfl ?_); rintro v Hout n1 ⟨rfl, rfl, rfl⟩) | (refine stq ?_ ?_ <;> (intro hc; ((try simp at hc) <;> try contradiction))) | fail)) <;> try (exfalso; omega))
  all_goals exact fin rfl w_3 [] (.tup [.agg zeroM, .one (.bool false)]) [] 2 ⟨rfl, rfl, rfl⟩ rfl ⟨trivial, trivial, rfl⟩ rfl
 ·obtain ⟨a, b, rfl, rfl, ha, hb, hx, hnum⟩ := isM_dimsH hm
  have hR2 : hermO a b xs = (hTo a b (xs, idTo a a) b).map (·.1) := by simp [hermO, hm]
  have o0 : OKs a b (xs, idTo a a) := ⟨hx, idTo_len, hnum, id_num⟩
  rw [hR2] at hh
  cases hT : hTo a b (xs, idTo a a) b with
  | none =>
   have hR : kerB a b xs = none := by simp [kerB, hm, kerO, hT]
   rw [hR]
   rw [hT] at hh
   dsimp only [Option.map_none] at hh ⊢
   ((repeat' (first | refine stx ?_ | ((refine w_E (hh) Zz Zz Zz Zz Zz Zz Zz ft rfl ?_); rintro v Hout n1 ⟨rfl, rfl, rfl⟩) | (refine stq ?_ ?_ <;> (intro hc; ((try simp at hc) <;> try contradiction))) | fail)) <;> try (exfalso; omega))
   all_goals exact fin rfl w_3 [] (.tup [.agg zeroM, .one (.bool false)]) [] 2 ⟨rfl, rfl, rfl⟩ rfl ⟨trivial, trivial, rfl⟩ rfl
  | some st =>
   obtain ⟨s, t⟩ := st
   have hR : kerB a b xs = basO ((a - t : Nat) : Int) (a : Int) (s.2.drop (t * a)) := by simp [kerB, hm, kerO, hT]
   rw [hR]
   rw [hT] at hh
   dsimp only [Option.map_some] at hh ⊢
   obtain ⟨o1, o2, o3⟩ := hTo_ok o0 hT
   obtain ⟨pv, hsh⟩ := hTo_shape o0 (Nat.le_refl _) hT
   have hsp := hsh.split o2
   dsimp only at o1 o2 hsp
   have l1 : s.1.length = a * b := o1.1
   have l2 : s.2.length = a * a := o1.2.1
   have hab : a * b ≤ 24 * 24 := Nat.mul_le_mul ha hb
   have haa : a * a ≤ 24 * 24 := Nat.mul_le_mul ha ha
   have hta : t * a ≤ a * a := Nat.mul_le_mul_right _ o2
   have hdl : (s.2.drop (t * a)).length = s.2.length - t * a := List.length_drop
   have hr := fun cx => d_l12Rows a b t s.1.length cx s.1 rfl l1 ha hb hsp
   have e0 : ((a - t : Nat) : Int) = (a : Int) - t := by omega
   have e1 : (t : Int) * a = ((t * a : Nat) : Int) := by simp
   have hnt : ((t : Int) * a).toNat = t * a := by omega
   have hbd : 0 ≤ (t : Int) * a ∧ (t : Int) * a ≤ s.2.length := by omega
   ((repeat' (first | refine stp ?_ | ((refine w_E (hh) Zz Zz Zz Zz Zz Zz Zz ft rfl ?_); rintro v Hout n1 ⟨cx, cu, hcx, hcu, rfl, rfl, rfl⟩) | (first | refine w_z (hr _) Zz Zz Zz Zz Zz Zz Zz Zz ft Zz Zz ?_ | refine w_A (hr _) Zz Zz Zz Zz Zz Zz Zz Zz ft Zz Zz ?_) | (refine stq ?_ ?_ <;> (intro hc; ((try simp at hc) <;> try contradiction))) | fail)) <;> try (exfalso; omega))
   have hof : slOff 0 ((t : Int) * a).toNat cu + (s.2.length - ((t : Int) * a).toNat) ≤ s.2.length := by
    unfold slOff; split <;> omega
   have hLe : ([] : List Int) ++ (s.2.drop (slOff 0 ((t : Int) * a).toNat cu)).take (s.2.length - ((t : Int) * a).toNat) = s.2.drop (t * a) := by
    rw [List.nil_append]
    unfold slOff
    split
    ·rw [show s.2.length - ((t : Int) * a).toNat = 0 by omega, List.take_zero, List.drop_of_length_le (by omega)]
    ·rw [Nat.zero_add, hnt, List.take_of_length_le (by rw [List.length_drop]; exact Nat.le_refl _)]
   have hbs := fun cx => d_basS ((a : Int) - t) (a : Int) (([] : List Int) ++ (s.2.drop (slOff 0 ((t : Int) * a).toNat cu)).take (s.2.length - ((t : Int) * a).toNat)) cx (by rw [hLe, hdl]; omega)
   have hLl : (([] : List Int) ++ (s.2.drop (slOff 0 ((t : Int) * a).toNat cu)).take (s.2.length - ((t : Int) * a).toNat)).length = 0 + (s.2.length - ((t : Int) * a).toNat) := by rw [hLe, hdl, hnt]; omega
   rw [hLl] at hbs
   have hB0 : basO ((a : Int) - t) (a : Int) (([] : List Int) ++ (s.2.drop (slOff 0 ((t : Int) * a).toNat cu)).take (s.2.length - ((t : Int) * a).toNat)) = basO ((a - t : Nat) : Int) (a : Int) (s.2.drop (t * a)) := by rw [hLe, e0]
   rw [hB0] at hbs
   cases hB : basO ((a - t : Nat) : Int) (a : Int) (s.2.drop (t * a)) with
   | none =>
    rw [hB] at hbs
    refine awp_held TM [(2, _), (7, _)] sb rfl (fun ρs => ?_)
    refine zt0 ?_
    refine zt1 ?_
    refine zt2 ?_
    refine zt3 ?_
    refine zt4 ?_
    refine zt5 ?_
    refine zt7 ?_
    refine zt8 ?_
    refine zt9 ?_
    refine zt10 ?_
    refine zt11 ?_
    refine zt12 ?_
    refine zt13 ?_
    refine w_u [6, 20] kr rfl ⟨?_, ?_, trivial⟩
    first | (refine zho ?_) | (refine w_y TT _ Zz Zz Zz Zz Zz Zz sd sb Zz Zz ?_; intro cap hcap) | (refine w_F _ (hbs _) Zz Zz Zz Zz Zz Zz Zz Zz ft Zz Zz ?_; rintro v Hout n1 ⟨rfl, rfl, rfl⟩; refine ⟨sb, ?_⟩)
    refine w_u [14, 20] kr rfl ⟨?_, ?_, trivial⟩
    first | (refine zho ?_) | (refine w_y TT _ Zz Zz Zz Zz Zz Zz sd sb Zz Zz ?_; intro cap hcap) | (refine w_F _ (hbs _) Zz Zz Zz Zz Zz Zz Zz Zz ft Zz Zz ?_; rintro v Hout n1 ⟨rfl, rfl, rfl⟩; refine ⟨sb, ?_⟩)
    refine zt15 ?_
    refine w_u [16, 20] kr rfl ⟨?_, ?_, trivial⟩
    first | (refine zho ?_) | (refine w_y TT _ Zz Zz Zz Zz Zz Zz sd sb Zz Zz ?_; intro cap hcap) | (refine w_F _ (hbs _) Zz Zz Zz Zz Zz Zz Zz Zz ft Zz Zz ?_; rintro v Hout n1 ⟨rfl, rfl, rfl⟩; refine ⟨sb, ?_⟩)
    refine zt17 ?_
    refine zt18 ?_
    refine zt19 ?_
    refine w_u [20] kr rfl ⟨?_, trivial⟩
    first | (refine zho ?_) | (refine w_y TT _ Zz Zz Zz Zz Zz Zz sd sb Zz Zz ?_; intro cap hcap) | (refine w_F _ (hbs _) Zz Zz Zz Zz Zz Zz Zz Zz ft Zz Zz ?_; rintro v Hout n1 ⟨rfl, rfl, rfl⟩; refine ⟨sb, ?_⟩)
    refine w_u [21] kr rfl ⟨?_, trivial⟩
    first | (refine zho ?_) | (refine w_y TT _ Zz Zz Zz Zz Zz Zz sd sb Zz Zz ?_; intro cap hcap) | (refine w_F _ (hbs _) Zz Zz Zz Zz Zz Zz Zz Zz ft Zz Zz ?_; rintro v Hout n1 ⟨rfl, rfl, rfl⟩; refine ⟨sb, ?_⟩)
    refine zt22 ?_
    refine w_v kr ?_
    rotate_left
    first | (refine zho ?_) | (refine w_y TT _ Zz Zz Zz Zz Zz Zz sd sb Zz Zz ?_; intro cap hcap) | (refine w_F _ (hbs _) Zz Zz Zz Zz Zz Zz Zz Zz ft Zz Zz ?_; rintro v Hout n1 ⟨rfl, rfl, rfl⟩; refine ⟨sb, ?_⟩)
    refine w_u [16] kr rfl ⟨?_, trivial⟩
    first | (refine zho ?_) | (refine w_y TT _ Zz Zz Zz Zz Zz Zz sd sb Zz Zz ?_; intro cap hcap) | (refine w_F _ (hbs _) Zz Zz Zz Zz Zz Zz Zz Zz ft Zz Zz ?_; rintro v Hout n1 ⟨rfl, rfl, rfl⟩; refine ⟨sb, ?_⟩)
    refine zt17 ?_
    refine zt18 ?_
    refine zt19 ?_
    refine w_u [21] kr rfl ⟨?_, trivial⟩
    first | (refine zho ?_) | (refine w_y TT _ Zz Zz Zz Zz Zz Zz sd sb Zz Zz ?_; intro cap hcap) | (refine w_F _ (hbs _) Zz Zz Zz Zz Zz Zz Zz Zz ft Zz Zz ?_; rintro v Hout n1 ⟨rfl, rfl, rfl⟩; refine ⟨sb, ?_⟩)
    refine zt22 ?_
    refine w_v kr ?_
    rotate_left
    first | (refine zho ?_) | (refine w_y TT _ Zz Zz Zz Zz Zz Zz sd sb Zz Zz ?_; intro cap hcap) | (refine w_F _ (hbs _) Zz Zz Zz Zz Zz Zz Zz Zz ft Zz Zz ?_; rintro v Hout n1 ⟨rfl, rfl, rfl⟩; refine ⟨sb, ?_⟩)
    refine w_u [14] kr rfl ⟨?_, trivial⟩
    first | (refine zho ?_) | (refine w_y TT _ Zz Zz Zz Zz Zz Zz sd sb Zz Zz ?_; intro cap hcap) | (refine w_F _ (hbs _) Zz Zz Zz Zz Zz Zz Zz Zz ft Zz Zz ?_; rintro v Hout n1 ⟨rfl, rfl, rfl⟩; refine ⟨sb, ?_⟩)
    refine zt15 ?_
    refine w_u [16] kr rfl ⟨?_, trivial⟩
    first | (refine zho ?_) | (refine w_y TT _ Zz Zz Zz Zz Zz Zz sd sb Zz Zz ?_; intro cap hcap) | (refine w_F _ (hbs _) Zz Zz Zz Zz Zz Zz Zz Zz ft Zz Zz ?_; rintro v Hout n1 ⟨rfl, rfl, rfl⟩; refine ⟨sb, ?_⟩)
    refine zt17 ?_
    refine zt18 ?_
    refine zt19 ?_
    refine w_u [21] kr rfl ⟨?_, trivial⟩
    first | (refine zho ?_) | (refine w_y TT _ Zz Zz Zz Zz Zz Zz sd sb Zz Zz ?_; intro cap hcap) | (refine w_F _ (hbs _) Zz Zz Zz Zz Zz Zz Zz Zz ft Zz Zz ?_; rintro v Hout n1 ⟨rfl, rfl, rfl⟩; refine ⟨sb, ?_⟩)
    refine zt22 ?_
    refine w_v kr ?_
    rotate_left
    first | (refine zho ?_) | (refine w_y TT _ Zz Zz Zz Zz Zz Zz sd sb Zz Zz ?_; intro cap hcap) | (refine w_F _ (hbs _) Zz Zz Zz Zz Zz Zz Zz Zz ft Zz Zz ?_; rintro v Hout n1 ⟨rfl, rfl, rfl⟩; refine ⟨sb, ?_⟩)
    refine w_u [6] kr rfl ⟨?_, trivial⟩
    first | (refine zho ?_) | (refine w_y TT _ Zz Zz Zz Zz Zz Zz sd sb Zz Zz ?_; intro cap hcap) | (refine w_F _ (hbs _) Zz Zz Zz Zz Zz Zz Zz Zz ft Zz Zz ?_; rintro v Hout n1 ⟨rfl, rfl, rfl⟩; refine ⟨sb, ?_⟩)
    refine w_u [14] kr rfl ⟨?_, trivial⟩
    first | (refine zho ?_) | (refine w_y TT _ Zz Zz Zz Zz Zz Zz sd sb Zz Zz ?_; intro cap hcap) | (refine w_F _ (hbs _) Zz Zz Zz Zz Zz Zz Zz Zz ft Zz Zz ?_; rintro v Hout n1 ⟨rfl, rfl, rfl⟩; refine ⟨sb, ?_⟩)
    refine zt15 ?_
    refine w_u [16] kr rfl ⟨?_, trivial⟩
    first | (refine zho ?_) | (refine w_y TT _ Zz Zz Zz Zz Zz Zz sd sb Zz Zz ?_; intro cap hcap) | (refine w_F _ (hbs _) Zz Zz Zz Zz Zz Zz Zz Zz ft Zz Zz ?_; rintro v Hout n1 ⟨rfl, rfl, rfl⟩; refine ⟨sb, ?_⟩)
    refine zt17 ?_
    refine zt18 ?_
    refine zt19 ?_
    refine w_u [21] kr rfl ⟨?_, trivial⟩
    first | (refine zho ?_) | (refine w_y TT _ Zz Zz Zz Zz Zz Zz sd sb Zz Zz ?_; intro cap hcap) | (refine w_F _ (hbs _) Zz Zz Zz Zz Zz Zz Zz Zz ft Zz Zz ?_; rintro v Hout n1 ⟨rfl, rfl, rfl⟩; refine ⟨sb, ?_⟩)
    refine zt22 ?_
    refine w_v kr ?_
    rotate_left
    all_goals ((repeat' (first | refine stx ?_ | (refine stq ?_ ?_ <;> (intro hc; ((try simp at hc) <;> try contradiction))) | fail)) <;> try (exfalso; omega))
    all_goals exact fin rfl w_3 [] (.tup [.agg zeroM, .one (.bool false)]) [] 2 ⟨rfl, rfl, rfl⟩ rfl ⟨trivial, trivial, rfl⟩ rfl
   | some y =>
    rw [hB] at hbs
    refine awp_held TM [(2, _), (7, _)] sb rfl (fun ρs => ?_)
    refine zt0 ?_
    refine zt1 ?_
    refine zt2 ?_
    refine zt3 ?_
    refine zt4 ?_
    refine zt5 ?_
    refine zt7 ?_
    refine zt8 ?_
    refine zt9 ?_
    refine zt10 ?_
    refine zt11 ?_
    refine zt12 ?_
    refine zt13 ?_
    refine w_u [6, 20] kr rfl ⟨?_, ?_, trivial⟩
    first | (refine zho ?_) | (refine w_y TT _ Zz Zz Zz Zz Zz Zz sd sb Zz Zz ?_; intro cap hcap) | (refine w_F _ (hbs _) Zz Zz Zz Zz Zz Zz Zz Zz ft Zz Zz ?_; rintro v Hout n1 ⟨cap2, hcap2, rfl, rfl, rfl⟩; refine ⟨sb, ?_⟩)
    refine w_u [14, 20] kr rfl ⟨?_, ?_, trivial⟩
    first | (refine zho ?_) | (refine w_y TT _ Zz Zz Zz Zz Zz Zz sd sb Zz Zz ?_; intro cap hcap) | (refine w_F _ (hbs _) Zz Zz Zz Zz Zz Zz Zz Zz ft Zz Zz ?_; rintro v Hout n1 ⟨cap2, hcap2, rfl, rfl, rfl⟩; refine ⟨sb, ?_⟩)
    refine zt15 ?_
    refine w_u [16, 20] kr rfl ⟨?_, ?_, trivial⟩
    first | (refine zho ?_) | (refine w_y TT _ Zz Zz Zz Zz Zz Zz sd sb Zz Zz ?_; intro cap hcap) | (refine w_F _ (hbs _) Zz Zz Zz Zz Zz Zz Zz Zz ft Zz Zz ?_; rintro v Hout n1 ⟨cap2, hcap2, rfl, rfl, rfl⟩; refine ⟨sb, ?_⟩)
    refine zt17 ?_
    refine zt18 ?_
    refine zt19 ?_
    refine w_u [20] kr rfl ⟨?_, trivial⟩
    first | (refine zho ?_) | (refine w_y TT _ Zz Zz Zz Zz Zz Zz sd sb Zz Zz ?_; intro cap hcap) | (refine w_F _ (hbs _) Zz Zz Zz Zz Zz Zz Zz Zz ft Zz Zz ?_; rintro v Hout n1 ⟨cap2, hcap2, rfl, rfl, rfl⟩; refine ⟨sb, ?_⟩)
    refine w_u [21] kr rfl ⟨?_, trivial⟩
    first | (refine zho ?_) | (refine w_y TT _ Zz Zz Zz Zz Zz Zz sd sb Zz Zz ?_; intro cap hcap) | (refine w_F _ (hbs _) Zz Zz Zz Zz Zz Zz Zz Zz ft Zz Zz ?_; rintro v Hout n1 ⟨cap2, hcap2, rfl, rfl, rfl⟩; refine ⟨sb, ?_⟩)
    refine zt22 ?_
    refine w_v kr ?_
    rotate_left
    first | (refine zho ?_) | (refine w_y TT _ Zz Zz Zz Zz Zz Zz sd sb Zz Zz ?_; intro cap hcap) | (refine w_F _ (hbs _) Zz Zz Zz Zz Zz Zz Zz Zz ft Zz Zz ?_; rintro v Hout n1 ⟨cap2, hcap2, rfl, rfl, rfl⟩; refine ⟨sb, ?_⟩)
    refine w_u [16] kr rfl ⟨?_, trivial⟩
    first | (refine zho ?_) | (refine w_y TT _ Zz Zz Zz Zz Zz Zz sd sb Zz Zz ?_; intro cap hcap) | (refine w_F _ (hbs _) Zz Zz Zz Zz Zz Zz Zz Zz ft Zz Zz ?_; rintro v Hout n1 ⟨cap2, hcap2, rfl, rfl, rfl⟩; refine ⟨sb, ?_⟩)
    refine zt17 ?_
    refine zt18 ?_
    refine zt19 ?_
    refine w_u [21] kr rfl ⟨?_, trivial⟩
    first | (refine zho ?_) | (refine w_y TT _ Zz Zz Zz Zz Zz Zz sd sb Zz Zz ?_; intro cap hcap) | (refine w_F _ (hbs _) Zz Zz Zz Zz Zz Zz Zz Zz ft Zz Zz ?_; rintro v Hout n1 ⟨cap2, hcap2, rfl, rfl, rfl⟩; refine ⟨sb, ?_⟩)
    refine zt22 ?_
    refine w_v kr ?_
    rotate_left
    first | (refine zho ?_) | (refine w_y TT _ Zz Zz Zz Zz Zz Zz sd sb Zz Zz ?_; intro cap hcap) | (refine w_F _ (hbs _) Zz Zz Zz Zz Zz Zz Zz Zz ft Zz Zz ?_; rintro v Hout n1 ⟨cap2, hcap2, rfl, rfl, rfl⟩; refine ⟨sb, ?_⟩)
    refine w_u [14] kr rfl ⟨?_, trivial⟩
    first | (refine zho ?_) | (refine w_y TT _ Zz Zz Zz Zz Zz Zz sd sb Zz Zz ?_; intro cap hcap) | (refine w_F _ (hbs _) Zz Zz Zz Zz Zz Zz Zz Zz ft Zz Zz ?_; rintro v Hout n1 ⟨cap2, hcap2, rfl, rfl, rfl⟩; refine ⟨sb, ?_⟩)
    refine zt15 ?_
    refine w_u [16] kr rfl ⟨?_, trivial⟩
    first | (refine zho ?_) | (refine w_y TT _ Zz Zz Zz Zz Zz Zz sd sb Zz Zz ?_; intro cap hcap) | (refine w_F _ (hbs _) Zz Zz Zz Zz Zz Zz Zz Zz ft Zz Zz ?_; rintro v Hout n1 ⟨cap2, hcap2, rfl, rfl, rfl⟩; refine ⟨sb, ?_⟩)
    refine zt17 ?_
    refine zt18 ?_
    refine zt19 ?_
    refine w_u [21] kr rfl ⟨?_, trivial⟩
    first | (refine zho ?_) | (refine w_y TT _ Zz Zz Zz Zz Zz Zz sd sb Zz Zz ?_; intro cap hcap) | (refine w_F _ (hbs _) Zz Zz Zz Zz Zz Zz Zz Zz ft Zz Zz ?_; rintro v Hout n1 ⟨cap2, hcap2, rfl, rfl, rfl⟩; refine ⟨sb, ?_⟩)
    refine zt22 ?_
    refine w_v kr ?_
    rotate_left
    first | (refine zho ?_) | (refine w_y TT _ Zz Zz Zz Zz Zz Zz sd sb Zz Zz ?_; intro cap hcap) | (refine w_F _ (hbs _) Zz Zz Zz Zz Zz Zz Zz Zz ft Zz Zz ?_; rintro v Hout n1 ⟨cap2, hcap2, rfl, rfl, rfl⟩; refine ⟨sb, ?_⟩)
    refine w_u [6] kr rfl ⟨?_, trivial⟩
    first | (refine zho ?_) | (refine w_y TT _ Zz Zz Zz Zz Zz Zz sd sb Zz Zz ?_; intro cap hcap) | (refine w_F _ (hbs _) Zz Zz Zz Zz Zz Zz Zz Zz ft Zz Zz ?_; rintro v Hout n1 ⟨cap2, hcap2, rfl, rfl, rfl⟩; refine ⟨sb, ?_⟩)
    refine w_u [14] kr rfl ⟨?_, trivial⟩
    first | (refine zho ?_) | (refine w_y TT _ Zz Zz Zz Zz Zz Zz sd sb Zz Zz ?_; intro cap hcap) | (refine w_F _ (hbs _) Zz Zz Zz Zz Zz Zz Zz Zz ft Zz Zz ?_; rintro v Hout n1 ⟨cap2, hcap2, rfl, rfl, rfl⟩; refine ⟨sb, ?_⟩)
    refine zt15 ?_
    refine w_u [16] kr rfl ⟨?_, trivial⟩
    first | (refine zho ?_) | (refine w_y TT _ Zz Zz Zz Zz Zz Zz sd sb Zz Zz ?_; intro cap hcap) | (refine w_F _ (hbs _) Zz Zz Zz Zz Zz Zz Zz Zz ft Zz Zz ?_; rintro v Hout n1 ⟨cap2, hcap2, rfl, rfl, rfl⟩; refine ⟨sb, ?_⟩)
    refine zt17 ?_
    refine zt18 ?_
    refine zt19 ?_
    refine w_u [21] kr rfl ⟨?_, trivial⟩
    first | (refine zho ?_) | (refine w_y TT _ Zz Zz Zz Zz Zz Zz sd sb Zz Zz ?_; intro cap hcap) | (refine w_F _ (hbs _) Zz Zz Zz Zz Zz Zz Zz Zz ft Zz Zz ?_; rintro v Hout n1 ⟨cap2, hcap2, rfl, rfl, rfl⟩; refine ⟨sb, ?_⟩)
    refine zt22 ?_
    refine w_v kr ?_
    rotate_left
    all_goals ((repeat' (first | refine stx ?_ | (refine stq ?_ ?_ <;> (intro hc; ((try simp at hc) <;> try contradiction))) | fail)) <;> try (exfalso; omega))
    all_goals first | exact fin rfl w_3 [(2, 10)] (.tup [.agg [.int y.2, .int a, .sl 2 1 0 y.1.length cap2], .one (.bool true)]) [(2, .own 3 cap2 (.ints y.1))] 3 ⟨cap2, hcap2, rfl, rfl, rfl⟩ rfl ⟨trivial, ⟨rfl, trivial⟩, rfl⟩ rfl | exact fin rfl w_3 [(2, 11)] (.tup [.agg [.int y.2, .int a, .sl 2 1 0 y.1.length cap2], .one (.bool true)]) [(2, .own 3 cap2 (.ints y.1))] 3 ⟨cap2, hcap2, rfl, rfl, rfl⟩ rfl ⟨trivial, ⟨rfl, trivial⟩, rfl⟩ rfl | exact fin rfl w_3 [(2, 9)] (.tup [.agg [.int y.2, .int a, .sl 2 1 0 y.1.length cap2], .one (.bool true)]) [(2, .own 3 cap2 (.ints y.1))] 3 ⟨cap2, hcap2, rfl, rfl, rfl⟩ rfl ⟨trivial, ⟨rfl, trivial⟩, rfl⟩ rfl | exact fin rfl w_3 [(2, 12)] (.tup [.agg [.int y.2, .int a, .sl 2 1 0 y.1.length cap2], .one (.bool true)]) [(2, .own 3 cap2 (.ints y.1))] 3 ⟨cap2, hcap2, rfl, rfl, rfl⟩ rfl ⟨trivial, ⟨rfl, trivial⟩, rfl⟩ rfl
set_option maxHeartbeats 4000000 in
theorem d_zerosI (r c : Int) (xs : List Int) (ca : Nat) (hl : xs.length ≤ 1099511627776) : Does Tryz.prog 46 [vM r c 1 xs.length ca] [(1, .ro (.ints xs))] 2 (BasR 3 c (zerosB r c xs) 2) := by
 refine Does.intro TT Tryz.func46 rfl (by kernel_rfl) Zz Zz fun E hE => ?_
 have ht := d_turnI r c xs ca hl
 unfold TurnZ at ht
 cases hm : isM r c xs
 ·have hR : zerosB r c xs = none := by simp [zerosB, hm]
  rw [hR]
  rw [hm] at ht
  ((repeat' (first | refine stx ?_ | ((refine w_E (ht) Zz Zz Zz Zz Zz Zz Zz ft rfl ?_); rintro v Hout n1 ⟨rfl, rfl, rfl⟩) | (refine stq ?_ ?_ <;> (intro hc; ((try simp at hc) <;> try contradiction))) | fail)) <;> try (exfalso; omega))
  all_goals exact fin rfl w_3 [] (.tup [.agg zeroM, .one (.bool false)]) [] 2 ⟨rfl, rfl, rfl⟩ rfl ⟨trivial, trivial, rfl⟩ rfl
 ·rw [hm] at ht
  obtain ⟨a, b, rfl, rfl, ha, hb, hx, hnum⟩ := isM_dimsH hm
  simp only [Int.toNat_natCast] at ht
  have hml : (turnM xs a b).length = b * a := turnM_len
  have hba : b * a ≤ 24 * 24 := Nat.mul_le_mul hb ha
  have hmt : isM b a (turnM xs a b) = true := by
   rw [isM]
   simp only [Bool.and_eq_true, decide_eq_true_eq]
   refine ⟨⟨by omega, by omega, by omega, by omega, by rw [hml]; simp⟩, ?_⟩
   rw [List.all_eq_true]
   intro x hx'
   simp only [turnM, List.mem_map] at hx'
   obtain ⟨p, _, rfl⟩ := hx'
   exact numB_true.2 (num_getD hnum _)
  have hR : zerosB a b xs = kerB b a (turnM xs a b) := by simp [zerosB, kerB, hm, hmt]
  rw [hR]
  have hk := fun cx => d_kerI b a (turnM xs a b) cx (by omega)
  rw [hml] at hk
  cases hB : kerB b a (turnM xs a b) with
  | none =>
   rw [hB] at hk
   ((repeat' (first | refine stx ?_ | ((refine w_E (ht) Zz Zz Zz Zz Zz Zz Zz ft rfl ?_); rintro v Hout n1 ⟨rfl, rfl, rfl⟩) | ((refine w_E (hk _) Zz Zz Zz Zz Zz Zz Zz ft rfl ?_); rintro v Hout n1 ⟨rfl, rfl, rfl⟩) | (refine stq ?_ ?_ <;> (intro hc; ((try simp at hc) <;> try contradiction))) | fail)) <;> try (exfalso; omega))
   exact fin rfl w_3 [] (.tup [.agg zeroM, .one (.bool false)]) [] 2 ⟨rfl, rfl, rfl⟩ rfl ⟨trivial, trivial, rfl⟩ rfl
  | some y =>
   rw [hB] at hk
   ((repeat' (first | refine stx ?_ | ((refine w_E (ht) Zz Zz Zz Zz Zz Zz Zz ft rfl ?_); rintro v Hout n1 ⟨rfl, rfl, rfl⟩) | ((refine w_E (hk _) Zz Zz Zz Zz Zz Zz Zz ft rfl ?_); rintro v Hout n1 ⟨cap2, hcap2, rfl, rfl, rfl⟩) | (refine stq ?_ ?_ <;> (intro hc; ((try simp at hc) <;> try contradiction))) | fail)) <;> try (exfalso; omega))
   exact fin rfl w_3 [(2, 6)] (.tup [.agg [.int y.2, .int b, .sl 2 1 0 y.1.length cap2], .one (.bool true)]) [(2, .own 3 cap2 (.ints y.1))] 3 ⟨cap2, hcap2, rfl, rfl, rfl⟩ rfl ⟨trivial, ⟨rfl, trivial⟩, rfl⟩ rfl
set_option maxHeartbeats 4000000 in
theorem d_zerosS (r c : Int) (xs : List Int) (ca : Nat) (hl : xs.length ≤ 1099511627776) : Does Tryz.prog 60 [vM r c 1 xs.length ca] [(1, .ro (.ints xs))] 2 (BasR 3 c (zerosB r c xs) 2) := by
 refine Does.intro TT Tryz.func60 rfl (by kernel_rfl) Zz Zz fun E hE => ?_
 cases hm : isM r c xs
 ·have hR : zerosB r c xs = none := by simp [zerosB, hm]
  rw [hR]
  ((repeat' (first | refine stx ?_ | ((first | refine w_z (d_isMatS _ _ _ _ hl) Zz Zz Zz Zz Zz Zz Zz Zz ft Zz Zz ?_ | refine w_A (d_isMatS _ _ _ _ hl) Zz Zz Zz Zz Zz Zz Zz Zz ft Zz Zz ?_) <;> simp only [hm]) | (refine stq ?_ ?_ <;> (intro hc; ((try simp at hc) <;> try contradiction))) | fail)) <;> try (exfalso; omega))
  all_goals exact fin rfl w_3 [] (.tup [.agg zeroM, .one (.bool false)]) [] 2 ⟨rfl, rfl, rfl⟩ rfl ⟨trivial, trivial, rfl⟩ rfl
 ·obtain ⟨a, b, rfl, rfl, ha, hb, hx, hnum⟩ := isM_dimsH hm
  have hml : (turnM xs a b).length = b * a := turnM_len
  have hba : b * a ≤ 24 * 24 := Nat.mul_le_mul hb ha
  have hmt : isM b a (turnM xs a b) = true := by
   rw [isM]
   simp only [Bool.and_eq_true, decide_eq_true_eq]
   refine ⟨⟨by omega, by omega, by omega, by omega, by rw [hml]; simp⟩, ?_⟩
   rw [List.all_eq_true]
   intro x hx'
   simp only [turnM, List.mem_map] at hx'
   obtain ⟨p, _, rfl⟩ := hx'
   exact numB_true.2 (num_getD hnum _)
  have hR : zerosB a b xs = kerB b a (turnM xs a b) := by simp [zerosB, kerB, hm, hmt]
  rw [hR]
  have hk := fun cx => d_kerS b a (turnM xs a b) cx (by omega)
  rw [hml] at hk
  have ht := fun m cx h => d_turnS a b xs m cx h ha hb hx
  cases hB : kerB b a (turnM xs a b) with
  | none =>
   rw [hB] at hk
   ((repeat' (first | refine stx ?_ | ((first | refine w_z (d_isMatS _ _ _ _ hl) Zz Zz Zz Zz Zz Zz Zz Zz ft Zz Zz ?_ | refine w_A (d_isMatS _ _ _ _ hl) Zz Zz Zz Zz Zz Zz Zz Zz ft Zz Zz ?_) <;> simp only [hm]) | ((refine w_E (ht _ _ rfl) Zz Zz Zz Zz Zz Zz Zz ft rfl ?_); rintro v Hout n1 ⟨rfl, rfl, rfl⟩) | ((refine w_E (hk _) Zz Zz Zz Zz Zz Zz Zz ft rfl ?_); rintro v Hout n1 ⟨rfl, rfl, rfl⟩) | (refine stq ?_ ?_ <;> (intro hc; ((try simp at hc) <;> try contradiction))) | fail)) <;> try (exfalso; omega))
   exact fin rfl w_3 [] (.tup [.agg zeroM, .one (.bool false)]) [] 2 ⟨rfl, rfl, rfl⟩ rfl ⟨trivial, trivial, rfl⟩ rfl
  | some y =>
   rw [hB] at hk
   ((repeat' (first | refine stx ?_ | ((first | refine w_z (d_isMatS _ _ _ _ hl) Zz Zz Zz Zz Zz Zz Zz Zz ft Zz Zz ?_ | refine w_A (d_isMatS _ _ _ _ hl) Zz Zz Zz Zz Zz Zz Zz Zz ft Zz Zz ?_) <;> simp only [hm]) | ((refine w_E (ht _ _ rfl) Zz Zz Zz Zz Zz Zz Zz ft rfl ?_); rintro v Hout n1 ⟨rfl, rfl, rfl⟩) | ((refine w_E (hk _) Zz Zz Zz Zz Zz Zz Zz ft rfl ?_); rintro v Hout n1 ⟨cap2, hcap2, rfl, rfl, rfl⟩) | (refine stq ?_ ?_ <;> (intro hc; ((try simp at hc) <;> try contradiction))) | fail)) <;> try (exfalso; omega))
   exact fin rfl w_3 [(2, 5)] (.tup [.agg [.int y.2, .int b, .sl 2 1 0 y.1.length cap2], .one (.bool true)]) [(2, .own 3 cap2 (.ints y.1))] 3 ⟨cap2, hcap2, rfl, rfl, rfl⟩ rfl ⟨trivial, ⟨rfl, trivial⟩, rfl⟩ rfl
end Go.Proofs.YtfkbjkmlpinoeaaGreat
