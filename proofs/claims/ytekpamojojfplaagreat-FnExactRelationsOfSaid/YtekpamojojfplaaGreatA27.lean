/-
  TEXTS OF THE PROOF, put together: bKer, pRel2, bPart, bFirst.
-/
import Derived.Test.YtekpamojojfplaaGreatA25
import Derived.Test.YtekpamojojfplaaGreatA16
import Derived.Test.YtekpamojojfplaaGreatA26
import Derived.Test.YtekpamojojfplaaGreatA17
import Derived.Test.YtekpamojojfplaaGreatA20
import Derived.Test.YtekpamojojfplaaGreatA23
import Derived.Test.YtekpamojojfplaaGreatA18
set_option linter.unusedVariables false
set_option linter.unusedSimpArgs false
namespace Go.Proofs.YtekpamojojfplaaGreat
open Go.RowKit
def kerB (r c : Int) (xs : List Int) : Option (List Int × Nat) := if isM r c xs then kerO r.toNat c.toNat xs else none
def zerosB (r c : Int) (xs : List Int) : Option (List Int × Nat) := if isM r c xs then kerO c.toNat r.toNat (turnM xs r.toNat c.toNat) else none
def zrs (t i : Nat) : List Nat := (List.range (i - t)).map (t + ·)
theorem zrs_lo {t i : Nat} (h : i ≤ t) : zrs t i = [] := by simp [zrs, show i - t = 0 by omega]
theorem zrs_hi {t i : Nat} (h : t ≤ i) : zrs t (i + 1) = zrs t i ++ [i] := by
  unfold zrs
  rw [show i + 1 - t = (i - t) + 1 by omega, List.range_succ, List.map_append]
  simp; omega
theorem zrs_len {t i : Nat} : (zrs t i).length = i - t := by simp [zrs]
theorem zrs_lt {t i : Nat} : ∀ p ∈ zrs t i, p < i := fun p hp => by
  obtain ⟨q, hq, rfl⟩ := List.mem_map.1 hp
  rw [List.mem_range] at hq; omega
theorem pickR_zrs {xs : List Int} {r c t : Nat} (hx : xs.length = r * c) (ht : t ≤ r) : pickR xs c (zrs t r) = xs.drop (t * c) := by
  have h : ∀ n, pickR xs c ((List.range n).map (t + ·)) = (xs.drop (t * c)).take (n * c) := fun n => by
    induction n with
    | zero => simp [pickR]
    | succ n ih =>
      rw [List.range_succ, List.map_append]
      simp only [pickR, List.flatMap_append, List.map_cons, List.map_nil, List.flatMap_cons, List.flatMap_nil, List.append_nil] at ih ⊢
      rw [ih, Nat.succ_mul, List.take_add, List.drop_drop, Nat.add_mul]
  unfold zrs
  rw [h, List.take_of_length_le]
  rw [List.length_drop, hx, Nat.sub_mul]; exact Nat.le_refl _
def SplitZ (ti : TypeId) (t a : Nat) (v : AV) (Hout : List (Nat × Blk)) (n1 : Nat) : Prop := ∃ (c1 c2 : Nat), a - t ≤ c2 ∧ v = .tup [.one (.sl 2 1 0 t c1), .one (.sl 3 1 0 (a - t) c2)] ∧ Hout = [(2, .own ti c1 (.ints (natsI (List.range t)))), (3, .own ti c2 (.ints (natsI (zrs t a))))] ∧ n1 = 4
set_option maxHeartbeats 2000000 in
theorem d_splitZ (a b t n ca : Nat) (xs : List Int) (hn : n = xs.length) (hx : xs.length = a * b) (hca : xs.length ≤ ca) (ha : a ≤ 24) (hb : b ≤ 24) (hs : Split a b t xs) : Does Tryz.prog 120 [vM a b 1 n ca] [(1, .ro (.ints xs))] 2 (SplitZ 3 t a) := by
 subst hn
 refine Does.intro TT Tryz.func120 rfl (by kernel_rfl) Zz Zz fun E hE => ?_
 have hta := hs.le
 have hab : a * b ≤ 24 * 24 := Nat.mul_le_mul ha hb
 ((repeat' (first | refine stx ?_ | (refine stq ?_ ?_ <;> (intro hc; ((try simp at hc) <;> try contradiction))) | fail)) <;> try (exfalso; omega))
 refine w_G hE (fun x : Nat × Nat × Nat => x.1 ≤ a ∧ min x.1 t ≤ x.2.1 ∧ x.1 - t ≤ x.2.2) (fun x => a - x.1)
  (fun x => [(1, .one (.ptr 4 3 0 0)), (4, vS 2 1 0 (min x.1 t) x.2.1), (5, vS 3 1 0 (x.1 - t) x.2.2), (6, vI x.1)]) (fun x => [(1, .ro (.ints xs)), (2, .own 3 x.2.1 (.ints (natsI (List.range (min x.1 t))))), (3, .own 3 x.2.2 (.ints (natsI (zrs t x.1)))), (4, .own 26 1 (.lit [.int a, .int b, .sl 1 1 0 xs.length ca]))]) 5 [(2, 3), (3, 4), (4, 2)] (0, 0, 0) ⟨Nat.zero_le _, by simp, by simp⟩ ⟨⟨rfl, sl_eqA (by simp), sl_eqA (by simp), rfl, trivial⟩, ⟨rfl, own_ints (by simp [natsI]), own_ints (by simp [natsI, zrs]), rfl, trivial⟩, rfl⟩ ?_
 rintro ⟨i, c1, c2⟩ ⟨hi, h1, h2⟩
 dsimp only at hi h1 h2 ⊢
 have hnl : (natsI (List.range (min i t))).length = min i t := by rw [natsI_len, List.length_range]
 have hzl : (natsI (zrs t i)).length = i - t := by rw [natsI_len, zrs_len]
 by_cases hia : i < a
 ·have hin := row_in (c := b) hia
  have hz := fun c => d_zeroO xs (i * b) b c (by omega) (by omega)
  rw [hs.zo hia] at hz
  by_cases hti : t ≤ i
  ·have e1 : min i t = t := by omega
   have e2 : min (i + 1) t = t := by omega
   have e3 : natsI (zrs t (i + 1)) = natsI (zrs t i) ++ [(i : Int)] := by rw [zrs_hi hti]; simp [natsI]
   rw [decide_eq_true hti] at hz
   rw [e1] at hnl h1
   rw [e1]
   ((repeat' (first | refine stx ?_ | ((refine w_E (d_rowAt a b i xs.length ca xs rfl hx hca ha hb hia) Zz Zz Zz Zz Zz Zz Zz ft rfl ?_); rintro v Hout n1 ⟨cp, rfl, rfl, rfl⟩) | (first | refine w_z (hz _) Zz Zz Zz Zz Zz Zz Zz Zz ft Zz Zz ?_ | refine w_A (hz _) Zz Zz Zz Zz Zz Zz Zz Zz ft Zz Zz ?_) | (refine w_x TT Zz Zz Zz Zz Zz sd ?_; intro cap hcap) | (refine stq ?_ ?_ <;> (intro hc; ((try simp at hc) <;> try contradiction))) | fail)) <;> try (exfalso; omega))
   refine ⟨[(3, 6)], (i + 1, c1, cap), ⟨hia, by dsimp only; omega, by dsimp only at hcap ⊢; omega⟩, w_4, ⟨⟨rfl, sl_eqA (by dsimp only; omega), sl_eqA (by dsimp only; omega), congrArg some (congrArg vI (by dsimp only; omega)), trivial⟩, ⟨rfl, own_ints (by dsimp only; rw [e2]), own_ints (by dsimp only; rw [e3]; rfl), rfl, trivial⟩, rfl⟩⟩
  ·have e1 : min i t = i := by omega
   have e2 : min (i + 1) t = i + 1 := by omega
   have e3 : zrs t i = [] := zrs_lo (by omega)
   have e4 : zrs t (i + 1) = [] := zrs_lo (by omega)
   rw [decide_eq_false hti] at hz
   rw [e1] at hnl h1
   rw [e1]
   ((repeat' (first | refine stx ?_ | ((refine w_E (d_rowAt a b i xs.length ca xs rfl hx hca ha hb hia) Zz Zz Zz Zz Zz Zz Zz ft rfl ?_); rintro v Hout n1 ⟨cp, rfl, rfl, rfl⟩) | (first | refine w_z (hz _) Zz Zz Zz Zz Zz Zz Zz Zz ft Zz Zz ?_ | refine w_A (hz _) Zz Zz Zz Zz Zz Zz Zz Zz ft Zz Zz ?_) | (refine w_x TT Zz Zz Zz Zz Zz sd ?_; intro cap hcap) | (refine stq ?_ ?_ <;> (intro hc; ((try simp at hc) <;> try contradiction))) | fail)) <;> try (exfalso; omega))
   refine ⟨[(2, 6)], (i + 1, cap, c2), ⟨hia, by dsimp only at hcap ⊢; omega, by dsimp only; omega⟩, w_4, ⟨⟨rfl, sl_eqA (by dsimp only; omega), sl_eqA (by dsimp only; omega), congrArg some (congrArg vI (by dsimp only; omega)), trivial⟩, ⟨rfl, own_ints (by dsimp only; rw [e2, natsI_snoc]; rfl), own_ints (by dsimp only; rw [e3, e4]), rfl, trivial⟩, rfl⟩⟩
 ·obtain rfl : i = a := by omega
  have e1 : min i t = t := by omega
  rw [e1] at h1
  rw [e1]
  ((repeat' (first | refine stx ?_ | (refine stq ?_ ?_ <;> (intro hc; ((try simp at hc) <;> try contradiction))) | fail)) <;> try (exfalso; omega))
  exact fin rfl w_3 [] (.tup [.one (.sl 2 1 0 t c1), .one (.sl 3 1 0 (i - t) c2)]) [(2, .own 3 c1 (.ints (natsI (List.range t)))), (3, .own 3 c2 (.ints (natsI (zrs t i))))] 4 ⟨c1, c2, h2, rfl, rfl, rfl⟩ rfl ⟨trivial, ⟨rfl, rfl, trivial⟩, rfl⟩ rfl
set_option maxHeartbeats 4000000 in
theorem d_kerI (r c : Int) (xs : List Int) (ca : Nat) (hl : xs.length ≤ 1099511627776) : Does Tryz.prog 69 [vM r c 1 xs.length ca] [(1, .ro (.ints xs))] 2 (BasR 3 r (kerB r c xs) 2) := by
 refine Does.intro TT Tryz.func69 rfl (by kernel_rfl) Zz Zz fun E hE => ?_
 have hh := d_hermI r c xs ca hl
 cases hm : isM r c xs
 ·have hR : kerB r c xs = none := by simp [kerB, hm]
  have hR2 : hermO r c xs = none := by simp [hermO, hm]
  rw [hR]
  rw [hR2] at hh
  ((repeat' (first | refine stx ?_ | ((refine w_E (hh) Zz Zz Zz Zz Zz Zz Zz ft rfl ?_); rintro v Hout n1 ⟨rfl, rfl, rfl⟩) | (refine stq ?_ ?_ <;> (intro hc; ((try simp at hc) <;> try contradiction))) | fail)) <;> try (exfalso; omega))
  all_goals exact fin rfl w_3 [] (.tup [.agg zeroM, .one (.bool false)]) [] 2 ⟨rfl, rfl, rfl⟩ rfl ⟨trivial, trivial, rfl⟩ rfl
 ·obtain ⟨a, b, rfl, rfl, ha, hb, hx, hnum⟩ := isM_dimsH hm
  have hR2 : hermO a b xs = (hTo a b (xs, idTo a a) b).map (·.1) := by simp [hermO, hm]
  have o0 : OKs a b (xs, idTo a a) := ⟨hx, idTo_len, hnum, id_num⟩
  rw [hR2] at hh
  cases hT : hTo a b (xs, idTo a a) b with
  | none =>
   have hR : kerB a b xs = none := by simp [kerB, hm, kerO, hT]
   rw [hR]
   rw [hT] at hh
   dsimp only [Option.map_none] at hh ⊢
   ((repeat' (first | refine stx ?_ | ((refine w_E (hh) Zz Zz Zz Zz Zz Zz Zz ft rfl ?_); rintro v Hout n1 ⟨rfl, rfl, rfl⟩) | (refine stq ?_ ?_ <;> (intro hc; ((try simp at hc) <;> try contradiction))) | fail)) <;> try (exfalso; omega))
   all_goals exact fin rfl w_3 [] (.tup [.agg zeroM, .one (.bool false)]) [] 2 ⟨rfl, rfl, rfl⟩ rfl ⟨trivial, trivial, rfl⟩ rfl
  | some st =>
   obtain ⟨s, t⟩ := st
   have hR : kerB a b xs = basO ((a - t : Nat) : Int) (a : Int) (s.2.drop (t * a)) := by simp [kerB, hm, kerO, hT]
   rw [hR]
   rw [hT] at hh
   dsimp only [Option.map_some] at hh ⊢
   obtain ⟨o1, o2, o3⟩ := hTo_ok o0 hT
   obtain ⟨pv, hsh⟩ := hTo_shape o0 (Nat.le_refl _) hT
   have hsp := hsh.split o2
   dsimp only at o1 o2 hsp
   have l1 : s.1.length = a * b := o1.1
   have l2 : s.2.length = a * a := o1.2.1
   have hab : a * b ≤ 24 * 24 := Nat.mul_le_mul ha hb
   have haa : a * a ≤ 24 * 24 := Nat.mul_le_mul ha ha
   have hdl : (s.2.drop (t * a)).length ≤ 576 := by rw [List.length_drop, l2]; omega
   have hspl := fun cx h => d_splitZ a b t s.1.length cx s.1 rfl l1 h ha hb hsp
   have htk := fun cx cp h => d_takeRows a a s.2 (zrs t a) cx cp s.2.length (a - t) rfl zrs_len.symm l2 h ha ha zrs_lt (by rw [zrs_len]; omega)
   rw [pickR_zrs l2 o2, zrs_len] at htk
   have hbs := fun cx => d_basI ((a - t : Nat) : Int) (a : Int) (s.2.drop (t * a)) cx (by omega)
   cases hB : basO ((a - t : Nat) : Int) (a : Int) (s.2.drop (t * a)) with
   | none =>
    rw [hB] at hbs
    ((repeat' (first | refine stx ?_ | ((refine w_E (hh) Zz Zz Zz Zz Zz Zz Zz ft rfl ?_); rintro v Hout n1 ⟨cx, cu, hcx, hcu, rfl, rfl, rfl⟩) | ((refine w_E (hspl _ hcx) Zz Zz Zz Zz Zz Zz Zz ft rfl ?_); rintro v Hout n1 ⟨e1, e2, he1, rfl, rfl, rfl⟩) | ((refine w_E (htk _ _ hcu) Zz Zz Zz Zz Zz Zz Zz ft rfl ?_); rintro v Hout n1 ⟨cap, hcap, rfl, rfl, rfl⟩) | ((refine w_E (hbs _) Zz Zz Zz Zz Zz Zz Zz ft rfl ?_); rintro v Hout n1 ⟨rfl, rfl, rfl⟩) | (refine stq ?_ ?_ <;> (intro hc; ((try simp at hc) <;> try contradiction))) | fail)) <;> try (exfalso; omega))
    exact fin rfl w_3 [] (.tup [.agg zeroM, .one (.bool false)]) [] 2 ⟨rfl, rfl, rfl⟩ rfl ⟨trivial, trivial, rfl⟩ rfl
   | some y =>
    rw [hB] at hbs
    ((repeat' (first | refine stx ?_ | ((refine w_E (hh) Zz Zz Zz Zz Zz Zz Zz ft rfl ?_); rintro v Hout n1 ⟨cx, cu, hcx, hcu, rfl, rfl, rfl⟩) | ((refine w_E (hspl _ hcx) Zz Zz Zz Zz Zz Zz Zz ft rfl ?_); rintro v Hout n1 ⟨e1, e2, he1, rfl, rfl, rfl⟩) | ((refine w_E (htk _ _ hcu) Zz Zz Zz Zz Zz Zz Zz ft rfl ?_); rintro v Hout n1 ⟨cap, hcap, rfl, rfl, rfl⟩) | ((refine w_E (hbs _) Zz Zz Zz Zz Zz Zz Zz ft rfl ?_); rintro v Hout n1 ⟨cap2, hcap2, rfl, rfl, rfl⟩) | (refine stq ?_ ?_ <;> (intro hc; ((try simp at hc) <;> try contradiction))) | fail)) <;> try (exfalso; omega))
    exact fin rfl w_3 [(2, 11)] (.tup [.agg [.int y.2, .int a, .sl 2 1 0 y.1.length cap2], .one (.bool true)]) [(2, .own 3 cap2 (.ints y.1))] 3 ⟨cap2, hcap2, rfl, rfl, rfl⟩ rfl ⟨trivial, ⟨rfl, trivial⟩, rfl⟩ rfl
set_option maxHeartbeats 4000000 in
theorem d_kerS (r c : Int) (xs : List Int) (ca : Nat) (hl : xs.length ≤ 1099511627776) : Does Tryz.prog 66 [vM r c 1 xs.length ca] [(1, .ro (.ints xs))] 2 (BasR 3 r (kerB r c xs) 2) := by
 refine Does.intro TT Tryz.func66 rfl (by kernel_rfl) Zz Zz fun E hE => ?_
 have hh := d_hermS r c xs ca hl
 cases hm : isM r c xs
 ·have hR : kerB r c xs = none := by simp [kerB, hm]
  have hR2 : hermO r c xs = none := by simp [hermO, hm]
  rw [hR]
  rw [hR2] at hh
  ((repeat' (first | refine stx ?_ | ((refine w_E (hh) Zz Zz Zz Zz Zz Zz Zz ft rfl ?_); rintro v Hout n1 ⟨rfl, rfl, rfl⟩) | (refine stq ?_ ?_ <;> (intro hc; ((try simp at hc) <;> try contradiction))) | fail)) <;> try (exfalso; omega))
  all_goals exact fin rfl w_3 [] (.tup [.agg zeroM, .one (.bool false)]) [] 2 ⟨rfl, rfl, rfl⟩ rfl ⟨trivial, trivial, rfl⟩ rfl
 ·obtain ⟨a, b, rfl, rfl, ha, hb, hx, hnum⟩ := isM_dimsH hm
  have hR2 : hermO a b xs = (hTo a b (xs, idTo a a) b).map (·.1) := by simp [hermO, hm]
  have o0 : OKs a b (xs, idTo a a) := ⟨hx, idTo_len, hnum, id_num⟩
  rw [hR2] at hh
  cases hT : hTo a b (xs, idTo a a) b with
  | none =>
   have hR : kerB a b xs = none := by simp [kerB, hm, kerO, hT]
   rw [hR]
   rw [hT] at hh
   dsimp only [Option.map_none] at hh ⊢
   ((repeat' (first | refine stx ?_ | ((refine w_E (hh) Zz Zz Zz Zz Zz Zz Zz ft rfl ?_); rintro v Hout n1 ⟨rfl, rfl, rfl⟩) | (refine stq ?_ ?_ <;> (intro hc; ((try simp at hc) <;> try contradiction))) | fail)) <;> try (exfalso; omega))
   all_goals exact fin rfl w_3 [] (.tup [.agg zeroM, .one (.bool false)]) [] 2 ⟨rfl, rfl, rfl⟩ rfl ⟨trivial, trivial, rfl⟩ rfl
  | some st =>
   obtain ⟨s, t⟩ := st
   have hR : kerB a b xs = basO ((a - t : Nat) : Int) (a : Int) (s.2.drop (t * a)) := by simp [kerB, hm, kerO, hT]
   rw [hR]
   rw [hT] at hh
   dsimp only [Option.map_some] at hh ⊢
   obtain ⟨o1, o2, o3⟩ := hTo_ok o0 hT
   obtain ⟨pv, hsh⟩ := hTo_shape o0 (Nat.le_refl _) hT
   have hsp := hsh.split o2
   dsimp only at o1 o2 hsp
   have l1 : s.1.length = a * b := o1.1
   have l2 : s.2.length = a * a := o1.2.1
   have hab : a * b ≤ 24 * 24 := Nat.mul_le_mul ha hb
   have haa : a * a ≤ 24 * 24 := Nat.mul_le_mul ha ha
   have hta : t * a ≤ a * a := Nat.mul_le_mul_right _ o2
   have hdl : (s.2.drop (t * a)).length = s.2.length - t * a := List.length_drop
   have hr := fun cx => d_l12Rows a b t s.1.length cx s.1 rfl l1 ha hb hsp
   have e0 : ((a - t : Nat) : Int) = (a : Int) - t := by omega
   have e1 : (t : Int) * a = ((t * a : Nat) : Int) := by simp
   have hnt : ((t : Int) * a).toNat = t * a := by omega
   have hbd : 0 ≤ (t : Int) * a ∧ (t : Int) * a ≤ s.2.length := by omega
   ((repeat' (first | refine stp ?_ | ((refine w_E (hh) Zz Zz Zz Zz Zz Zz Zz ft rfl ?_); rintro v Hout n1 ⟨cx, cu, hcx, hcu, rfl, rfl, rfl⟩) | (first | refine w_z (hr _) Zz Zz Zz Zz Zz Zz Zz Zz ft Zz Zz ?_ | refine w_A (hr _) Zz Zz Zz Zz Zz Zz Zz Zz ft Zz Zz ?_) | (refine stq ?_ ?_ <;> (intro hc; ((try simp at hc) <;> try contradiction))) | fail)) <;> try (exfalso; omega))
   have hof : slOff 0 ((t : Int) * a).toNat cu + (s.2.length - ((t : Int) * a).toNat) ≤ s.2.length := by
    unfold slOff; split <;> omega
   have hLe : ([] : List Int) ++ (s.2.drop (slOff 0 ((t : Int) * a).toNat cu)).take (s.2.length - ((t : Int) * a).toNat) = s.2.drop (t * a) := by
    rw [List.nil_append]
    unfold slOff
    split
    ·rw [show s.2.length - ((t : Int) * a).toNat = 0 by omega, List.take_zero, List.drop_of_length_le (by omega)]
    ·rw [Nat.zero_add, hnt, List.take_of_length_le (by rw [List.length_drop]; exact Nat.le_refl _)]
   have hbs := fun cx => d_basS ((a : Int) - t) (a : Int) (([] : List Int) ++ (s.2.drop (slOff 0 ((t : Int) * a).toNat cu)).take (s.2.length - ((t : Int) * a).toNat)) cx (by rw [hLe, hdl]; omega)
   have hLl : (([] : List Int) ++ (s.2.drop (slOff 0 ((t : Int) * a).toNat cu)).take (s.2.length - ((t : Int) * a).toNat)).length = 0 + (s.2.length - ((t : Int) * a).toNat) := by rw [hLe, hdl, hnt]; omega
   rw [hLl] at hbs
   have hB0 : basO ((a : Int) - t) (a : Int) (([] : List Int) ++ (s.2.drop (slOff 0 ((t : Int) * a).toNat cu)).take (s.2.length - ((t : Int) * a).toNat)) = basO ((a - t : Nat) : Int) (a : Int) (s.2.drop (t * a)) := by rw [hLe, e0]
   rw [hB0] at hbs
   cases hB : basO ((a - t : Nat) : Int) (a : Int) (s.2.drop (t * a)) with
   | none =>
    rw [hB] at hbs
    refine awp_held TM [(2, _), (7, _)] sb rfl (fun ρs => ?_)
    refine zt0 ?_
    refine zt1 ?_
    refine zt2 ?_
    refine zt3 ?_
    refine zt4 ?_
    refine zt5 ?_
    refine zt7 ?_
    refine zt8 ?_
    refine zt9 ?_
    refine zt10 ?_
    refine zt11 ?_
    refine zt12 ?_
    refine zt13 ?_
    refine w_u [6, 20] kr rfl ⟨?_, ?_, trivial⟩
    first | (refine zho ?_) | (refine w_y TT _ Zz Zz Zz Zz Zz Zz sd sb Zz Zz ?_; intro cap hcap) | (refine w_F _ (hbs _) Zz Zz Zz Zz Zz Zz Zz Zz ft Zz Zz ?_; rintro v Hout n1 ⟨rfl, rfl, rfl⟩; refine ⟨sb, ?_⟩)
    refine w_u [14, 20] kr rfl ⟨?_, ?_, trivial⟩
    first | (refine zho ?_) | (refine w_y TT _ Zz Zz Zz Zz Zz Zz sd sb Zz Zz ?_; intro cap hcap) | (refine w_F _ (hbs _) Zz Zz Zz Zz Zz Zz Zz Zz ft Zz Zz ?_; rintro v Hout n1 ⟨rfl, rfl, rfl⟩; refine ⟨sb, ?_⟩)
    refine zt15 ?_
    refine w_u [16, 20] kr rfl ⟨?_, ?_, trivial⟩
    first | (refine zho ?_) | (refine w_y TT _ Zz Zz Zz Zz Zz Zz sd sb Zz Zz ?_; intro cap hcap) | (refine w_F _ (hbs _) Zz Zz Zz Zz Zz Zz Zz Zz ft Zz Zz ?_; rintro v Hout n1 ⟨rfl, rfl, rfl⟩; refine ⟨sb, ?_⟩)
    refine zt17 ?_
    refine zt18 ?_
    refine zt19 ?_
    refine w_u [20] kr rfl ⟨?_, trivial⟩
    first | (refine zho ?_) | (refine w_y TT _ Zz Zz Zz Zz Zz Zz sd sb Zz Zz ?_; intro cap hcap) | (refine w_F _ (hbs _) Zz Zz Zz Zz Zz Zz Zz Zz ft Zz Zz ?_; rintro v Hout n1 ⟨rfl, rfl, rfl⟩; refine ⟨sb, ?_⟩)
    refine w_u [21] kr rfl ⟨?_, trivial⟩
    first | (refine zho ?_) | (refine w_y TT _ Zz Zz Zz Zz Zz Zz sd sb Zz Zz ?_; intro cap hcap) | (refine w_F _ (hbs _) Zz Zz Zz Zz Zz Zz Zz Zz ft Zz Zz ?_; rintro v Hout n1 ⟨rfl, rfl, rfl⟩; refine ⟨sb, ?_⟩)
    refine zt22 ?_
    refine w_v kr ?_
    rotate_left
    first | (refine zho ?_) | (refine w_y TT _ Zz Zz Zz Zz Zz Zz sd sb Zz Zz ?_; intro cap hcap) | (refine w_F _ (hbs _) Zz Zz Zz Zz Zz Zz Zz Zz ft Zz Zz ?_; rintro v Hout n1 ⟨rfl, rfl, rfl⟩; refine ⟨sb, ?_⟩)
    refine w_u [16] kr rfl ⟨?_, trivial⟩
    first | (refine zho ?_) | (refine w_y TT _ Zz Zz Zz Zz Zz Zz sd sb Zz Zz ?_; intro cap hcap) | (refine w_F _ (hbs _) Zz Zz Zz Zz Zz Zz Zz Zz ft Zz Zz ?_; rintro v Hout n1 ⟨rfl, rfl, rfl⟩; refine ⟨sb, ?_⟩)
    refine zt17 ?_
    refine zt18 ?_
    refine zt19 ?_
    refine w_u [21] kr rfl ⟨?_, trivial⟩
    first | (refine zho ?_) | (refine w_y TT _ Zz Zz Zz Zz Zz Zz sd sb Zz Zz ?_; intro cap hcap) | (refine w_F _ (hbs _) Zz Zz Zz Zz Zz Zz Zz Zz ft Zz Zz ?_; rintro v Hout n1 ⟨rfl, rfl, rfl⟩; refine ⟨sb, ?_⟩)
    refine zt22 ?_
    refine w_v kr ?_
    rotate_left
    first | (refine zho ?_) | (refine w_y TT _ Zz Zz Zz Zz Zz Zz sd sb Zz Zz ?_; intro cap hcap) | (refine w_F _ (hbs _) Zz Zz Zz Zz Zz Zz Zz Zz ft Zz Zz ?_; rintro v Hout n1 ⟨rfl, rfl, rfl⟩; refine ⟨sb, ?_⟩)
    refine w_u [14] kr rfl ⟨?_, trivial⟩
    first | (refine zho ?_) | (refine w_y TT _ Zz Zz Zz Zz Zz Zz sd sb Zz Zz ?_; intro cap hcap) | (refine w_F _ (hbs _) Zz Zz Zz Zz Zz Zz Zz Zz ft Zz Zz ?_; rintro v Hout n1 ⟨rfl, rfl, rfl⟩; refine ⟨sb, ?_⟩)
    refine zt15 ?_
    refine w_u [16] kr rfl ⟨?_, trivial⟩
    first | (refine zho ?_) | (refine w_y TT _ Zz Zz Zz Zz Zz Zz sd sb Zz Zz ?_; intro cap hcap) | (refine w_F _ (hbs _) Zz Zz Zz Zz Zz Zz Zz Zz ft Zz Zz ?_; rintro v Hout n1 ⟨rfl, rfl, rfl⟩; refine ⟨sb, ?_⟩)
    refine zt17 ?_
    refine zt18 ?_
    refine zt19 ?_
    refine w_u [21] kr rfl ⟨?_, trivial⟩
    first | (refine zho ?_) | (refine w_y TT _ Zz Zz Zz Zz Zz Zz sd sb Zz Zz ?_; intro cap hcap) | (refine w_F _ (hbs _) Zz Zz Zz Zz Zz Zz Zz Zz ft Zz Zz ?_; rintro v Hout n1 ⟨rfl, rfl, rfl⟩; refine ⟨sb, ?_⟩)
    refine zt22 ?_
    refine w_v kr ?_
    rotate_left
    first | (refine zho ?_) | (refine w_y TT _ Zz Zz Zz Zz Zz Zz sd sb Zz Zz ?_; intro cap hcap) | (refine w_F _ (hbs _) Zz Zz Zz Zz Zz Zz Zz Zz ft Zz Zz ?_; rintro v Hout n1 ⟨rfl, rfl, rfl⟩; refine ⟨sb, ?_⟩)
    refine w_u [6] kr rfl ⟨?_, trivial⟩
    first | (refine zho ?_) | (refine w_y TT _ Zz Zz Zz Zz Zz Zz sd sb Zz Zz ?_; intro cap hcap) | (refine w_F _ (hbs _) Zz Zz Zz Zz Zz Zz Zz Zz ft Zz Zz ?_; rintro v Hout n1 ⟨rfl, rfl, rfl⟩; refine ⟨sb, ?_⟩)
    refine w_u [14] kr rfl ⟨?_, trivial⟩
    first | (refine zho ?_) | (refine w_y TT _ Zz Zz Zz Zz Zz Zz sd sb Zz Zz ?_; intro cap hcap) | (refine w_F _ (hbs _) Zz Zz Zz Zz Zz Zz Zz Zz ft Zz Zz ?_; rintro v Hout n1 ⟨rfl, rfl, rfl⟩; refine ⟨sb, ?_⟩)
    refine zt15 ?_
    refine w_u [16] kr rfl ⟨?_, trivial⟩
    first | (refine zho ?_) | (refine w_y TT _ Zz Zz Zz Zz Zz Zz sd sb Zz Zz ?_; intro cap hcap) | (refine w_F _ (hbs _) Zz Zz Zz Zz Zz Zz Zz Zz ft Zz Zz ?_; rintro v Hout n1 ⟨rfl, rfl, rfl⟩; refine ⟨sb, ?_⟩)
    refine zt17 ?_
    refine zt18 ?_
    refine zt19 ?_
    refine w_u [21] kr rfl ⟨?_, trivial⟩
    first | (refine zho ?_) | (refine w_y TT _ Zz Zz Zz Zz Zz Zz sd sb Zz Zz ?_; intro cap hcap) | (refine w_F _ (hbs _) Zz Zz Zz Zz Zz Zz Zz Zz ft Zz Zz ?_; rintro v Hout n1 ⟨rfl, rfl, rfl⟩; refine ⟨sb, ?_⟩)
    refine zt22 ?_
    refine w_v kr ?_
    rotate_left
    all_goals ((repeat' (first | refine stx ?_ | (refine stq ?_ ?_ <;> (intro hc; ((try simp at hc) <;> try contradiction))) | fail)) <;> try (exfalso; omega))
    all_goals exact fin rfl w_3 [] (.tup [.agg zeroM, .one (.bool false)]) [] 2 ⟨rfl, rfl, rfl⟩ rfl ⟨trivial, trivial, rfl⟩ rfl
   | some y =>
    rw [hB] at hbs
    refine awp_held TM [(2, _), (7, _)] sb rfl (fun ρs => ?_)
    refine zt0 ?_
    refine zt1 ?_
    refine zt2 ?_
    refine zt3 ?_
    refine zt4 ?_
    refine zt5 ?_
    refine zt7 ?_
    refine zt8 ?_
    refine zt9 ?_
    refine zt10 ?_
    refine zt11 ?_
    refine zt12 ?_
    refine zt13 ?_
    refine w_u [6, 20] kr rfl ⟨?_, ?_, trivial⟩
    first | (refine zho ?_) | (refine w_y TT _ Zz Zz Zz Zz Zz Zz sd sb Zz Zz ?_; intro cap hcap) | (refine w_F _ (hbs _) Zz Zz Zz Zz Zz Zz Zz Zz ft Zz Zz ?_; rintro v Hout n1 ⟨cap2, hcap2, rfl, rfl, rfl⟩; refine ⟨sb, ?_⟩)
    refine w_u [14, 20] kr rfl ⟨?_, ?_, trivial⟩
    first | (refine zho ?_) | (refine w_y TT _ Zz Zz Zz Zz Zz Zz sd sb Zz Zz ?_; intro cap hcap) | (refine w_F _ (hbs _) Zz Zz Zz Zz Zz Zz Zz Zz ft Zz Zz ?_; rintro v Hout n1 ⟨cap2, hcap2, rfl, rfl, rfl⟩; refine ⟨sb, ?_⟩)
    refine zt15 ?_
    refine w_u [16, 20] kr rfl ⟨?_, ?_, trivial⟩
    first | (refine zho ?_) | (refine w_y TT _ Zz Zz Zz Zz Zz Zz sd sb Zz Zz ?_; intro cap hcap) | (refine w_F _ (hbs _) Zz Zz Zz Zz Zz Zz Zz Zz ft Zz Zz ?_; rintro v Hout n1 ⟨cap2, hcap2, rfl, rfl, rfl⟩; refine ⟨sb, ?_⟩)
    refine zt17 ?_
    refine zt18 ?_
    refine zt19 ?_
    refine w_u [20] kr rfl ⟨?_, trivial⟩
    first | (refine zho ?_) | (refine w_y TT _ Zz Zz Zz Zz Zz Zz sd sb Zz Zz ?_; intro cap hcap) | (refine w_F _ (hbs _) Zz Zz Zz Zz Zz Zz Zz Zz ft Zz Zz ?_; rintro v Hout n1 ⟨cap2, hcap2, rfl, rfl, rfl⟩; refine ⟨sb, ?_⟩)
    refine w_u [21] kr rfl ⟨?_, trivial⟩
    first | (refine zho ?_) | (refine w_y TT _ Zz Zz Zz Zz Zz Zz sd sb Zz Zz ?_; intro cap hcap) | (refine w_F _ (hbs _) Zz Zz Zz Zz Zz Zz Zz Zz ft Zz Zz ?_; rintro v Hout n1 ⟨cap2, hcap2, rfl, rfl, rfl⟩; refine ⟨sb, ?_⟩)
    refine zt22 ?_
    refine w_v kr ?_
    rotate_left
    first | (refine zho ?_) | (refine w_y TT _ Zz Zz Zz Zz Zz Zz sd sb Zz Zz ?_; intro cap hcap) | (refine w_F _ (hbs _) Zz Zz Zz Zz Zz Zz Zz Zz ft Zz Zz ?_; rintro v Hout n1 ⟨cap2, hcap2, rfl, rfl, rfl⟩; refine ⟨sb, ?_⟩)
    refine w_u [16] kr rfl ⟨?_, trivial⟩
    first | (refine zho ?_) | (refine w_y TT _ Zz Zz Zz Zz Zz Zz sd sb Zz Zz ?_; intro cap hcap) | (refine w_F _ (hbs _) Zz Zz Zz Zz Zz Zz Zz Zz ft Zz Zz ?_; rintro v Hout n1 ⟨cap2, hcap2, rfl, rfl, rfl⟩; refine ⟨sb, ?_⟩)
    refine zt17 ?_
    refine zt18 ?_
    refine zt19 ?_
    refine w_u [21] kr rfl ⟨?_, trivial⟩
    first | (refine zho ?_) | (refine w_y TT _ Zz Zz Zz Zz Zz Zz sd sb Zz Zz ?_; intro cap hcap) | (refine w_F _ (hbs _) Zz Zz Zz Zz Zz Zz Zz Zz ft Zz Zz ?_; rintro v Hout n1 ⟨cap2, hcap2, rfl, rfl, rfl⟩; refine ⟨sb, ?_⟩)
    refine zt22 ?_
    refine w_v kr ?_
    rotate_left
    first | (refine zho ?_) | (refine w_y TT _ Zz Zz Zz Zz Zz Zz sd sb Zz Zz ?_; intro cap hcap) | (refine w_F _ (hbs _) Zz Zz Zz Zz Zz Zz Zz Zz ft Zz Zz ?_; rintro v Hout n1 ⟨cap2, hcap2, rfl, rfl, rfl⟩; refine ⟨sb, ?_⟩)
    refine w_u [14] kr rfl ⟨?_, trivial⟩
    first | (refine zho ?_) | (refine w_y TT _ Zz Zz Zz Zz Zz Zz sd sb Zz Zz ?_; intro cap hcap) | (refine w_F _ (hbs _) Zz Zz Zz Zz Zz Zz Zz Zz ft Zz Zz ?_; rintro v Hout n1 ⟨cap2, hcap2, rfl, rfl, rfl⟩; refine ⟨sb, ?_⟩)
    refine zt15 ?_
    refine w_u [16] kr rfl ⟨?_, trivial⟩
    first | (refine zho ?_) | (refine w_y TT _ Zz Zz Zz Zz Zz Zz sd sb Zz Zz ?_; intro cap hcap) | (refine w_F _ (hbs _) Zz Zz Zz Zz Zz Zz Zz Zz ft Zz Zz ?_; rintro v Hout n1 ⟨cap2, hcap2, rfl, rfl, rfl⟩; refine ⟨sb, ?_⟩)
    refine zt17 ?_
    refine zt18 ?_
    refine zt19 ?_
    refine w_u [21] kr rfl ⟨?_, trivial⟩
    first | (refine zho ?_) | (refine w_y TT _ Zz Zz Zz Zz Zz Zz sd sb Zz Zz ?_; intro cap hcap) | (refine w_F _ (hbs _) Zz Zz Zz Zz Zz Zz Zz Zz ft Zz Zz ?_; rintro v Hout n1 ⟨cap2, hcap2, rfl, rfl, rfl⟩; refine ⟨sb, ?_⟩)
    refine zt22 ?_
    refine w_v kr ?_
    rotate_left
    first | (refine zho ?_) | (refine w_y TT _ Zz Zz Zz Zz Zz Zz sd sb Zz Zz ?_; intro cap hcap) | (refine w_F _ (hbs _) Zz Zz Zz Zz Zz Zz Zz Zz ft Zz Zz ?_; rintro v Hout n1 ⟨cap2, hcap2, rfl, rfl, rfl⟩; refine ⟨sb, ?_⟩)
    refine w_u [6] kr rfl ⟨?_, trivial⟩
    first | (refine zho ?_) | (refine w_y TT _ Zz Zz Zz Zz Zz Zz sd sb Zz Zz ?_; intro cap hcap) | (refine w_F _ (hbs _) Zz Zz Zz Zz Zz Zz Zz Zz ft Zz Zz ?_; rintro v Hout n1 ⟨cap2, hcap2, rfl, rfl, rfl⟩; refine ⟨sb, ?_⟩)
    refine w_u [14] kr rfl ⟨?_, trivial⟩
    first | (refine zho ?_) | (refine w_y TT _ Zz Zz Zz Zz Zz Zz sd sb Zz Zz ?_; intro cap hcap) | (refine w_F _ (hbs _) Zz Zz Zz Zz Zz Zz Zz Zz ft Zz Zz ?_; rintro v Hout n1 ⟨cap2, hcap2, rfl, rfl, rfl⟩; refine ⟨sb, ?_⟩)
    refine zt15 ?_
    refine w_u [16] kr rfl ⟨?_, trivial⟩
    first | (refine zho ?_) | (refine w_y TT _ Zz Zz Zz Zz Zz Zz sd sb Zz Zz ?_; intro cap hcap) | (refine w_F _ (hbs _) Zz Zz Zz Zz Zz Zz Zz Zz ft Zz Zz ?_; rintro v Hout n1 ⟨cap2, hcap2, rfl, rfl, rfl⟩; refine ⟨sb, ?_⟩)
    refine zt17 ?_
    refine zt18 ?_
    refine zt19 ?_
    refine w_u [21] kr rfl ⟨?_, trivial⟩
    first | (refine zho ?_) | (refine w_y TT _ Zz Zz Zz Zz Zz Zz sd sb Zz Zz ?_; intro cap hcap) | (refine w_F _ (hbs _) Zz Zz Zz Zz Zz Zz Zz Zz ft Zz Zz ?_; rintro v Hout n1 ⟨cap2, hcap2, rfl, rfl, rfl⟩; refine ⟨sb, ?_⟩)
    refine zt22 ?_
    refine w_v kr ?_
    rotate_left
    all_goals ((repeat' (first | refine stx ?_ | (refine stq ?_ ?_ <;> (intro hc; ((try simp at hc) <;> try contradiction))) | fail)) <;> try (exfalso; omega))
    all_goals first | exact fin rfl w_3 [(2, 10)] (.tup [.agg [.int y.2, .int a, .sl 2 1 0 y.1.length cap2], .one (.bool true)]) [(2, .own 3 cap2 (.ints y.1))] 3 ⟨cap2, hcap2, rfl, rfl, rfl⟩ rfl ⟨trivial, ⟨rfl, trivial⟩, rfl⟩ rfl | exact fin rfl w_3 [(2, 11)] (.tup [.agg [.int y.2, .int a, .sl 2 1 0 y.1.length cap2], .one (.bool true)]) [(2, .own 3 cap2 (.ints y.1))] 3 ⟨cap2, hcap2, rfl, rfl, rfl⟩ rfl ⟨trivial, ⟨rfl, trivial⟩, rfl⟩ rfl | exact fin rfl w_3 [(2, 9)] (.tup [.agg [.int y.2, .int a, .sl 2 1 0 y.1.length cap2], .one (.bool true)]) [(2, .own 3 cap2 (.ints y.1))] 3 ⟨cap2, hcap2, rfl, rfl, rfl⟩ rfl ⟨trivial, ⟨rfl, trivial⟩, rfl⟩ rfl | exact fin rfl w_3 [(2, 12)] (.tup [.agg [.int y.2, .int a, .sl 2 1 0 y.1.length cap2], .one (.bool true)]) [(2, .own 3 cap2 (.ints y.1))] 3 ⟨cap2, hcap2, rfl, rfl, rfl⟩ rfl ⟨trivial, ⟨rfl, trivial⟩, rfl⟩ rfl
end Go.Proofs.YtekpamojojfplaaGreat
namespace Go.Proofs.YtekpamojojfplaaGreat
def gramZ (r c : Int) (xs : List Int) : Option (List Int) := if isM r c xs then mulZ r c c r xs (turnM xs r.toNat c.toNat) else none
def redO (r c : Int) (xs : List Int) : Option S3 := if defB r c xs then redG r.toNat 200 (xs, idTo r.toNat r.toNat, idTo r.toNat r.toNat) 1 else none
def rbasO (r c : Int) (xs : List Int) : Option (List Int × List Int) := (gramZ r c xs).bind fun g => (redO r r g).bind fun s => (mulZ r r r c s.2.1 xs).map fun p => (p, s.2.1)
def relsO (v : List Int) : Option (List Int × Nat) := if decide (v.length ≤ 6) && v.all numB then (kerB v.length 1 v).bind fun st => (rbasO st.2 v.length st.1).map fun p => (p.1, st.2) else none
end Go.Proofs.YtekpamojojfplaaGreat
namespace Go.Proofs.YtekpamojojfplaaGreat
open Go.RowKit
def partP (xs : List Int) (c : Nat) (is : List Nat) (i j : Nat) : List Int := pickR xs c (is.take i) ++ (xs.drop (is.getD i 0 * c)).take j
theorem own_litP {t : TypeId} {c : Nat} {x x' y : Int} {k k' a b cp : Nat} {m : Nat → Nat} (hx : x = x') (h : a = b) (hk : k' = m k := by rfl) : some (Blk.own t c (.lit [.int x, .int y, .sl k' 1 0 a cp])) = some ((Blk.own t c (.lit [.int x', .int y, .sl k 1 0 b cp])).ren m) := by subst hx h hk; rfl
theorem natsI_getD {is : List Nat} {i : Nat} : (natsI is).getD i 0 = ((is.getD i 0 : Nat) : Int) := by
  simp only [natsI, List.getD_eq_getElem?_getD, List.getElem?_map]
  cases is[i]? <;> simp
theorem range_getD {n i : Nat} (h : i < n) : (List.range n).getD i 0 = i := by rw [getD_in (by simpa using h)]; simp
end Go.Proofs.YtekpamojojfplaaGreat
namespace Go.Proofs.YtekpamojojfplaaGreat
open Go.RowKit
def prF (xs : List Int) (c k i j : Nat) : List Int := ldR xs c k i ++ (xs.drop (i * c)).take j
theorem prF_zero {xs : List Int} {c k i : Nat} : prF xs c k i 0 = ldR xs c k i := by simp [prF]
theorem prF_row {xs : List Int} {c k i : Nat} : prF xs c k i k = ldR xs c k (i + 1) := by rw [ldR_next]; rfl
theorem prF_next {xs : List Int} {r c k i j : Nat} (hx : xs.length = r * c) (hi : i < r) (hj : j < c) : prF xs c k i (j + 1) = prF xs c k i j ++ [xs.getD (i * c + j) 0] := by
  have h1 := row_in (c := c) hi
  have h2 : j < (xs.drop (i * c)).length := by rw [List.length_drop]; omega
  have e : xs.getD (i * c + j) 0 = (xs.drop (i * c))[j] := by rw [List.getElem_drop, getD_in (by omega)]
  rw [prF, prF, List.take_succ_eq_append_getElem h2, ← e, List.append_assoc]
theorem prF_len {xs : List Int} {r c k i j : Nat} (hx : xs.length = r * c) (hi : i < r) (hk : k ≤ c) (hj : j ≤ k) : (prF xs c k i j).length = i * k + j := by
  have h1 := row_in (c := c) hi
  rw [prF, List.length_append, ldR_len hk (by omega), List.length_take, List.length_drop]; omega
set_option maxRecDepth 100000 in
set_option maxHeartbeats 4000000 in
theorem d_partF (r c k : Nat) (xs : List Int) (ca cp cq n m1 m2 : Nat) (hn : n = xs.length) (hm1 : m1 = k) (hm2 : m2 = k) (hx : xs.length = r * c) (hr : r ≤ 24) (hc24 : c ≤ 24) (hkr : k ≤ r) (hkc : k ≤ c) :
    Does Tryz.prog 147 [vM r c 1 n ca, vS 2 1 0 m1 cp, vS 3 1 0 m2 cq] [(1, .ro (.ints xs)), (2, .ro (.ints (natsI (List.range k)))), (3, .ro (.ints (natsI (List.range k))))] 4 (FromR k k 3 (ldR xs c k k) 4) := by
  subst hn hm1 hm2
  refine Does.intro TT Tryz.func147 rfl (by kernel_rfl) Zz Zz fun E hE => ?_
  ((repeat' (first | refine stx ?_ | (refine stq ?_ ?_ <;> (intro hc; ((try simp at hc) <;> try contradiction))) | fail)) <;> try (exfalso; omega))
  refine awp_nil (k := 6) (f := 2) (sz := 1) (et := 3) (e0 := .ints []) Zz Zz Zz Zz (fun _ h => by cases h) ?_
  refine w_G hE (fun i : Nat × Nat => i.1 ≤ m2 ∧ (ldR xs c m2 i.1).length ≤ i.2) (fun i => m2 - i.1)
    (fun i => [(1, vS 2 1 0 m2 cp), (2, vS 3 1 0 m2 cq), (3, .one (.ptr 4 3 0 0)), (6, .one (.ptr 5 3 0 0)), (7, .one (.ptr 6 3 0 0)), (8, vI i.1)])
    (fun i => [(1, .ro (.ints xs)), (2, .ro (.ints (natsI (List.range m2)))), (3, .ro (.ints (natsI (List.range m2)))), (4, .own 26 1 (.lit [.int r, .int c, .sl 1 1 0 xs.length ca])), (5, .own 26 1 (.lit zeroM)), (6, .own 26 1 (.lit [.int m2, .int m2, .sl 7 1 0 (ldR xs c m2 i.1).length i.2])), (7, .own 3 i.2 (.ints (ldR xs c m2 i.1)))]) 8 [] (0, 0) ⟨Nat.zero_le _, Nat.zero_le _⟩ ⟨w_1, w_2, rfl⟩ ?_
  rintro ⟨i, cap⟩ ⟨hi, hcap⟩
  dsimp only at hi hcap
  have hxs : xs.length ≤ 576 := by rw [hx]; exact Nat.mul_le_mul hr hc24
  by_cases hik : i < m2
  · have hik2 : ¬ m2 ≤ i := by omega
    ((repeat' (first | refine stx ?_ | (refine stq ?_ ?_ <;> (intro hc; ((try simp at hc) <;> try contradiction))) | fail)) <;> try (exfalso; omega))
    refine w_G hE (fun x : Nat × Nat => x.1 ≤ m2 ∧ (prF xs c m2 i x.1).length ≤ x.2) (fun x => m2 - x.1)
      (fun x => [(1, vS 2 1 0 m2 cp), (2, vS 3 1 0 m2 cq), (3, .one (.ptr 4 3 0 0)), (6, .one (.ptr 5 3 0 0)), (7, .one (.ptr 6 3 0 0)), (8, vI i), (9, vI x.1)])
      (fun x => [(1, .ro (.ints xs)), (2, .ro (.ints (natsI (List.range m2)))), (3, .ro (.ints (natsI (List.range m2)))), (4, .own 26 1 (.lit [.int r, .int c, .sl 1 1 0 xs.length ca])), (5, .own 26 1 (.lit zeroM)), (6, .own 26 1 (.lit [.int m2, .int m2, .sl 7 1 0 (prF xs c m2 i x.1).length x.2])), (7, .own 3 x.2 (.ints (prF xs c m2 i x.1)))]) 8 [] (0, cap) ⟨Nat.zero_le _, by dsimp only; rw [prF_zero]; exact hcap⟩ (by rw [prF_zero]; exact ⟨w_1, w_2, rfl⟩) ?_
    rintro ⟨j, cap2⟩ ⟨hj, hcap2⟩
    dsimp only at hj hcap2
    have hir : i < r := by omega
    have hin := row_in (c := c) hir
    have hpl := prF_len hx hir hkc hj
    have hpb : i * m2 + j ≤ 24 * 24 + 24 := by have := Nat.mul_le_mul (show i ≤ 24 by omega) (show m2 ≤ 24 by omega); omega
    by_cases hjk : j < m2
    · have hjk2 : ¬ m2 ≤ j := by omega
      have hln1 : (natsI (List.range m2)).length = m2 := by rw [natsI_len, List.length_range]
      have e1 : (natsI (List.range m2)).getD (0 + (i : Int).toNat) 0 = (i : Int) := by rw [show 0 + (i : Int).toNat = i by omega, natsI_getD, range_getD hik]
      have e2 : (natsI (List.range m2)).getD (0 + (j : Int).toNat) 0 = (j : Int) := by rw [show 0 + (j : Int).toNat = j by omega, natsI_getD, range_getD hjk]
      have e3 : (i : Int) * c = ((i * c : Nat) : Int) := by simp
      have hcell := fun h1 h3 => d_cell12 r c (i : Int) j xs xs.length ca rfl h1 (by omega) h3 (by omega)
      have hcell := hcell (by rw [e3]; omega) (by rw [e3]; omega)
      rw [← e1, ← e2] at hcell
      have hnx := prF_next (k := m2) (j := j) hx hir (by omega)
      have ev : xs.getD (0 + ((natsI (List.range m2)).getD (0 + (i : Int).toNat) 0 * c + (natsI (List.range m2)).getD (0 + (j : Int).toNat) 0).toNat) 0 = xs.getD (i * c + j) 0 := by
        rw [e1, e2, e3]; congr 1; omega
      rw [← ev] at hnx
      ((repeat' (first | refine stp ?_ | (refine stq ?_ ?_ <;> (intro hc; ((try simp at hc) <;> try contradiction))) | fail)) <;> try (exfalso; omega))
      refine awp_held TM [(1, _), (2, _), (3, _), (4, _)] sb rfl (fun ρs => ?_)
      refine zt2 ?_
      refine zt3 ?_
      refine zt4 ?_
      refine zt5 ?_
      refine zt6 ?_
      refine zt7 ?_
      refine zt8 ?_
      refine zt9 ?_
      refine zt10 ?_
      refine w_u [0, 11] kr rfl ⟨?_, ?_, trivial⟩
      first | (refine zho ?_) | (refine w_y TT _ Zz Zz Zz Zz Zz Zz sd sb Zz Zz ?_; intro cap hcap) | refine w_B _ (hcell) Zz Zz Zz Zz Zz Zz Zz Zz Zz ft Zz Zz sb rfl ?_
      refine w_u [1, 11] kr rfl ⟨?_, ?_, trivial⟩
      first | (refine zho ?_) | (refine w_y TT _ Zz Zz Zz Zz Zz Zz sd sb Zz Zz ?_; intro cap hcap) | refine w_B _ (hcell) Zz Zz Zz Zz Zz Zz Zz Zz Zz ft Zz Zz sb rfl ?_
      refine w_u [11] kr rfl ⟨?_, trivial⟩
      first | (refine zho ?_) | (refine w_y TT _ Zz Zz Zz Zz Zz Zz sd sb Zz Zz ?_; intro cap hcap) | refine w_B _ (hcell) Zz Zz Zz Zz Zz Zz Zz Zz Zz ft Zz Zz sb rfl ?_
      refine w_u [12] kr rfl ⟨?_, trivial⟩
      first | (refine zho ?_) | (refine w_y TT _ Zz Zz Zz Zz Zz Zz sd sb Zz Zz ?_; intro cap hcap) | refine w_B _ (hcell) Zz Zz Zz Zz Zz Zz Zz Zz Zz ft Zz Zz sb rfl ?_
      refine w_u [13] kr rfl ⟨?_, trivial⟩
      first | (refine zho ?_) | (refine w_y TT _ Zz Zz Zz Zz Zz Zz sd sb Zz Zz ?_; intro cap hcap) | refine w_B _ (hcell) Zz Zz Zz Zz Zz Zz Zz Zz Zz ft Zz Zz sb rfl ?_
      refine w_u [14] kr rfl ⟨?_, trivial⟩
      first | (refine zho ?_) | (refine w_y TT _ Zz Zz Zz Zz Zz Zz sd sb Zz Zz ?_; intro cap hcap) | refine w_B _ (hcell) Zz Zz Zz Zz Zz Zz Zz Zz Zz ft Zz Zz sb rfl ?_
      refine w_u [15] kr rfl ⟨?_, trivial⟩
      first | (refine zho ?_) | (refine w_y TT _ Zz Zz Zz Zz Zz Zz sd sb Zz Zz ?_; intro cap hcap) | refine w_B _ (hcell) Zz Zz Zz Zz Zz Zz Zz Zz Zz ft Zz Zz sb rfl ?_
      refine w_v kr ?_
      rotate_left
      first | (refine zho ?_) | (refine w_y TT _ Zz Zz Zz Zz Zz Zz sd sb Zz Zz ?_; intro cap hcap) | refine w_B _ (hcell) Zz Zz Zz Zz Zz Zz Zz Zz Zz ft Zz Zz sb rfl ?_
      refine w_u [1, 12] kr rfl ⟨?_, ?_, trivial⟩
      first | (refine zho ?_) | (refine w_y TT _ Zz Zz Zz Zz Zz Zz sd sb Zz Zz ?_; intro cap hcap) | refine w_B _ (hcell) Zz Zz Zz Zz Zz Zz Zz Zz Zz ft Zz Zz sb rfl ?_
      refine w_u [12] kr rfl ⟨?_, trivial⟩
      first | (refine zho ?_) | (refine w_y TT _ Zz Zz Zz Zz Zz Zz sd sb Zz Zz ?_; intro cap hcap) | refine w_B _ (hcell) Zz Zz Zz Zz Zz Zz Zz Zz Zz ft Zz Zz sb rfl ?_
      refine w_u [13] kr rfl ⟨?_, trivial⟩
      first | (refine zho ?_) | (refine w_y TT _ Zz Zz Zz Zz Zz Zz sd sb Zz Zz ?_; intro cap hcap) | refine w_B _ (hcell) Zz Zz Zz Zz Zz Zz Zz Zz Zz ft Zz Zz sb rfl ?_
      refine w_u [14] kr rfl ⟨?_, trivial⟩
      first | (refine zho ?_) | (refine w_y TT _ Zz Zz Zz Zz Zz Zz sd sb Zz Zz ?_; intro cap hcap) | refine w_B _ (hcell) Zz Zz Zz Zz Zz Zz Zz Zz Zz ft Zz Zz sb rfl ?_
      refine w_u [15] kr rfl ⟨?_, trivial⟩
      first | (refine zho ?_) | (refine w_y TT _ Zz Zz Zz Zz Zz Zz sd sb Zz Zz ?_; intro cap hcap) | refine w_B _ (hcell) Zz Zz Zz Zz Zz Zz Zz Zz Zz ft Zz Zz sb rfl ?_
      refine w_v kr ?_
      rotate_left
      first | (refine zho ?_) | (refine w_y TT _ Zz Zz Zz Zz Zz Zz sd sb Zz Zz ?_; intro cap hcap) | refine w_B _ (hcell) Zz Zz Zz Zz Zz Zz Zz Zz Zz ft Zz Zz sb rfl ?_
      refine w_u [1] kr rfl ⟨?_, trivial⟩
      first | (refine zho ?_) | (refine w_y TT _ Zz Zz Zz Zz Zz Zz sd sb Zz Zz ?_; intro cap hcap) | refine w_B _ (hcell) Zz Zz Zz Zz Zz Zz Zz Zz Zz ft Zz Zz sb rfl ?_
      refine w_u [13] kr rfl ⟨?_, trivial⟩
      first | (refine zho ?_) | (refine w_y TT _ Zz Zz Zz Zz Zz Zz sd sb Zz Zz ?_; intro cap hcap) | refine w_B _ (hcell) Zz Zz Zz Zz Zz Zz Zz Zz Zz ft Zz Zz sb rfl ?_
      refine w_u [14] kr rfl ⟨?_, trivial⟩
      first | (refine zho ?_) | (refine w_y TT _ Zz Zz Zz Zz Zz Zz sd sb Zz Zz ?_; intro cap hcap) | refine w_B _ (hcell) Zz Zz Zz Zz Zz Zz Zz Zz Zz ft Zz Zz sb rfl ?_
      refine w_u [15] kr rfl ⟨?_, trivial⟩
      first | (refine zho ?_) | (refine w_y TT _ Zz Zz Zz Zz Zz Zz sd sb Zz Zz ?_; intro cap hcap) | refine w_B _ (hcell) Zz Zz Zz Zz Zz Zz Zz Zz Zz ft Zz Zz sb rfl ?_
      refine w_v kr ?_
      rotate_left
      first | (refine zho ?_) | (refine w_y TT _ Zz Zz Zz Zz Zz Zz sd sb Zz Zz ?_; intro cap hcap) | refine w_B _ (hcell) Zz Zz Zz Zz Zz Zz Zz Zz Zz ft Zz Zz sb rfl ?_
      refine w_u [0, 12] kr rfl ⟨?_, ?_, trivial⟩
      first | (refine zho ?_) | (refine w_y TT _ Zz Zz Zz Zz Zz Zz sd sb Zz Zz ?_; intro cap hcap) | refine w_B _ (hcell) Zz Zz Zz Zz Zz Zz Zz Zz Zz ft Zz Zz sb rfl ?_
      refine w_u [1, 12] kr rfl ⟨?_, ?_, trivial⟩
      first | (refine zho ?_) | (refine w_y TT _ Zz Zz Zz Zz Zz Zz sd sb Zz Zz ?_; intro cap hcap) | refine w_B _ (hcell) Zz Zz Zz Zz Zz Zz Zz Zz Zz ft Zz Zz sb rfl ?_
      refine w_u [12] kr rfl ⟨?_, trivial⟩
      first | (refine zho ?_) | (refine w_y TT _ Zz Zz Zz Zz Zz Zz sd sb Zz Zz ?_; intro cap hcap) | refine w_B _ (hcell) Zz Zz Zz Zz Zz Zz Zz Zz Zz ft Zz Zz sb rfl ?_
      refine w_u [13] kr rfl ⟨?_, trivial⟩
      first | (refine zho ?_) | (refine w_y TT _ Zz Zz Zz Zz Zz Zz sd sb Zz Zz ?_; intro cap hcap) | refine w_B _ (hcell) Zz Zz Zz Zz Zz Zz Zz Zz Zz ft Zz Zz sb rfl ?_
      refine w_u [14] kr rfl ⟨?_, trivial⟩
      first | (refine zho ?_) | (refine w_y TT _ Zz Zz Zz Zz Zz Zz sd sb Zz Zz ?_; intro cap hcap) | refine w_B _ (hcell) Zz Zz Zz Zz Zz Zz Zz Zz Zz ft Zz Zz sb rfl ?_
      refine w_u [15] kr rfl ⟨?_, trivial⟩
      first | (refine zho ?_) | (refine w_y TT _ Zz Zz Zz Zz Zz Zz sd sb Zz Zz ?_; intro cap hcap) | refine w_B _ (hcell) Zz Zz Zz Zz Zz Zz Zz Zz Zz ft Zz Zz sb rfl ?_
      refine w_v kr ?_
      rotate_left
      first | (refine zho ?_) | (refine w_y TT _ Zz Zz Zz Zz Zz Zz sd sb Zz Zz ?_; intro cap hcap) | refine w_B _ (hcell) Zz Zz Zz Zz Zz Zz Zz Zz Zz ft Zz Zz sb rfl ?_
      refine w_u [1] kr rfl ⟨?_, trivial⟩
      first | (refine zho ?_) | (refine w_y TT _ Zz Zz Zz Zz Zz Zz sd sb Zz Zz ?_; intro cap hcap) | refine w_B _ (hcell) Zz Zz Zz Zz Zz Zz Zz Zz Zz ft Zz Zz sb rfl ?_
      refine w_u [13] kr rfl ⟨?_, trivial⟩
      first | (refine zho ?_) | (refine w_y TT _ Zz Zz Zz Zz Zz Zz sd sb Zz Zz ?_; intro cap hcap) | refine w_B _ (hcell) Zz Zz Zz Zz Zz Zz Zz Zz Zz ft Zz Zz sb rfl ?_
      refine w_u [14] kr rfl ⟨?_, trivial⟩
      first | (refine zho ?_) | (refine w_y TT _ Zz Zz Zz Zz Zz Zz sd sb Zz Zz ?_; intro cap hcap) | refine w_B _ (hcell) Zz Zz Zz Zz Zz Zz Zz Zz Zz ft Zz Zz sb rfl ?_
      refine w_u [15] kr rfl ⟨?_, trivial⟩
      first | (refine zho ?_) | (refine w_y TT _ Zz Zz Zz Zz Zz Zz sd sb Zz Zz ?_; intro cap hcap) | refine w_B _ (hcell) Zz Zz Zz Zz Zz Zz Zz Zz Zz ft Zz Zz sb rfl ?_
      refine w_v kr ?_
      rotate_left
      first | (refine zho ?_) | (refine w_y TT _ Zz Zz Zz Zz Zz Zz sd sb Zz Zz ?_; intro cap hcap) | refine w_B _ (hcell) Zz Zz Zz Zz Zz Zz Zz Zz Zz ft Zz Zz sb rfl ?_
      refine w_u [0] kr rfl ⟨?_, trivial⟩
      first | (refine zho ?_) | (refine w_y TT _ Zz Zz Zz Zz Zz Zz sd sb Zz Zz ?_; intro cap hcap) | refine w_B _ (hcell) Zz Zz Zz Zz Zz Zz Zz Zz Zz ft Zz Zz sb rfl ?_
      refine w_u [1] kr rfl ⟨?_, trivial⟩
      first | (refine zho ?_) | (refine w_y TT _ Zz Zz Zz Zz Zz Zz sd sb Zz Zz ?_; intro cap hcap) | refine w_B _ (hcell) Zz Zz Zz Zz Zz Zz Zz Zz Zz ft Zz Zz sb rfl ?_
      refine w_u [13] kr rfl ⟨?_, trivial⟩
      first | (refine zho ?_) | (refine w_y TT _ Zz Zz Zz Zz Zz Zz sd sb Zz Zz ?_; intro cap hcap) | refine w_B _ (hcell) Zz Zz Zz Zz Zz Zz Zz Zz Zz ft Zz Zz sb rfl ?_
      refine w_u [14] kr rfl ⟨?_, trivial⟩
      first | (refine zho ?_) | (refine w_y TT _ Zz Zz Zz Zz Zz Zz sd sb Zz Zz ?_; intro cap hcap) | refine w_B _ (hcell) Zz Zz Zz Zz Zz Zz Zz Zz Zz ft Zz Zz sb rfl ?_
      refine w_u [15] kr rfl ⟨?_, trivial⟩
      first | (refine zho ?_) | (refine w_y TT _ Zz Zz Zz Zz Zz Zz sd sb Zz Zz ?_; intro cap hcap) | refine w_B _ (hcell) Zz Zz Zz Zz Zz Zz Zz Zz Zz ft Zz Zz sb rfl ?_
      refine w_v kr ?_
      rotate_left
      all_goals ((repeat' (first | refine stx ?_ | (refine stq ?_ ?_ <;> (intro hc; ((try simp at hc) <;> try contradiction))) | fail)) <;> try (exfalso; omega))
      all_goals
        have el : (prF xs c m2 i j).length + 1 = (prF xs c m2 i (j + 1)).length := by rw [hnx]; simp
        exact ⟨[(7, 9)], (j + 1, cap), ⟨by dsimp only; omega, by dsimp only at hcap ⊢; omega⟩, w_4, ⟨w_1, ⟨rfl, rfl, rfl, rfl, rfl, own_litP rfl el, own_ints hnx.symm, trivial⟩, rfl⟩⟩
    · obtain rfl : j = m2 := by omega
      ((repeat' (first | refine stx ?_ | (refine stq ?_ ?_ <;> (intro hc; ((try simp at hc) <;> try contradiction))) | fail)) <;> try (exfalso; omega))
      have er := prF_row (xs := xs) (c := c) (k := j) (i := i)
      exact ⟨[], (i + 1, cap2), ⟨hik, by dsimp only; rw [← er]; exact hcap2⟩, w_4, by dsimp only; rw [← er]; exact ⟨w_1, w_2, rfl⟩⟩
  · obtain rfl : i = m2 := by omega
    ((repeat' (first | refine stx ?_ | (refine stq ?_ ?_ <;> (intro hc; ((try simp at hc) <;> try contradiction))) | fail)) <;> try (exfalso; omega))
    exact fin rfl w_3 [(4, 7)] (.agg [.int i, .int i, .sl 4 1 0 (ldR xs c i i).length cap]) [(4, .own 3 cap (.ints (ldR xs c i i)))] 5 ⟨cap, hcap, rfl, rfl, rfl⟩ rfl ⟨trivial, ⟨rfl, trivial⟩, rfl⟩ rfl
end Go.Proofs.YtekpamojojfplaaGreat
