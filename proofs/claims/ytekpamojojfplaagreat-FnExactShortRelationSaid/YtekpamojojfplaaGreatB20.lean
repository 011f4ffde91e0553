/-
  TEXTS OF THE PROOF, put together: bBasis, pNorm, pNorm2.
-/
import Derived.Test.YtekpamojojfplaaGreatB18
import Derived.Test.YtekpamojojfplaaGreatB19
set_option linter.unusedVariables false
set_option linter.unusedSimpArgs false
namespace Go.Proofs.YtekpamojojfplaaGreat
open Go.RowKit
def zoP (xs : List Int) (off n : Nat) : Prop := ∀ k, k < n → xs.getD (off + k) 0 = 0
instance {xs : List Int} {off n : Nat} : Decidable (zoP xs off n) := by unfold zoP; infer_instance
structure Split (a b t : Nat) (xs : List Int) : Prop where
  le : t ≤ a
  yes : ∀ i, i < t → ∃ k, k < b ∧ xs.getD (i * b + k) 0 ≠ 0
  no : ∀ i k, t ≤ i → i < a → k < b → xs.getD (i * b + k) 0 = 0
theorem Shape.split {a b t : Nat} {xs : List Int} {pv : Nat → Nat} (h : Shape a b b t xs pv) (ht : t ≤ a) : Split a b t xs := ⟨ht, fun i hi => ⟨pv i, (h.pos i hi).1, fun e => by have := (h.pos i hi).2; omega⟩, fun i k h1 h2 h3 => h.zero i k h1 h2 h3⟩
theorem Split.zo {a b t i : Nat} {xs : List Int} (h : Split a b t xs) (hi : i < a) : decide (zoP xs (i * b) b) = decide (t ≤ i) := by
  by_cases c : t ≤ i
  · rw [decide_eq_true c, decide_eq_true]
    exact fun k hk => h.no i k c hi hk
  · rw [decide_eq_false c, decide_eq_false]
    intro hz
    obtain ⟨k, h1, h2⟩ := h.yes i (by omega)
    exact h2 (hz k h1)
def basO (r c : Int) (xs : List Int) : Option (List Int × Nat) := if isM r c xs then (hTo r.toNat c.toNat (xs, idTo r.toNat r.toNat) c.toNat).map fun st => (st.1.1.take (st.2 * c.toNat), st.2) else none
def BasR (t : TypeId) (c : Int) (o : Option (List Int × Nat)) (k : Nat) (v : AV) (Hout : List (Nat × Blk)) (n1 : Nat) : Prop := match o with
  | none => v = .tup [.agg zeroM, .one (.bool false)] ∧ Hout = [] ∧ n1 = k
  | some s => ∃ cap, s.1.length ≤ cap ∧ v = .tup [.agg [.int s.2, .int c, .sl k 1 0 s.1.length cap], .one (.bool true)] ∧ Hout = [(k, .own t cap (.ints s.1))] ∧ n1 = k + 1
set_option maxHeartbeats 2000000 in
theorem d_l12Rows (a b t n ca : Nat) (xs : List Int) (hn : n = xs.length) (hx : xs.length = a * b) (ha : a ≤ 24) (hb : b ≤ 24) (hs : Split a b t xs) : Does Tryz.prog 115 [vM a b 1 n ca] [(1, .ro (.ints xs))] 2 (Ret (vI t) 2) := by
 subst hn
 refine Does.intro TT Tryz.func115 rfl (by kernel_rfl) Zz Zz fun E hE => ?_
 have hta := hs.le
 ((repeat' (first | refine stx ?_ | (refine stq ?_ ?_ <;> (intro hc; ((try simp at hc) <;> try contradiction))) | fail)) <;> try (exfalso; omega))
 refine w_G hE (fun i : Nat => i ≤ a) (fun i => a - i)
  (fun i => [(1, .one (.ptr 2 3 0 0)), (3, vI ((min i t : Nat) : Int)), (4, vI i)]) (fun _ => [(1, .ro (.ints xs)), (2, .own 26 1 (.lit [.int a, .int b, .sl 1 1 0 xs.length ca]))]) 3 [] 0 (Nat.zero_le _) ⟨⟨rfl, congrArg some (congrArg vI (by omega)), rfl, trivial⟩, ⟨rfl, rfl, trivial⟩, rfl⟩ ?_
 intro i hi
 by_cases hia : i < a
 ·((repeat' (first | refine stx ?_ | (refine stq ?_ ?_ <;> (intro hc; ((try simp at hc) <;> try contradiction))) | fail)) <;> try (exfalso; omega))
  refine w_G hE (fun x : Nat × Nat => x.1 ≤ b ∧ ((x.2 = i + 1 ∧ ∃ k, k < b ∧ xs.getD (i * b + k) 0 ≠ 0) ∨ (x.2 = min i t ∧ ∀ k, k < x.1 → xs.getD (i * b + k) 0 = 0))) (fun x => b - x.1)
   (fun x => [(1, .one (.ptr 2 3 0 0)), (3, vI x.2), (4, vI i), (5, vI x.1)]) (fun _ => [(1, .ro (.ints xs)), (2, .own 26 1 (.lit [.int a, .int b, .sl 1 1 0 xs.length ca]))]) 3 [] (0, min i t) ⟨Nat.zero_le _, .inr ⟨rfl, fun k h => by omega⟩⟩ ⟨w_1, w_2, rfl⟩ ?_
  rintro ⟨q, f⟩ ⟨hq, hf⟩
  dsimp only at hq hf ⊢
  by_cases hqb : q < b
  ·have hd := d_cellH a b i q xs.length ca xs rfl hx ha hb hia hqb
   have w1 : xs[i * b + q]?.getD 0 = xs.getD (i * b + q) 0 := by simp
   by_cases h0 : xs.getD (i * b + q) 0 = 0
   ·((repeat' (first | refine stx ?_ | refine zqc (hd) ?_ | (refine stq ?_ ?_ <;> (intro hc; ((try simp at hc) <;> try contradiction))) | fail)) <;> try (exfalso; omega))
    all_goals exact ⟨[], (q + 1, f), ⟨hqb, hf.imp (fun h => h) fun ⟨h1, h2⟩ => ⟨h1, fun k hk => by
     dsimp only at hk
     rcases Nat.lt_or_ge k q with e | e
     ·exact h2 k e
     ·obtain rfl : k = q := by omega
      exact h0⟩⟩, w_4, ⟨w_1, w_2, rfl⟩⟩
   ·((repeat' (first | refine stx ?_ | refine zqc (hd) ?_ | (refine stq ?_ ?_ <;> (intro hc; ((try simp at hc) <;> try contradiction))) | fail)) <;> try (exfalso; omega))
    all_goals exact ⟨[], (q + 1, i + 1), ⟨hqb, .inl ⟨rfl, q, hqb, h0⟩⟩, w_4, ⟨w_1, w_2, rfl⟩⟩
  ·obtain rfl : q = b := by omega
   have hf' : f = min (i + 1) t := by
    rcases hf with ⟨h1, k, h2, h3⟩ | ⟨h1, h2⟩
    ·have : ¬ t ≤ i := fun h => h3 (hs.no i k h hia h2)
     omega
    ·by_cases h : t ≤ i
     ·omega
     ·obtain ⟨k, h3, h4⟩ := hs.yes i (by omega)
      exact absurd (h2 k h3) h4
   subst hf'
   ((repeat' (first | refine stx ?_ | (refine stq ?_ ?_ <;> (intro hc; ((try simp at hc) <;> try contradiction))) | fail)) <;> try (exfalso; omega))
   all_goals exact ⟨[], i + 1, hia, w_4, ⟨w_1, w_2, rfl⟩⟩
 ·obtain rfl : i = a := by omega
  have hm : min i t = t := by omega
  rw [hm]
  ((repeat' (first | refine stx ?_ | (refine stq ?_ ?_ <;> (intro hc; ((try simp at hc) <;> try contradiction))) | fail)) <;> try (exfalso; omega))
  all_goals refine fin_ret rfl w_3 (rfl) rfl
set_option maxHeartbeats 2000000 in
theorem d_basS (r c : Int) (xs : List Int) (ca : Nat) (hl : xs.length ≤ 1099511627776) : Does Tryz.prog 116 [vM r c 1 xs.length ca] [(1, .ro (.ints xs))] 2 (BasR 3 c (basO r c xs) 2) := by
 refine Does.intro TT Tryz.func116 rfl (by kernel_rfl) Zz Zz fun E hE => ?_
 have hh := d_hermS r c xs ca hl
 cases hm : isM r c xs
 ·have hR : basO r c xs = none := by simp [basO, hm]
  have hR2 : hermO r c xs = none := by simp [hermO, hm]
  rw [hR]
  rw [hR2] at hh
  ((repeat' (first | refine stx ?_ | ((refine zqe (hh) ?_); rintro v Hout n1 ⟨rfl, rfl, rfl⟩) | (refine stq ?_ ?_ <;> (intro hc; ((try simp at hc) <;> try contradiction))) | fail)) <;> try (exfalso; omega))
  all_goals exact fin rfl w_3 [] (.tup [.agg zeroM, .one (.bool false)]) [] 2 ⟨rfl, rfl, rfl⟩ rfl ⟨trivial, trivial, rfl⟩ rfl
 ·obtain ⟨a, b, rfl, rfl, ha, hb, hx, hnum⟩ := isM_dimsH hm
  have hR : basO a b xs = (hTo a b (xs, idTo a a) b).map fun st => (st.1.1.take (st.2 * b), st.2) := by simp [basO, hm]
  have hR2 : hermO a b xs = (hTo a b (xs, idTo a a) b).map (·.1) := by simp [hermO, hm]
  have o0 : OKs a b (xs, idTo a a) := ⟨hx, idTo_len, hnum, id_num⟩
  rw [hR]
  rw [hR2] at hh
  cases hT : hTo a b (xs, idTo a a) b with
  | none =>
   rw [hT] at hh
   dsimp only [Option.map_none] at hh ⊢
   ((repeat' (first | refine stx ?_ | ((refine zqe (hh) ?_); rintro v Hout n1 ⟨rfl, rfl, rfl⟩) | (refine stq ?_ ?_ <;> (intro hc; ((try simp at hc) <;> try contradiction))) | fail)) <;> try (exfalso; omega))
   all_goals exact fin rfl w_3 [] (.tup [.agg zeroM, .one (.bool false)]) [] 2 ⟨rfl, rfl, rfl⟩ rfl ⟨trivial, trivial, rfl⟩ rfl
  | some st =>
   obtain ⟨s, t⟩ := st
   rw [hT] at hh
   dsimp only [Option.map_some] at hh ⊢
   obtain ⟨o1, o2, o3⟩ := hTo_ok o0 hT
   obtain ⟨pv, hsh⟩ := hTo_shape o0 (Nat.le_refl _) hT
   have hsp := hsh.split o2
   dsimp only at o1 o2 hsp
   have l1 : s.1.length = a * b := o1.1
   have htb : t * b ≤ a * b := Nat.mul_le_mul_right _ o2
   have hab : a * b ≤ 24 * 24 := Nat.mul_le_mul ha hb
   have e1 : (t : Int) * b = ((t * b : Nat) : Int) := by simp
   have hmn : (s.1.take (t * b)).length = t * b := by rw [List.length_take]; omega
   have hr := fun cx => d_l12Rows a b t s.1.length cx s.1 rfl l1 ha hb hsp
   have hbd : 0 ≤ (t : Int) * b ∧ (t : Int) * b ≤ s.1.length := by omega
   have hnt : ((t : Int) * b).toNat = t * b := by omega
   ((repeat' (first | refine stp ?_ | ((refine zqe (hh) ?_); rintro v Hout n1 ⟨cx, cu, hcx, hcu, rfl, rfl, rfl⟩) | refine zqc (hr _) ?_ | (refine stq ?_ ?_ <;> (intro hc; ((try simp at hc) <;> try contradiction))) | fail)) <;> try (exfalso; omega))
   refine awp_held TM [(6, _)] sb rfl (fun ρs => ?_)
   refine zt0 ?_
   refine zt1 ?_
   refine zt2 ?_
   refine zt4 ?_
   refine zt5 ?_
   refine zt6 ?_
   refine zt7 ?_
   refine zt8 ?_
   refine zt9 ?_
   refine zt10 ?_
   refine w_u [3] kr rfl ⟨?_, trivial⟩
   first | (refine zho ?_) | (refine zqy ?_; intro cap hcap)
   refine w_u [11] kr rfl ⟨?_, trivial⟩
   first | (refine zho ?_) | (refine zqy ?_; intro cap hcap)
   refine zt12 ?_
   refine w_u [13] kr rfl ⟨?_, trivial⟩
   first | (refine zho ?_) | (refine zqy ?_; intro cap hcap)
   refine zt14 ?_
   refine w_v kr ?_
   rotate_left
   all_goals ((repeat' (first | refine stp ?_ | (refine stq ?_ ?_ <;> (intro hc; ((try simp at hc) <;> try contradiction))) | fail)) <;> try (exfalso; omega))
   have hlen : 0 + ((t : Int) * b).toNat = (s.1.take (t * b)).length := by omega
   exact fin rfl w_3 [(2, 9)] (.tup [.agg [.int t, .int b, .sl 2 1 0 (s.1.take (t * b)).length cap], .one (.bool true)]) [(2, .own 3 cap (.ints (s.1.take (t * b))))] 3 ⟨cap, by dsimp only; omega, rfl, rfl, rfl⟩ (by rw [← hlen]; rfl) ⟨trivial, ⟨own_ints (by rw [hnt]; simp), trivial⟩, rfl⟩ rfl
def FoundO (xs : List Int) (off n : Nat) (v : AV) (Hout : List (Nat × Blk)) (n1 : Nat) : Prop := ∃ j : Int, v = vI j ∧ Hout = [] ∧ n1 = 2 ∧ ((zoP xs off n ∧ j < 0) ∨ (¬ zoP xs off n ∧ 0 ≤ j))
theorem d_nonZeroB (n : Int) : Does Tryz.prog 128 [vI n] [] 1 (Ret (vB (decide (n ≠ 0))) 1) := by
 refine Does.intro TT Tryz.func128 rfl (by kernel_rfl) Zz Zz fun E hE => ?_
 (repeat' (first | refine stx ?_ | (refine stq ?_ ?_ <;> (intro hc; ((try simp at hc) <;> try contradiction))) | fail))
 refine fin_ret rfl w_3 (rfl) rfl
theorem d_indexO (xs : List Int) (off n c : Nat) (hl : off + n ≤ xs.length) (hx : xs.length ≤ 1099511627776) : Does Tryz.prog 165 [vS 1 1 off n c, .one (.fn 128 [])] [(1, .ro (.ints xs))] 2 (FoundO xs off n) := by
 refine Does.intro TT Tryz.func165 rfl (by kernel_rfl) Zz Zz fun E hE => ?_
 (repeat' (first | refine stx ?_ | (refine stq ?_ ?_ <;> (intro hc; ((try simp at hc) <;> try contradiction))) | fail))
 refine w_G hE (fun k : Nat => k ≤ n ∧ ∀ i, i < k → xs.getD (off + i) 0 = 0) (fun k => n - k)
  (fun k => [(0, vS 1 1 off n c), (1, .one (.fn 128 [])), (7, vI n), (8, vI k)]) (fun _ => [(1, .ro (.ints xs))]) 2 [] 0 ⟨Nat.zero_le _, fun i hi => by omega⟩ ⟨w_1, w_2, rfl⟩ ?_
 rintro k ⟨h1, h2⟩
 have e := off_nat (off := off) (k := k)
 ((repeat' (first | refine stx ?_ | refine zqc (d_nonZeroB _) ?_ | (refine stq ?_ ?_ <;> (intro hc; ((try simp at hc) <;> try contradiction))) | fail)) <;> try (exfalso; omega))
 ·have hz : xs.getD (off + k) 0 ≠ 0 := by rw [List.getD_eq_getElem?_getD]; simpa using hc
  have hkn : k < n := by assumption
  exact fin rfl w_3 [] (vI k) [] 2 ⟨_, rfl, rfl, rfl, .inr ⟨fun h => hz (h k hkn), by omega⟩⟩ rfl ⟨trivial, trivial, rfl⟩ rfl
 ·have hz : xs.getD (off + k) 0 = 0 := by rw [List.getD_eq_getElem?_getD]; simpa using hc
  refine ⟨[], k + 1, ⟨by omega, fun i hi => ?_⟩, w_4, ⟨w_1, w_2, rfl⟩⟩
  rcases Nat.lt_or_ge i k with q | q
  ·exact h2 i q
  ·obtain rfl : i = k := by omega
   exact hz
 ·obtain rfl : k = n := by omega
  exact fin rfl w_3 [] (vI (-1)) [] 2 ⟨_, rfl, rfl, rfl, .inl ⟨h2, by omega⟩⟩ rfl ⟨trivial, trivial, rfl⟩ rfl
theorem d_containsO (xs : List Int) (off n c : Nat) (hl : off + n ≤ xs.length) (hx : xs.length ≤ 1099511627776) : Does Tryz.prog 127 [vS 1 1 off n c, .one (.fn 128 [])] [(1, .ro (.ints xs))] 2 (Ret (vB (!decide (zoP xs off n))) 2) := by
 refine Does.intro TT Tryz.func127 rfl (by kernel_rfl) Zz Zz fun E hE => ?_
 (repeat' (first | refine stx ?_ | ((refine zqe (d_indexO _ _ _ _ hl hx) ?_); rintro v Hout n1 ⟨j, rfl, rfl, rfl, hj⟩) | (refine stq ?_ ?_ <;> (intro hc; ((try simp at hc) <;> try contradiction))) | fail))
 refine fin_ret rfl w_3 (congrArg vB ?_) rfl
 rcases hj with ⟨h1, h2⟩ | ⟨h1, h2⟩
 ·rw [decide_eq_true h1, decide_eq_false (by omega)]; rfl
 ·rw [decide_eq_false h1, decide_eq_true h2]; rfl
theorem d_zeroO (xs : List Int) (off n c : Nat) (hl : off + n ≤ xs.length) (hx : xs.length ≤ 1099511627776) : Does Tryz.prog 78 [vS 1 1 off n c] [(1, .ro (.ints xs))] 2 (Ret (vB (decide (zoP xs off n))) 2) := by
 refine Does.intro TT Tryz.func78 rfl (by kernel_rfl) Zz Zz fun E hE => ?_
 (repeat' (first | refine stx ?_ | refine zqc (d_containsO _ _ _ _ hl hx) ?_ | (refine stq ?_ ?_ <;> (intro hc; ((try simp at hc) <;> try contradiction))) | fail))
 refine fin_ret rfl w_3 (congrArg vB (Bool.not_not _)) rfl
theorem natsI_snoc {i : Nat} : natsI (List.range (i + 1)) = natsI (List.range i) ++ [(i : Int)] := by simp [natsI, List.range_succ]
def SplitR (ti : TypeId) (t : Nat) (v : AV) (Hout : List (Nat × Blk)) (n1 : Nat) : Prop := ∃ (c1 c2 : Nat) (zs : List Int), t ≤ c1 ∧ v = .tup [.one (.sl 2 1 0 t c1), .one (.sl 3 1 0 zs.length c2)] ∧ Hout = [(2, .own ti c1 (.ints (natsI (List.range t)))), (3, .own ti c2 (.ints zs))] ∧ n1 = 4
set_option maxHeartbeats 2000000 in
theorem d_splitRows (a b t n ca : Nat) (xs : List Int) (hn : n = xs.length) (hx : xs.length = a * b) (hca : xs.length ≤ ca) (ha : a ≤ 24) (hb : b ≤ 24) (hs : Split a b t xs) : Does Tryz.prog 120 [vM a b 1 n ca] [(1, .ro (.ints xs))] 2 (SplitR 3 t) := by
 subst hn
 refine Does.intro TT Tryz.func120 rfl (by kernel_rfl) Zz Zz fun E hE => ?_
 have hta := hs.le
 have hab : a * b ≤ 24 * 24 := Nat.mul_le_mul ha hb
 ((repeat' (first | refine stx ?_ | (refine stq ?_ ?_ <;> (intro hc; ((try simp at hc) <;> try contradiction))) | fail)) <;> try (exfalso; omega))
 refine w_G hE (fun x : Nat × Nat × Nat × List Int => x.1 ≤ a ∧ min x.1 t ≤ x.2.1 ∧ x.2.2.2.length ≤ x.2.2.1 ∧ x.2.2.2.length ≤ x.1) (fun x => a - x.1)
  (fun x => [(1, .one (.ptr 4 3 0 0)), (4, vS 2 1 0 (min x.1 t) x.2.1), (5, vS 3 1 0 x.2.2.2.length x.2.2.1), (6, vI x.1)]) (fun x => [(1, .ro (.ints xs)), (2, .own 3 x.2.1 (.ints (natsI (List.range (min x.1 t))))), (3, .own 3 x.2.2.1 (.ints x.2.2.2)), (4, .own 26 1 (.lit [.int a, .int b, .sl 1 1 0 xs.length ca]))]) 5 [(2, 3), (3, 4), (4, 2)] (0, 0, 0, []) ⟨Nat.zero_le _, by simp, Nat.zero_le _, Nat.le_refl _⟩ ⟨⟨rfl, sl_eqA (by simp), rfl, rfl, trivial⟩, ⟨rfl, own_ints (by simp [natsI]), rfl, rfl, trivial⟩, rfl⟩ ?_
 rintro ⟨i, c1, c2, zs⟩ ⟨hi, h1, h2, h3⟩
 dsimp only at hi h1 h2 h3 ⊢
 have hnl : (natsI (List.range (min i t))).length = min i t := by rw [natsI_len, List.length_range]
 by_cases hia : i < a
 ·have hin := row_in (c := b) hia
  have hz := fun c => d_zeroO xs (i * b) b c (by omega) (by omega)
  rw [hs.zo hia] at hz
  by_cases hti : t ≤ i
  ·have e1 : min i t = t := by omega
   have e2 : min (i + 1) t = t := by omega
   rw [decide_eq_true hti] at hz
   rw [e1] at hnl h1
   rw [e1]
   ((repeat' (first | refine stx ?_ | ((refine zqe (d_rowAt a b i xs.length ca xs rfl hx hca ha hb hia) ?_); rintro v Hout n1 ⟨cp, rfl, rfl, rfl⟩) | refine zqc (hz _) ?_ | (refine zqx ?_; intro cap hcap) | (refine stq ?_ ?_ <;> (intro hc; ((try simp at hc) <;> try contradiction))) | fail)) <;> try (exfalso; omega))
   refine ⟨[(3, 6)], (i + 1, c1, cap, zs ++ [(i : Int)]), ⟨hia, by dsimp only; omega, by simp; omega, by simp; omega⟩, w_4, ⟨⟨rfl, sl_eqA (by dsimp only; omega), sl_eqA (by simp), congrArg some (congrArg vI (by dsimp only; omega)), trivial⟩, ⟨rfl, own_ints (by dsimp only; rw [e2]), own_ints (by simp), rfl, trivial⟩, rfl⟩⟩
  ·have e1 : min i t = i := by omega
   have e2 : min (i + 1) t = i + 1 := by omega
   rw [decide_eq_false hti] at hz
   rw [e1] at hnl h1
   rw [e1]
   ((repeat' (first | refine stx ?_ | ((refine zqe (d_rowAt a b i xs.length ca xs rfl hx hca ha hb hia) ?_); rintro v Hout n1 ⟨cp, rfl, rfl, rfl⟩) | refine zqc (hz _) ?_ | (refine zqx ?_; intro cap hcap) | (refine stq ?_ ?_ <;> (intro hc; ((try simp at hc) <;> try contradiction))) | fail)) <;> try (exfalso; omega))
   refine ⟨[(2, 6)], (i + 1, cap, c2, zs), ⟨hia, by dsimp only; omega, h2, by dsimp only; omega⟩, w_4, ⟨⟨rfl, sl_eqA (by dsimp only; omega), rfl, congrArg some (congrArg vI (by dsimp only; omega)), trivial⟩, ⟨rfl, own_ints (by dsimp only; rw [e2, natsI_snoc]; rfl), rfl, rfl, trivial⟩, rfl⟩⟩
 ·obtain rfl : i = a := by omega
  have e1 : min i t = t := by omega
  rw [e1] at h1
  rw [e1]
  ((repeat' (first | refine stx ?_ | (refine stq ?_ ?_ <;> (intro hc; ((try simp at hc) <;> try contradiction))) | fail)) <;> try (exfalso; omega))
  exact fin rfl w_3 [] (.tup [.one (.sl 2 1 0 t c1), .one (.sl 3 1 0 zs.length c2)]) [(2, .own 3 c1 (.ints (natsI (List.range t)))), (3, .own 3 c2 (.ints zs))] 4 ⟨c1, c2, zs, h1, rfl, rfl, rfl⟩ rfl ⟨trivial, ⟨rfl, rfl, trivial⟩, rfl⟩ rfl
theorem pickR_range {xs : List Int} {c : Nat} : ∀ t : Nat, pickR xs c (List.range t) = xs.take (t * c)
  | 0 => by simp [pickR]
  | t + 1 => by
    have ih := pickR_range (xs := xs) (c := c) t
    rw [List.range_succ]
    simp only [pickR, List.flatMap_append, List.flatMap_cons, List.flatMap_nil, List.append_nil] at ih ⊢
    rw [ih, Nat.succ_mul, List.take_add]
set_option maxHeartbeats 2000000 in
theorem d_basI (r c : Int) (xs : List Int) (ca : Nat) (hl : xs.length ≤ 1099511627776) : Does Tryz.prog 121 [vM r c 1 xs.length ca] [(1, .ro (.ints xs))] 2 (BasR 3 c (basO r c xs) 2) := by
 refine Does.intro TT Tryz.func121 rfl (by kernel_rfl) Zz Zz fun E hE => ?_
 have hh := d_hermI r c xs ca hl
 cases hm : isM r c xs
 ·have hR : basO r c xs = none := by simp [basO, hm]
  have hR2 : hermO r c xs = none := by simp [hermO, hm]
  rw [hR]
  rw [hR2] at hh
  ((repeat' (first | refine stx ?_ | ((refine zqe (hh) ?_); rintro v Hout n1 ⟨rfl, rfl, rfl⟩) | (refine stq ?_ ?_ <;> (intro hc; ((try simp at hc) <;> try contradiction))) | fail)) <;> try (exfalso; omega))
  all_goals exact fin rfl w_3 [] (.tup [.agg zeroM, .one (.bool false)]) [] 2 ⟨rfl, rfl, rfl⟩ rfl ⟨trivial, trivial, rfl⟩ rfl
 ·obtain ⟨a, b, rfl, rfl, ha, hb, hx, hnum⟩ := isM_dimsH hm
  have hR : basO a b xs = (hTo a b (xs, idTo a a) b).map fun st => (st.1.1.take (st.2 * b), st.2) := by simp [basO, hm]
  have hR2 : hermO a b xs = (hTo a b (xs, idTo a a) b).map (·.1) := by simp [hermO, hm]
  have o0 : OKs a b (xs, idTo a a) := ⟨hx, idTo_len, hnum, id_num⟩
  rw [hR]
  rw [hR2] at hh
  cases hT : hTo a b (xs, idTo a a) b with
  | none =>
   rw [hT] at hh
   dsimp only [Option.map_none] at hh ⊢
   ((repeat' (first | refine stx ?_ | ((refine zqe (hh) ?_); rintro v Hout n1 ⟨rfl, rfl, rfl⟩) | (refine stq ?_ ?_ <;> (intro hc; ((try simp at hc) <;> try contradiction))) | fail)) <;> try (exfalso; omega))
   all_goals exact fin rfl w_3 [] (.tup [.agg zeroM, .one (.bool false)]) [] 2 ⟨rfl, rfl, rfl⟩ rfl ⟨trivial, trivial, rfl⟩ rfl
  | some st =>
   obtain ⟨s, t⟩ := st
   rw [hT] at hh
   dsimp only [Option.map_some] at hh ⊢
   obtain ⟨o1, o2, o3⟩ := hTo_ok o0 hT
   obtain ⟨pv, hsh⟩ := hTo_shape o0 (Nat.le_refl _) hT
   have hsp := hsh.split o2
   dsimp only at o1 o2 hsp
   have l1 : s.1.length = a * b := o1.1
   have hab : a * b ≤ 24 * 24 := Nat.mul_le_mul ha hb
   have hspl := fun cx h => d_splitRows a b t s.1.length cx s.1 rfl l1 h ha hb hsp
   have htk := fun cx cp h => d_takeRows a b s.1 (List.range t) cx cp s.1.length t rfl (by rw [List.length_range]) l1 h ha hb (fun i hi => by rw [List.mem_range] at hi; omega) (by rw [List.length_range]; omega)
   rw [pickR_range, List.length_range] at htk
   ((repeat' (first | refine stx ?_ | ((refine zqe (hh) ?_); rintro v Hout n1 ⟨cx, cu, hcx, hcu, rfl, rfl, rfl⟩) | ((refine zqe (hspl _ hcx) ?_); rintro v Hout n1 ⟨e1, e2, zs, he1, rfl, rfl, rfl⟩) | ((refine zqe (htk _ _ hcx) ?_); rintro v Hout n1 ⟨cap, hcap, rfl, rfl, rfl⟩) | (refine stq ?_ ?_ <;> (intro hc; ((try simp at hc) <;> try contradiction))) | fail)) <;> try (exfalso; omega))
   exact fin rfl w_3 [(2, 10)] (.tup [.agg [.int t, .int b, .sl 2 1 0 (s.1.take (t * b)).length cap], .one (.bool true)]) [(2, .own 3 cap (.ints (s.1.take (t * b))))] 3 ⟨cap, hcap, rfl, rfl, rfl⟩ rfl ⟨trivial, ⟨rfl, trivial⟩, rfl⟩ rfl
end Go.Proofs.YtekpamojojfplaaGreat
namespace Go.Proofs.YtekpamojojfplaaGreat
def pivF (xs : List Int) (off : Nat) : Nat → Nat
  | 0 => 0
  | n + 1 => if pivF xs off n < n then pivF xs off n else if xs.getD (off + n) 0 ≠ 0 then n else n + 1
theorem pivF_zero {xs : List Int} {off : Nat} : ∀ {n : Nat}, (∀ i, i < n → xs.getD (off + i) 0 = 0) → pivF xs off n = n
  | 0, _ => rfl
  | n + 1, h => by
    have := pivF_zero (n := n) fun i hi => h i (by omega)
    rw [pivF, if_neg (by omega), if_neg (fun h0 => h0 (h n (by omega)))]
theorem pivF_eq {xs : List Int} {off k : Nat} (h0 : xs.getD (off + k) 0 ≠ 0) (h : ∀ i, i < k → xs.getD (off + i) 0 = 0) : ∀ {n : Nat}, k < n → pivF xs off n = k
  | 0, hk => by omega
  | n + 1, hk => by
    rcases Nat.lt_or_ge k n with e | e
    · have := pivF_eq h0 h (n := n) e
      rw [pivF, if_pos (by omega), this]
    · obtain rfl : k = n := by omega
      have := pivF_zero (xs := xs) (off := off) (n := k) h
      rw [pivF, if_neg (by omega), if_pos h0]
structure Piv (b t : Nat) (ys : List Int) : Prop where
  len : ys.length = t * b
  num : ys.all numB = true
  yes : ∀ i, i < t → pivF ys (i * b) b < b ∧ 0 < ys.getD (i * b + pivF ys (i * b) b) 0 ∧ ∀ k, k < pivF ys (i * b) b → ys.getD (i * b + k) 0 = 0
  mono : ∀ i i', i < i' → i' < t → pivF ys (i * b) b < pivF ys (i' * b) b
theorem take_getD {xs : List Int} {n p : Nat} (h : p < n) : (xs.take n).getD p 0 = xs.getD p 0 := by
  rw [List.getD_eq_getElem?_getD, List.getD_eq_getElem?_getD, List.getElem?_take_of_lt h]
theorem num_take {xs : List Int} {n : Nat} (h : xs.all numB = true) : (xs.take n).all numB = true := by
  rw [List.all_eq_true] at h ⊢
  exact fun x hx => h x (List.mem_of_mem_take hx)
theorem Shape.piv {a b t : Nat} {xs : List Int} {pv : Nat → Nat} (h : Shape a b b t xs pv) (ht : t ≤ a) (hl : xs.length = a * b) (hn : xs.all numB = true) : Piv b t (xs.take (t * b)) := by
  have htb : t * b ≤ a * b := Nat.mul_le_mul_right _ ht
  have hcell : ∀ i k, i < t → k < b → (xs.take (t * b)).getD (i * b + k) 0 = xs.getD (i * b + k) 0 := fun i k hi hk => take_getD (cell_lt hi hk)
  have key : ∀ i, i < t → pivF (xs.take (t * b)) (i * b) b = pv i := fun i hi => by
    obtain ⟨p1, p2⟩ := h.pos i hi
    refine pivF_eq ?_ (fun k hk => ?_) p1
    · rw [hcell i _ hi p1]; omega
    · rw [hcell i k hi (by omega)]; exact h.left i k hi hk
  refine ⟨by rw [List.length_take]; omega, num_take hn, fun i hi => ?_, fun i i' h1 h2 => ?_⟩
  · rw [key i hi]
    obtain ⟨p1, p2⟩ := h.pos i hi
    refine ⟨p1, ?_, fun k hk => ?_⟩
    · rw [hcell i _ hi p1]; exact p2
    · rw [hcell i k hi (by omega)]; exact h.left i k hi hk
  · rw [key i (by omega), key i' h2]; exact h.mono i i' h1 h2
theorem bas_piv {r c : Int} {xs ys : List Int} {t : Nat} (h : basO r c xs = some (ys, t)) : ∃ a b : Nat, r = a ∧ c = b ∧ a ≤ 24 ∧ b ≤ 24 ∧ t ≤ a ∧ t ≤ b ∧ Piv b t ys := by
  unfold basO at h
  split at h
  · rename_i hm
    obtain ⟨a, b, rfl, rfl, ha, hb, hx, hnum⟩ := isM_dimsH hm
    simp only [Int.toNat_natCast, Option.map_eq_some_iff] at h
    obtain ⟨⟨s, t'⟩, hT, he⟩ := h
    have o0 : OKs a b (xs, idTo a a) := ⟨hx, idTo_len, hnum, id_num⟩
    obtain ⟨o1, o2, o3⟩ := hTo_ok o0 hT
    obtain ⟨pv, hsh⟩ := hTo_shape o0 (Nat.le_refl _) hT
    dsimp only at he o1 o2 o3 hsh
    cases he
    exact ⟨a, b, rfl, rfl, ha, hb, o2, o3, hsh.piv o2 o1.1 o1.2.2.1⟩
  · cases h
def nrOK (ys out : List Int) (b i : Nat) (q : Int) : Nat → Bool
  | 0 => true
  | k + 1 => nrOK ys out b i q k && (numB (ys.getD (i * b + k) 0 * q) && numB (addF ys b i q k (out.getD (0 + k) 0)))
def nrX (ys out : List Int) (b i : Nat) (q : Int) : List Int := updTo out 0 (addF ys b i q) b
def nrQ (ys out : List Int) (b i : Nat) : Int := -(out.getD (pivF ys (i * b) b) 0 / ys.getD (i * b + pivF ys (i * b) b) 0)
def nrAt (ys : List Int) (b i : Nat) (out : List Int) : Option (List Int) := if nrOK ys out b i (nrQ ys out b i) b = true then some (nrX ys out b i (nrQ ys out b i)) else none
def nrTo (ys : List Int) (b : Nat) (out : List Int) : Nat → Option (List Int)
  | 0 => some out
  | n + 1 => (nrTo ys b out n).bind (nrAt ys b n)
def normO (r c : Int) (xs vs : List Int) : Option (List Int) := match basO r c xs with
  | none => none
  | some s => if (vs.length : Int) = c ∧ vs.all numB = true then nrTo s.1 c.toNat vs s.2 else none
end Go.Proofs.YtekpamojojfplaaGreat
namespace Go.Proofs.YtekpamojojfplaaGreat
def comb (ys : List Int) (b : Nat) (q : Nat → Int) (k : Nat) : Nat → Int
  | 0 => 0
  | t + 1 => comb ys b q k t + q t * ys.getD (t * b + k) 0
def InL (ys : List Int) (b t : Nat) (u v : List Int) : Prop := ∃ q : Nat → Int, ∀ k, k < b → u.getD k 0 = v.getD k 0 + comb ys b q k t
theorem comb_add {ys : List Int} {b k : Nat} {q r : Nat → Int} : ∀ t, comb ys b (fun i => q i + r i) k t = comb ys b q k t + comb ys b r k t
  | 0 => rfl
  | t + 1 => by rw [comb, comb, comb, comb_add t, Int.add_mul]; omega
theorem comb_neg {ys : List Int} {b k : Nat} {q : Nat → Int} : ∀ t, comb ys b (fun i => -q i) k t = -comb ys b q k t
  | 0 => rfl
  | t + 1 => by rw [comb, comb, comb_neg t, Int.neg_mul]; omega
theorem comb_zero {ys : List Int} {b k : Nat} : ∀ t, comb ys b (fun _ => 0) k t = 0
  | 0 => rfl
  | t + 1 => by rw [comb, comb_zero t, Int.zero_mul]; rfl
theorem comb_congr {ys : List Int} {b k : Nat} {q r : Nat → Int} : ∀ {t : Nat}, (∀ i, i < t → q i * ys.getD (i * b + k) 0 = r i * ys.getD (i * b + k) 0) → comb ys b q k t = comb ys b r k t
  | 0, _ => rfl
  | t + 1, h => by rw [comb, comb, comb_congr fun i hi => h i (by omega), h t (by omega)]
theorem InL.refl {ys : List Int} {b t : Nat} (u : List Int) : InL ys b t u u := ⟨fun _ => 0, fun k _ => by rw [comb_zero]; omega⟩
theorem InL.symm {ys : List Int} {b t : Nat} {u v : List Int} (h : InL ys b t u v) : InL ys b t v u := by
  obtain ⟨q, hq⟩ := h
  exact ⟨fun i => -q i, fun k hk => by rw [comb_neg, hq k hk]; omega⟩
theorem InL.trans {ys : List Int} {b t : Nat} {u v w : List Int} (h : InL ys b t u v) (h' : InL ys b t v w) : InL ys b t u w := by
  obtain ⟨q, hq⟩ := h
  obtain ⟨r, hr⟩ := h'
  exact ⟨fun i => q i + r i, fun k hk => by rw [comb_add, hq k hk, hr k hk]; omega⟩
theorem comb_one {ys : List Int} {b k i : Nat} {c : Int} : ∀ {t : Nat}, comb ys b (fun j => if j = i then c else 0) k t = if i < t then c * ys.getD (i * b + k) 0 else 0
  | 0 => by simp [comb]
  | t + 1 => by
    rw [comb, comb_one (t := t)]
    by_cases h : t = i
    · subst h
      simp
    · by_cases h2 : i < t
      · rw [if_pos h2, if_neg h, if_pos (by omega)]; omega
      · rw [if_neg h2, if_neg h, if_neg (by omega)]; omega
def Res (ys : List Int) (b n : Nat) (u : List Int) : Prop := ∀ i, i < n → 0 ≤ u.getD (pivF ys (i * b) b) 0 ∧ u.getD (pivF ys (i * b) b) 0 < ys.getD (i * b + pivF ys (i * b) b) 0
theorem Piv.left {b t i j : Nat} {ys : List Int} (h : Piv b t ys) (hij : i < j) (hj : j < t) : ys.getD (j * b + pivF ys (i * b) b) 0 = 0 := (h.yes j hj).2.2 _ (h.mono i j hij hj)
end Go.Proofs.YtekpamojojfplaaGreat
