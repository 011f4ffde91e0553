/-
  TEXTS OF THE PROOF, put together: bSS, bHilbLaw, Law, bLaw.
-/
import Derived.Test.YtfkbjkmlpinoeaaGreatK25
import Derived.Test.YtfkbjkmlpinoeaaGreatK08
import Derived.Test.YtfkbjkmlpinoeaaGreatK33
import Derived.Test.YtfkbjkmlpinoeaaGreatK35
import Derived.Test.YtfkbjkmlpinoeaaGreatK21
import Derived.Test.YtfkbjkmlpinoeaaGreatRows
import Derived.Test.YtfkbjkmlpinoeaaGreatK07
import Derived.ProofKit
import Derived.Lib.SmallJoins
import Derived.OpenShut
set_option linter.unusedVariables false
set_option linter.unusedSimpArgs false
namespace Go.Proofs.YtfkbjkmlpinoeaaGreat
open Go.RowKit
def rowsN (l : List Row) : Prop := l.length ≤ 1000000 ∧ ∀ r ∈ l, r.xs.length ≤ 1000000
theorem rowsN_at {l : List Row} (h : rowsN l) (j : Nat) : (l.getD j rowD).xs.length ≤ 1000000 := by
  rw [List.getD_eq_getElem?_getD]
  cases c : l[j]? with
  | none => simp [rowD]
  | some r => exact h.2 r (List.mem_of_getElem? c)
theorem getD_row' {l : List Row} {j : Nat} (h : j < l.length) : l.getD (0 + (j : Int).toNat) rowD = l[j] := by simp [h]
theorem rows_ne {l l' : List Row} {k : Nat} (hk : k < l.length) (hk' : k < l'.length) (hq : decide (l[k].xs = l'[k].xs) = false) : false = decide (rowsX l = rowsX l') := by
  symm; apply decide_eq_false; intro e
  refine of_decide_eq_false hq ?_
  have := congrArg (fun x => x[k]?) e
  simpa [rowsX, hk, hk'] using this
theorem rows_next {l l' : List Row} {k : Nat} (hk : k < l.length) (hk' : k < l'.length) (h2 : rowsX (l.take k) = rowsX (l'.take k)) (hq : decide (l[k].xs = l'[k].xs) = true) : rowsX (l.take (k + 1)) = rowsX (l'.take (k + 1)) := by
  rw [List.take_succ_eq_append_getElem hk, List.take_succ_eq_append_getElem hk']
  have := of_decide_eq_true hq
  simp only [rowsX, List.map_append, List.map_cons, List.map_nil] at h2 ⊢
  rw [h2, this]
set_option maxHeartbeats 1000000 in
theorem d_eqSS (l l' : List Row) (c d : Nat) (hl : rowsN l) (hl' : rowsN l') : Does Tryz.prog 37 [vS 1 1 0 l.length c, vS 2 1 0 l'.length d] [(1, .ro (.rows false true l)), (2, .ro (.rows false true l'))] 3 (Ret (vB (decide (rowsX l = rowsX l'))) 3) := by
 refine Does.intro TT Tryz.func37 rfl (by kernel_rfl) Zz Zz fun E hE => ?_
 have hl1 := hl.1
 have hl2 := hl'.1
 by_cases hn : l.length = l'.length
 ·((repeat' (first | refine stx ?_ | (refine stq ?_ ?_ <;> (intro hc; ((try simp at hc) <;> try contradiction))) | fail)) <;> try (exfalso; omega))
  refine w_G hE (fun k : Nat => k ≤ l.length ∧ rowsX (l.take k) = rowsX (l'.take k)) (fun k => l.length - k)
   (fun k => [(0, vS 1 1 0 l.length c), (1, vS 2 1 0 l'.length d), (5, vI k)]) (fun _ => [(1, .ro (.rows false true l)), (2, .ro (.rows false true l'))]) 3 [] 0 ⟨Nat.zero_le _, rfl⟩ ⟨w_1, w_2, rfl⟩ ?_
  rintro k ⟨h1, h2⟩
  by_cases hk : k < l.length
  ·have hk' : k < l'.length := by omega
   have n1 := rowsN_at hl (0 + (k : Int).toNat)
   have n2 := rowsN_at hl' (0 + (k : Int).toNat)
   have he := fun c d => d_eqIntS (l.getD (0 + (k : Int).toNat) rowD).xs (l'.getD (0 + (k : Int).toNat) rowD).xs c d (by omega) (by omega)
   have hb : decide ((l.getD (0 + (k : Int).toNat) rowD).xs = (l'.getD (0 + (k : Int).toNat) rowD).xs) = decide (l[k].xs = l'[k].xs) := by rw [getD_row' hk, getD_row' hk']
   rw [hb] at he
   cases hq : decide (l[k].xs = l'[k].xs)
   all_goals
    rw [hq] at he
    ((repeat' (first | refine stp ?_ | (refine stq ?_ ?_ <;> (intro hc; ((try simp at hc) <;> try contradiction))) | fail)) <;> try (exfalso; omega))
    refine awp_held TM [] sb rfl (fun ρs => ?_)
    refine zt0 ?_
    refine zt1 ?_
    refine zt2 ?_
    refine zt4 ?_
    refine zt5 ?_
    refine zt6 ?_
    refine w_u [3, 7] kr rfl ⟨?_, ?_, trivial⟩
    first | (refine zho ?_) | refine w_B _ (he _ _) Zz Zz Zz Zz Zz Zz Zz Zz Zz ft Zz Zz sb rfl ?_
    refine w_u [7] kr rfl ⟨?_, trivial⟩
    first | (refine zho ?_) | refine w_B _ (he _ _) Zz Zz Zz Zz Zz Zz Zz Zz Zz ft Zz Zz sb rfl ?_
    refine w_u [8] kr rfl ⟨?_, trivial⟩
    first | (refine zho ?_) | refine w_B _ (he _ _) Zz Zz Zz Zz Zz Zz Zz Zz Zz ft Zz Zz sb rfl ?_
    refine zt9 ?_
    refine w_v kr ?_
    rotate_left
    first | (refine zho ?_) | refine w_B _ (he _ _) Zz Zz Zz Zz Zz Zz Zz Zz Zz ft Zz Zz sb rfl ?_
    refine w_u [3] kr rfl ⟨?_, trivial⟩
    first | (refine zho ?_) | refine w_B _ (he _ _) Zz Zz Zz Zz Zz Zz Zz Zz Zz ft Zz Zz sb rfl ?_
    refine w_u [8] kr rfl ⟨?_, trivial⟩
    first | (refine zho ?_) | refine w_B _ (he _ _) Zz Zz Zz Zz Zz Zz Zz Zz Zz ft Zz Zz sb rfl ?_
    refine zt9 ?_
    refine w_v kr ?_
    rotate_left
    all_goals ((repeat' (first | refine stx ?_ | (refine stq ?_ ?_ <;> (intro hc; ((try simp at hc) <;> try contradiction))) | fail)) <;> try (exfalso; omega))
   all_goals first | (refine fin_ret rfl w_3 (congrArg vB (rows_ne hk hk' hq)) rfl) | (exact ⟨[], k + 1, ⟨hk, rows_next hk hk' h2 hq⟩, w_4, ⟨w_1, w_2, rfl⟩⟩)
  ·((repeat' (first | refine stx ?_ | (refine stq ?_ ?_ <;> (intro hc; ((try simp at hc) <;> try contradiction))) | fail)) <;> try (exfalso; omega))
   refine fin_ret rfl w_3 (congrArg vB ?_) rfl
   rw [List.take_of_length_le (by omega), List.take_of_length_le (by omega)] at h2
   simp [h2]
 ·((repeat' (first | refine stx ?_ | (refine stq ?_ ?_ <;> (intro hc; ((try simp at hc) <;> try contradiction))) | fail)) <;> try (exfalso; omega))
  refine fin_ret rfl w_3 (congrArg vB ?_) rfl
  symm; apply decide_eq_false; intro e
  exact hn (by have := congrArg List.length e; simpa [rowsX] using this)
def totR (l : List Row) : Nat := (l.map fun r => r.xs.length).sum
theorem totR_next {l : List Row} {i : Nat} (h : i < l.length) : totR (l.take (i + 1)) = totR (l.take i) + l[i].xs.length := by
  rw [List.take_succ_eq_append_getElem h]; simp only [totR, List.map_append, List.map_cons, List.map_nil, List.sum_append, List.sum_cons, List.sum_nil]; omega
@[simp] theorem totR_nil : totR [] = 0 := rfl
theorem sum_bd {l : List Row} {c : Nat} (h : ∀ r ∈ l, r.xs.length ≤ c) : totR l ≤ l.length * c := by
  induction l with
  | nil => simp [totR]
  | cons r l ih =>
    have h1 := h r (by simp)
    have h2 := ih fun r hr => h r (by simp [hr])
    simp only [totR, List.map_cons, List.sum_cons, List.length_cons, Nat.succ_mul] at h2 ⊢
    omega
theorem totR_le {l : List Row} (h : rowsN l) (i : Nat) : totR (l.take i) ≤ 1000000000000 := by
  have h1 : totR (l.take i) ≤ (l.take i).length * 1000000 := sum_bd fun r hr => h.2 r (List.mem_of_mem_take hr)
  have h2 : (l.take i).length ≤ 1000000 := Nat.le_trans (List.length_take_le' i l) h.1
  have : (l.take i).length * 1000000 ≤ 1000000 * 1000000 := Nat.mul_le_mul_right _ h2
  omega
def markRows (k : Int) : List Row → List Row
  | [] => []
  | r :: l => r.put (marks k r.xs.length) :: markRows (k + r.xs.length) l
theorem markRows_len {l : List Row} : ∀ {k : Int}, (markRows k l).length = l.length := by
  induction l with
  | nil => intro k; rfl
  | cons r l ih => intro k; simp [markRows, ih]
theorem markRows_app {l m : List Row} : ∀ {k : Int}, markRows k (l ++ m) = markRows k l ++ markRows (k + (totR l : Nat)) m := by
  induction l with
  | nil => intro k; simp [markRows, totR]
  | cons r l ih =>
    intro k
    simp only [List.cons_append, markRows, ih, totR, List.map_cons, List.sum_cons]
    congr 3
    push_cast
    omega
theorem markRows_next {l : List Row} {k : Int} {i : Nat} (h : i < l.length) : markRows k (l.take (i + 1)) = markRows k (l.take i) ++ [l[i].put (marks (k + (totR (l.take i) : Nat)) l[i].xs.length)] := by
  rw [List.take_succ_eq_append_getElem h, markRows_app]; rfl
theorem markRows_at {l : List Row} {k : Int} {i : Nat} (h : i < l.length) : (markRows k l)[i]'(by rw [markRows_len]; exact h) = l[i].put (marks (k + (totR (l.take i) : Nat)) l[i].xs.length) := by
  have e : markRows k l = markRows k (l.take (i + 1)) ++ markRows (k + (totR (l.take (i + 1)) : Nat)) (l.drop (i + 1)) := by rw [← markRows_app, List.take_append_drop]
  have h1 : (markRows k (l.take i)).length = i := by rw [markRows_len, List.length_take]; omega
  simp only [e, markRows_next h]
  rw [List.getElem_append_left (by simp [h1]), List.getElem_append_right (by omega)]
  simp [h1]
theorem markRows_xs {l : List Row} {k : Int} : (markRows k l).map (fun r => r.xs.length) = l.map fun r => r.xs.length := by
  induction l generalizing k with
  | nil => rfl
  | cons r l ih => simp [markRows, ih, Row.put]
theorem markRows_N {l : List Row} {k : Int} (h : rowsN l) : rowsN (markRows k l) := by
  refine ⟨by rw [markRows_len]; exact h.1, fun r hr => ?_⟩
  have : r.xs.length ∈ (markRows k l).map fun r => r.xs.length := List.mem_map.2 ⟨r, hr, rfl⟩
  rw [markRows_xs] at this
  obtain ⟨r', hr', e⟩ := List.mem_map.1 this
  rw [← e]; exact h.2 r' hr'
theorem markRows_hd {l : List Row} {k : Int} : (markRows k l).flatMap (svR false) = l.flatMap (svR false) := by
  induction l generalizing k with
  | nil => rfl
  | cons r l ih => simp [markRows, ih, svR, Row.hd, Row.put]
theorem d_heldX (xs : List Int) (c : Nat) (k : Int) (h : xs = marks k xs.length) (hl : xs.length ≤ 1099511627776) (hk : 0 ≤ k) (hk' : k ≤ 4611686018427387904) : Does Tryz.prog 36 [vS 1 1 0 xs.length c, vI k] [(1, .ro (.ints xs))] 2 (Ret (vI (k + xs.length)) 2) := by
  have := d_heldIntS xs.length c k hl hk hk'
  rwa [← h] at this
set_option maxHeartbeats 1000000 in
theorem d_heldSS (l0 : List Row) (c n : Nat) (k : Int) (hn : n = (markRows k l0).length) (hl : rowsN l0) (hk : 0 ≤ k) (hk' : k ≤ 1000000000000) : Does Tryz.prog 39 [vS 1 1 0 n c, vI k] [(1, .ro (.rows false true (markRows k l0)))] 2 (Ret (vI (k + (totR l0 : Nat))) 2) := by
 subst hn
 refine Does.intro TT Tryz.func39 rfl (by kernel_rfl) Zz Zz fun E hE => ?_
 have hN := markRows_N (k := k) hl
 have hat : ∀ i (h : i < l0.length), (markRows k l0).getD (0 + (i : Int).toNat) rowD = l0[i].put (marks (k + (totR (l0.take i) : Nat)) l0[i].xs.length) := fun i h => by
  rw [← markRows_at h, getD_row' (by rw [markRows_len]; exact h)]
 have hml := markRows_len (l := l0) (k := k)
 have hN1 := hN.1
 generalize hL : markRows k l0 = L at *
 ((repeat' (first | refine stx ?_ | (refine stq ?_ ?_ <;> (intro hc; ((try simp at hc) <;> try contradiction))) | fail)) <;> try (exfalso; omega))
 refine w_G hE (fun i : Nat => i ≤ L.length) (fun i => L.length - i)
  (fun i => [(0, vS 1 1 0 L.length c), (1, vI (k + (totR (l0.take i) : Nat))), (5, vI i)]) (fun _ => [(1, .ro (.rows false true L))]) 2 [] 0 (Nat.zero_le _) ⟨w_1, w_2, rfl⟩ ?_
 intro i hi
 have ht := totR_le hl i
 by_cases hil : i < L.length
 ·have hi0 : i < l0.length := by omega
  have hx := hat i hi0
  have e1 : (L.getD (0 + (i : Int).toNat) rowD).xs.length = l0[i].xs.length := by rw [hx]; simp [Row.put]
  have b1 := rowsN_at hN (0 + (i : Int).toNat)
  have hd := fun c => d_heldX (L.getD (0 + (i : Int).toNat) rowD).xs c (k + (totR (l0.take i) : Nat)) (by rw [hx]; simp [Row.put]) (by omega) (by omega) (by omega)
  have e2 := totR_next hi0
  ((repeat' (first | refine stx ?_ | (first | refine w_z (hd _) Zz Zz Zz Zz Zz Zz Zz Zz ft Zz Zz ?_ | refine w_A (hd _) Zz Zz Zz Zz Zz Zz Zz Zz ft Zz Zz ?_) | (refine stq ?_ ?_ <;> (intro hc; ((try simp at hc) <;> try contradiction))) | fail)) <;> try (exfalso; omega))
  exact ⟨[], i + 1, hil, w_4, ⟨⟨rfl, congrArg some (congrArg vI (by rw [e2, e1]; push_cast; omega)), congrArg some (congrArg vI (by omega)), trivial⟩, ⟨rfl, trivial⟩, rfl⟩⟩
 ·have hi2 : l0.take i = l0 := List.take_of_length_le (by omega)
  rw [hi2] at *
  ((repeat' (first | refine stx ?_ | (refine stq ?_ ?_ <;> (intro hc; ((try simp at hc) <;> try contradiction))) | fail)) <;> try (exfalso; omega))
  refine fin_ret rfl w_3 (rfl) rfl
def MarksSS (k : Int) (th t : TypeId) (cap : Nat) (l : List Row) (v : AV) (Hout : List (Nat × Blk)) (n1 : Nat) : Prop := v = vI (k + (totR l : Nat)) ∧ Hout = [(1, .own th cap (.rows false false l)), (2, .tok t false (markRows k l))] ∧ n1 = 3
set_option maxHeartbeats 1000000 in
theorem d_markSS (l : List Row) (c cap : Nat) (k : Int) (hl : rowsN l) (hk : 0 ≤ k) (hk' : k ≤ 1000000000000) : Does Tryz.prog 38 [vS 1 1 0 l.length c, vI k] [(1, .own 24 cap (.rows false false l)), (2, .tok 3 false l)] 3 (MarksSS k 24 3 cap l) := by
 refine Does.intro TT Tryz.func38 rfl (by kernel_rfl) Zz Zz fun E hE => ?_
 have hl1 := hl.1
 ((repeat' (first | refine stx ?_ | (refine stq ?_ ?_ <;> (intro hc; ((try simp at hc) <;> try contradiction))) | fail)) <;> try (exfalso; omega))
 refine w_G hE (fun i : Nat => i ≤ l.length) (fun i => l.length - i)
  (fun i => [(0, vS 1 1 0 l.length c), (1, vI (k + (totR (l.take i) : Nat))), (5, vI i)]) (fun i => [(1, .own 24 cap (.rows false false l)), (2, .tok 3 false (markRows k (l.take i) ++ l.drop i))]) 3 [] 0 (Nat.zero_le _) ⟨w_1, w_2, rfl⟩ ?_
 intro i hi
 have ht := totR_le hl i
 by_cases hil : i < l.length
 ·have b1 := rowsN_at hl (0 + (i : Int).toNat)
  have hx := getD_row' hil
  have hd := d_markIntS (l.getD (0 + (i : Int).toNat) rowD).xs (l.getD (0 + (i : Int).toNat) rowD).cap (l.getD (0 + (i : Int).toNat) rowD).cap (k + (totR (l.take i) : Nat)) (by omega) (by omega) (by omega)
  have e2 := totR_next hil
  have ed : l.drop i = l.getD (0 + (i : Int).toNat) rowD :: l.drop (i + 1) := by rw [hx]; exact List.drop_eq_getElem_cons hil
  ((repeat' (first | refine stx ?_ | (refine stq ?_ ?_ <;> (intro hc; ((try simp at hc) <;> try contradiction))) | fail)) <;> try (exfalso; omega))
  refine awpL_row 2 (markRows k (l.take i)) (l.drop (i + 1)) (l.getD (0 + (i : Int).toNat) rowD) hd Zz Zz Zz Zz Zz Zz Zz Zz (congrArg (fun x => some (Blk.tok 3 false x)) (by rw [ed])) ?_
  ((repeat' (first | refine stx ?_ | (refine stq ?_ ?_ <;> (intro hc; ((try simp at hc) <;> try contradiction))) | fail)) <;> try (exfalso; omega))
  refine ⟨[], i + 1, hil, w_4, ⟨⟨rfl, congrArg some (congrArg vI (by rw [e2, hx]; push_cast; omega)), congrArg some (congrArg vI (by omega)), trivial⟩, ⟨rfl, tok_eqA ?_, trivial⟩, rfl⟩⟩
  rw [markRows_next hil, hx]
  simp
 ·have hi2 : l.take i = l := List.take_of_length_le (by omega)
  have hi3 : l.drop i = [] := List.drop_of_length_le (by omega)
  ((repeat' (first | refine stx ?_ | (refine stq ?_ ?_ <;> (intro hc; ((try simp at hc) <;> try contradiction))) | fail)) <;> try (exfalso; omega))
  exact fin rfl w_3 [] (vI (k + (totR (l.take i) : Nat))) [(1, .own 24 cap (.rows false false l)), (2, .tok 3 false (markRows k (l.take i) ++ l.drop i))] 3 (by rw [hi2, hi3, List.append_nil]; exact ⟨rfl, rfl, rfl⟩) rfl ⟨trivial, ⟨rfl, rfl, trivial⟩, rfl⟩ rfl
end Go.Proofs.YtfkbjkmlpinoeaaGreat
namespace Go.Proofs.YtfkbjkmlpinoeaaGreat
open Go.RowKit
theorem hilO_N {r c : Int} {xs : List Int} {L : List (List Int)} (h : hilO r c xs = some L) {l : List Row} (hl : rowsX l = L) : rowsN l := by
  obtain ⟨a, b, w, B, -, -, -, -, hb, -, -, -, -, -, -, h4, -, hm, -⟩ := hil_some h
  refine ⟨by rw [rowsX_len hl]; omega, fun r hr => ?_⟩
  have := (hm r.xs (by rw [← hl]; exact List.mem_map.2 ⟨r, hr, rfl⟩)).2.1
  omega
theorem rowsN_nil : rowsN [] := ⟨by simp, by simp⟩
theorem rows_mem {l : List Row} : ∀ x ∈ (Elts.rows false true l).rds, x.1 = false ∧ x.2 ∈ l := fun x hx => by
  obtain ⟨r, hr, rfl⟩ := List.mem_map.1 hx
  exact ⟨rfl, hr⟩
theorem d_eqSSt (l l' : List Row) (c d : Nat) (hl : rowsN l) (hl' : rowsN l') (h : rowsX l = rowsX l') : Does Tryz.prog 37 [vS 1 1 0 l.length c, vS 2 1 0 l'.length d] [(1, .ro (.rows false true l)), (2, .ro (.rows false true l'))] 3 (Ret (vB true) 3) := by
  have := d_eqSS l l' c d hl hl'
  rwa [decide_eq_true h] at this
set_option maxRecDepth 100000 in
set_option maxHeartbeats 16000000 in
theorem d_lawHilb (r c : Int) (xs : List Int) (ca : Nat) (hn : xs.length ≤ 9223372036854775807) :
    Does Tryz.prog 8 [vM r c 1 xs.length ca] [(1, .ro (.ints xs))] 2 (Ret (vB true) 2) := by
  refine Does.intro TT Tryz.func8 rfl (by kernel_rfl) Zz Zz fun E hE => ?_
  have e1 := d_szMatrix r c xs ca 1048576 (by omega) hn
  by_cases q1 : 0 ≤ szL 1048576 xs.length
  · have hl : xs.length ≤ 1099511627776 := by unfold szL at q1; split at q1 <;> omega
    have h1 := fun ca => d_hilS r c xs ca hl
    have h2 := fun ca h => d_hilI r c xs ca hl h
    cases ho : hilO r c xs with
    | none =>
      rw [ho] at h1 h2
      ((repeat' (first | refine stp ?_ | (first | refine w_z (e1) Zz Zz Zz Zz Zz Zz Zz Zz ft Zz Zz ?_ | refine w_A (e1) Zz Zz Zz Zz Zz Zz Zz Zz ft Zz Zz ?_) | (refine w_C (d_toMatrix r c xs _ hl) Zz Zz Zz Zz Zz Zz Zz ft Zz Zz (MadeMx.out) ?_; rintro v b ⟨c1a, hc1a, rfl, he, -⟩; cases he) | ((refine w_E (h1 _) Zz Zz Zz Zz Zz Zz Zz ft rfl ?_); rintro v Hout n1 ⟨rfl, rfl, rfl⟩) | ((refine w_E (h2 _ hc1a) Zz Zz Zz Zz Zz Zz Zz ft rfl ?_); rintro v Hout n1 ⟨rfl, rfl, rfl⟩) | (first | refine w_z (d_eqSSt [] [] _ _ rowsN_nil rowsN_nil rfl) Zz Zz Zz Zz Zz Zz Zz Zz ft Zz Zz ?_ | refine w_A (d_eqSSt [] [] _ _ rowsN_nil rowsN_nil rfl) Zz Zz Zz Zz Zz Zz Zz Zz ft Zz Zz ?_) | (refine stq ?_ ?_ <;> (intro hc; ((try simp at hc) <;> try contradiction))) | fail)) <;> try (exfalso; omega))
      refine awp_held TM [(2, _), (6, _)] sb rfl (fun ρs => ?_)
      refine zt0 ?_
      refine zt1 ?_
      refine w_u [2] kr rfl ⟨?_, trivial⟩
      first | (refine zho ?_) | (refine w_D _ (d_toMatrix r c xs _ hl) Zz Zz Zz Zz Zz Zz Zz Zz ft Zz Zz (MadeMx.out) sb Zz Zz ?_; rintro v b ⟨c1b, hc1b, rfl, he, -⟩; cases he) | refine w_B _ (d_eqMatrix r c r c xs xs _ _ hl hl) Zz Zz Zz Zz Zz Zz Zz Zz Zz ft Zz Zz sb rfl ?_
      refine w_u [3] kr rfl ⟨?_, trivial⟩
      first | (refine zho ?_) | (refine w_D _ (d_toMatrix r c xs _ hl) Zz Zz Zz Zz Zz Zz Zz Zz ft Zz Zz (MadeMx.out) sb Zz Zz ?_; rintro v b ⟨c1b, hc1b, rfl, he, -⟩; cases he) | refine w_B _ (d_eqMatrix r c r c xs xs _ _ hl hl) Zz Zz Zz Zz Zz Zz Zz Zz Zz ft Zz Zz sb rfl ?_
      refine zt4 ?_
      refine w_v kr ?_
      rotate_left
      ((repeat' (first | refine stx ?_ | ((refine w_E (d_markMatrix r c xs _ _ 1 hl (by omega) (by omega)) Zz Zz Zz Zz Zz Zz Zz ft rfl ?_); rintro v Hout n1 ⟨rfl, rfl, rfl⟩) | (first | refine w_z (d_eqSSt [] [] _ _ rowsN_nil rowsN_nil rfl) Zz Zz Zz Zz Zz Zz Zz Zz ft Zz Zz ?_ | refine w_A (d_eqSSt [] [] _ _ rowsN_nil rowsN_nil rfl) Zz Zz Zz Zz Zz Zz Zz Zz ft Zz Zz ?_) | (refine stq ?_ ?_ <;> (intro hc; ((try simp at hc) <;> try contradiction))) | fail)) <;> try (exfalso; omega))
      ((first | refine awpL_ghost (Ghost.newTok 3 false) ?_ | refine awp_ghost (Ghost.newTok 3 false) ?_ | refine awpH_ghost (Ghost.newTok 3 false) ?_ | refine awpHop_ghost (Ghost.newTok 3 false) ?_); rintro _ _ ⟨rfl, rfl⟩)
      ((first | refine awpL_ghost (Ghost.forget 7 Zz Zz) ?_ | refine awp_ghost (Ghost.forget 7 Zz Zz) ?_ | refine awpH_ghost (Ghost.forget 7 Zz Zz) ?_ | refine awpHop_ghost (Ghost.forget 7 Zz Zz) ?_); rintro _ _ ⟨rfl, rfl⟩)
      refine awpL_callM [(1, 7), (2, 9)] (d_markSS [] _ _ 1 rowsN_nil (by omega) (by omega)) Zz Zz Zz Zz Zz Zz Zz (by repeat' (first | exact trivial | refine ⟨.inl rfl, ?_⟩ | refine ⟨.inr ⟨rfl, rfl⟩, ?_⟩)) rfl ?_
      rintro v Hout n1 ⟨rfl, rfl, rfl⟩
      ((first | refine awpL_ghost (Ghost.retell 7 9 (.rows false true []) Zz Zz Zz Zz Zz (fun x hx => nomatch hx)) ?_ | refine awp_ghost (Ghost.retell 7 9 (.rows false true []) Zz Zz Zz Zz Zz (fun x hx => nomatch hx)) ?_ | refine awpH_ghost (Ghost.retell 7 9 (.rows false true []) Zz Zz Zz Zz Zz (fun x hx => nomatch hx)) ?_ | refine awpHop_ghost (Ghost.retell 7 9 (.rows false true []) Zz Zz Zz Zz Zz (fun x hx => nomatch hx)) ?_); rintro _ _ ⟨rfl, rfl⟩)
      ((first | refine awpL_ghost (Ghost.retell 4 9 (.rows false true []) Zz Zz Zz Zz Zz (fun x hx => nomatch hx)) ?_ | refine awp_ghost (Ghost.retell 4 9 (.rows false true []) Zz Zz Zz Zz Zz (fun x hx => nomatch hx)) ?_ | refine awpH_ghost (Ghost.retell 4 9 (.rows false true []) Zz Zz Zz Zz Zz (fun x hx => nomatch hx)) ?_ | refine awpHop_ghost (Ghost.retell 4 9 (.rows false true []) Zz Zz Zz Zz Zz (fun x hx => nomatch hx)) ?_); rintro _ _ ⟨rfl, rfl⟩)
      ((repeat' (first | refine stx ?_ | ((first | refine w_z (d_heldSS [] _ _ 1 rfl rowsN_nil (by omega) (by omega)) Zz Zz Zz Zz Zz Zz Zz Zz ft Zz Zz ?_ | refine w_A (d_heldSS [] _ _ 1 rfl rowsN_nil (by omega) (by omega)) Zz Zz Zz Zz Zz Zz Zz Zz ft Zz Zz ?_)) | (refine w_C (d_toMatrix r c xs _ hl) Zz Zz Zz Zz Zz Zz Zz ft Zz Zz (MadeMx.out) ?_; rintro v b ⟨c1a, hc1a, rfl, he, -⟩; cases he) | ((refine w_E (h2 _ hc1a) Zz Zz Zz Zz Zz Zz Zz ft rfl ?_); rintro v Hout n1 ⟨rfl, rfl, rfl⟩) | (first | refine w_z (d_eqSSt [] [] _ _ rowsN_nil rowsN_nil rfl) Zz Zz Zz Zz Zz Zz Zz Zz ft Zz Zz ?_ | refine w_A (d_eqSSt [] [] _ _ rowsN_nil rowsN_nil rfl) Zz Zz Zz Zz Zz Zz Zz Zz ft Zz Zz ?_) | (refine stq ?_ ?_ <;> (intro hc; ((try simp at hc) <;> try contradiction))) | fail)) <;> try (exfalso; omega))
      all_goals refine fin_ret rfl w_3 (rfl) rfl
    | some L =>
      rw [ho] at h1 h2
      ((repeat' (first | refine stp ?_ | (first | refine w_z (e1) Zz Zz Zz Zz Zz Zz Zz Zz ft Zz Zz ?_ | refine w_A (e1) Zz Zz Zz Zz Zz Zz Zz Zz ft Zz Zz ?_) | (refine w_C (d_toMatrix r c xs _ hl) Zz Zz Zz Zz Zz Zz Zz ft Zz Zz (MadeMx.out) ?_; rintro v b ⟨c1a, hc1a, rfl, he, -⟩; cases he) | ((refine w_E (h1 _) Zz Zz Zz Zz Zz Zz Zz ft rfl ?_); rintro v Hout n1 ⟨lw, cw, hw, rfl, rfl, rfl⟩) | ((refine w_E (h2 _ hc1a) Zz Zz Zz Zz Zz Zz Zz ft rfl ?_); rintro v Hout n1 ⟨lg, cg, hg, rfl, rfl, rfl⟩) | (first | refine w_z (d_eqSSt _ _ _ _ (hilO_N ho hg) (hilO_N ho hw) (hg.trans hw.symm)) Zz Zz Zz Zz Zz Zz Zz Zz ft Zz Zz ?_ | refine w_A (d_eqSSt _ _ _ _ (hilO_N ho hg) (hilO_N ho hw) (hg.trans hw.symm)) Zz Zz Zz Zz Zz Zz Zz Zz ft Zz Zz ?_) | (refine stq ?_ ?_ <;> (intro hc; ((try simp at hc) <;> try contradiction))) | fail)) <;> try (exfalso; omega))
      refine awp_held TM [(2, _), (7, _)] sb rfl (fun ρs => ?_)
      refine zt0 ?_
      refine zt1 ?_
      refine w_u [2] kr rfl ⟨?_, trivial⟩
      first | (refine zho ?_) | (refine w_D _ (d_toMatrix r c xs _ hl) Zz Zz Zz Zz Zz Zz Zz Zz ft Zz Zz (MadeMx.out) sb Zz Zz ?_; rintro v b ⟨c1b, hc1b, rfl, he, -⟩; cases he) | refine w_B _ (d_eqMatrix r c r c xs xs _ _ hl hl) Zz Zz Zz Zz Zz Zz Zz Zz Zz ft Zz Zz sb rfl ?_
      refine w_u [3] kr rfl ⟨?_, trivial⟩
      first | (refine zho ?_) | (refine w_D _ (d_toMatrix r c xs _ hl) Zz Zz Zz Zz Zz Zz Zz Zz ft Zz Zz (MadeMx.out) sb Zz Zz ?_; rintro v b ⟨c1b, hc1b, rfl, he, -⟩; cases he) | refine w_B _ (d_eqMatrix r c r c xs xs _ _ hl hl) Zz Zz Zz Zz Zz Zz Zz Zz Zz ft Zz Zz sb rfl ?_
      refine zt4 ?_
      refine w_v kr ?_
      rotate_left
      ((repeat' (first | refine stx ?_ | ((refine w_E (d_markMatrix r c xs _ _ 1 hl (by omega) (by omega)) Zz Zz Zz Zz Zz Zz Zz ft rfl ?_); rintro v Hout n1 ⟨rfl, rfl, rfl⟩) | (first | refine w_z (d_eqSSt _ _ _ _ (hilO_N ho hg) (hilO_N ho hw) (hg.trans hw.symm)) Zz Zz Zz Zz Zz Zz Zz Zz ft Zz Zz ?_ | refine w_A (d_eqSSt _ _ _ _ (hilO_N ho hg) (hilO_N ho hw) (hg.trans hw.symm)) Zz Zz Zz Zz Zz Zz Zz Zz ft Zz Zz ?_) | (refine stq ?_ ?_ <;> (intro hc; ((try simp at hc) <;> try contradiction))) | fail)) <;> try (exfalso; omega))
      ((first | refine awpL_ghost (Ghost.forget 8 Zz Zz) ?_ | refine awp_ghost (Ghost.forget 8 Zz Zz) ?_ | refine awpH_ghost (Ghost.forget 8 Zz Zz) ?_ | refine awpHop_ghost (Ghost.forget 8 Zz Zz) ?_); rintro _ _ ⟨rfl, rfl⟩)
      refine awpL_callM [(1, 8), (2, 9)] (d_markSS lg _ _ 1 (hilO_N ho hg) (by omega) (by omega)) Zz Zz Zz Zz Zz Zz Zz (by repeat' (first | exact trivial | refine ⟨.inl rfl, ?_⟩ | refine ⟨.inr ⟨rfl, rfl⟩, ?_⟩)) rfl ?_
      rintro v Hout n1 ⟨rfl, rfl, rfl⟩
      ((first | refine awpL_ghost (Ghost.retell 8 9 (.rows false true (markRows 1 lg)) Zz Zz markRows_hd markRows_len rfl rows_mem) ?_ | refine awp_ghost (Ghost.retell 8 9 (.rows false true (markRows 1 lg)) Zz Zz markRows_hd markRows_len rfl rows_mem) ?_ | refine awpH_ghost (Ghost.retell 8 9 (.rows false true (markRows 1 lg)) Zz Zz markRows_hd markRows_len rfl rows_mem) ?_ | refine awpHop_ghost (Ghost.retell 8 9 (.rows false true (markRows 1 lg)) Zz Zz markRows_hd markRows_len rfl rows_mem) ?_); rintro _ _ ⟨rfl, rfl⟩)
      ((first | refine awpL_ghost (Ghost.retell 4 5 (.rows false true lw) Zz Zz Zz Zz Zz rows_mem) ?_ | refine awp_ghost (Ghost.retell 4 5 (.rows false true lw) Zz Zz Zz Zz Zz rows_mem) ?_ | refine awpH_ghost (Ghost.retell 4 5 (.rows false true lw) Zz Zz Zz Zz Zz rows_mem) ?_ | refine awpHop_ghost (Ghost.retell 4 5 (.rows false true lw) Zz Zz Zz Zz Zz rows_mem) ?_); rintro _ _ ⟨rfl, rfl⟩)
      ((repeat' (first | refine stx ?_ | ((first | refine w_z (d_heldSS lg _ _ 1 markRows_len.symm (hilO_N ho hg) (by omega) (by omega)) Zz Zz Zz Zz Zz Zz Zz Zz ft Zz Zz ?_ | refine w_A (d_heldSS lg _ _ 1 markRows_len.symm (hilO_N ho hg) (by omega) (by omega)) Zz Zz Zz Zz Zz Zz Zz Zz ft Zz Zz ?_)) | (refine w_C (d_toMatrix r c xs _ hl) Zz Zz Zz Zz Zz Zz Zz ft Zz Zz (MadeMx.out) ?_; rintro v b ⟨c1a, hc1a, rfl, he, -⟩; cases he) | ((refine w_E (h2 _ hc1a) Zz Zz Zz Zz Zz Zz Zz ft rfl ?_); rintro v Hout n1 ⟨lh, ch, hh, rfl, rfl, rfl⟩) | (first | refine w_z (d_eqSSt _ _ _ _ (hilO_N ho hh) (hilO_N ho hw) (hh.trans hw.symm)) Zz Zz Zz Zz Zz Zz Zz Zz ft Zz Zz ?_ | refine w_A (d_eqSSt _ _ _ _ (hilO_N ho hh) (hilO_N ho hw) (hh.trans hw.symm)) Zz Zz Zz Zz Zz Zz Zz Zz ft Zz Zz ?_) | (refine stq ?_ ?_ <;> (intro hc; ((try simp at hc) <;> try contradiction))) | fail)) <;> try (exfalso; omega))
      all_goals refine fin_ret rfl w_3 (rfl) rfl
  · ((repeat' (first | refine stp ?_ | (first | refine w_z (e1) Zz Zz Zz Zz Zz Zz Zz Zz ft Zz Zz ?_ | refine w_A (e1) Zz Zz Zz Zz Zz Zz Zz Zz ft Zz Zz ?_) | (refine stq ?_ ?_ <;> (intro hc; ((try simp at hc) <;> try contradiction))) | fail)) <;> try (exfalso; omega))
    all_goals refine fin_ret rfl w_3 (rfl) rfl
end Go.Proofs.YtfkbjkmlpinoeaaGreat
namespace Go.Proofs.YtfkbjkmlpinoeaaGreat
open Go.ChangeShapes Go.WideShapes Go.ChangeAt Go.RowKit Go.Joins
theorem Tryz.own : ownKnob Tryz.prog.godebug = none := by kernel_rfl
theorem Tryz.laidOut : laidOutB Tryz.prog = true := by kernel_rfl
theorem trodAll_below {H : Type} {enc : TypeId × Value → H} {P : Program} (hl : laidOutB P = true) {W W' : World} (hb : Below W.heap.size W W') :
    ∀ {ts : List TypeId} {vs : List Value} {ds : List (DataW H)} {ps : List MemPlace}, (∀ t ∈ ts, P.readableRec t = true ∧ t < P.types.size) →
      DataW.TrodAll enc P W 0 (fun _ => true) true ts vs ds ps → (∀ x ∈ ps, x.block < W.heap.size) → DataW.TrodAll enc P W' 0 (fun b => decide (b < W.heap.size)) true ts vs ds ps
  | [], vs, ds, ps, _, h, _ => by
    obtain ⟨rfl, rfl, rfl⟩ := trodAll_nil h
    exact trodAll_mk0
  | t :: ts, vs, ds, ps, ht, h, hlt => by
    obtain ⟨v, vs', d, ds', p, q, rfl, rfl, rfl, hd, hr⟩ := trodAll_cons h
    exact trodAll_cons_mk (Below.trod hl (ht t (by simp)).1 (ht t (by simp)).2 hd hb (fun x hx => hlt x (by simp [hx])))
      (trodAll_below hl hb (fun u hu => ht u (by simp [hu])) hr (fun x hx => hlt x (by simp [hx])))
theorem law_post {H : Type} {enc : TypeId × Value → H} {P : Program} (hl : laidOutB P = true) {f : Func} {s : ChangeSpec} {tb : TypeId} (hres : f.resultTypes = #[tb]) (hT : P.underlying tb = some .bool)
    (hp : ∀ t ∈ f.params.toList, P.readableRec t = true ∧ t < P.types.size) {W W' : World} {args : Array Value} {ds gs : List (DataW H)} {before : List MemPlace}
    (hvars : s.vars = []) (hW : DataW.Whole enc P f.params.toList s.vars false W args.toList ds gs before) (hfn : s.fn H (ds ++ gs) = { results := [.lit (.bool true)], args := ds }) (hb : Below W.heap.size W W') :
    s.post enc P f false true false false W args (.bool true) W' := by
  have hW0 := hW
  obtain ⟨p, q, hA, hV, hpq, hz, hn⟩ := hW
  have hlt : ∀ x ∈ p, x.block < W.heap.size := fun x hx => hW0.lt x (by rw [hpq]; simp [hx])
  refine ⟨ds, gs, before, [], p, [], hW0, ?_, ?_, ?_, hb.frame _, fun h => by cases h⟩
  · rw [hfn, hres]
    exact trodAll_mk1 (shut_bool hT true)
  · rw [hfn]
    exact trodAll_below hl hb hp hA hlt
  · rw [hfn, hvars]
    rfl
theorem wf_i64 {n : Int} (h : (Lit.int .i64 n).wf = true) : -9223372036854775808 ≤ n ∧ n ≤ 9223372036854775807 := by
  simp [Lit.wf, IntKind.min, IntKind.max, IntKind.signed, IntKind.bits] at h
  exact ⟨by omega, by omega⟩
set_option maxRecDepth 100000 in
theorem open_RI {H : Type} {enc : TypeId × Value → H} {w : World} {fuel : Nat} {cs : List Value} {x : DataW H × List MemPlace}
    (h : DataW.trod enc Tryz.prog w 0 (fun _ => true) true fuel 24 cs = some x) :
    ∃ (A : Option Addr) (c : Nat) (xs : List Int), cs = [.slice A xs.length c] ∧ xs.length ≤ 9223372036854775807 ∧ RI w A xs ∧ ∀ n ∈ xs, -9223372036854775808 ≤ n ∧ n ≤ 9223372036854775807 := by
  rcases open_ints Tryz.underlying24 Tryz.underlying3 (by kernel_rfl) h with ⟨rfl, _⟩ | ⟨a, len, cap, zs, rfl, _, hl, hm, hz, _, hc, hw⟩
  · exact ⟨none, 0, [], rfl, by simp, RI.nil, by simp⟩
  · simp only [if_true] at hz
    have hm' : cap ≤ 9223372036854775807 := by simpa [maxLen] using hm
    refine ⟨some a, cap, zs.take len, by simp; omega, by simp; omega, fun h0 => ?_, fun n hn => wf_i64 (hw n (List.mem_of_mem_take hn))⟩
    have hlen : len ≤ zs.length := by omega
    obtain ⟨b, off, rfl, hc'⟩ := ints_at hc (by simp at h0; omega)
    refine ⟨b, off, rfl, World.block_lt_of_cell? w ⟨b, off + 0, none⟩ (hc' 0 (by simp at h0; omega)), fun k hk => ?_⟩
    have hk' : k < zs.length := by simp at hk; omega
    rw [hc' k hk']
    simp [hk']
set_option maxRecDepth 100000 in
theorem open_RI_arg {H : Type} {enc : TypeId × Value → H} {w : World} {v : Value} {d : DataW H} {p : List MemPlace} {b : Nat}
    (hv : Value.okWide Tryz.prog w .any b 24 v) (h : DataW.Trod enc Tryz.prog w 0 (fun _ => true) true 24 v d p) :
    ∃ (A : Option Addr) (c : Nat) (xs : List Int), v = .slice A xs.length c ∧ xs.length ≤ 9223372036854775807 ∧ RI w A xs ∧ ∀ n ∈ xs, -9223372036854775808 ≤ n ∧ n ≤ 9223372036854775807 := by
  obtain ⟨a0, len, cap, rfl⟩ := okWide_slice Tryz.underlying24 hv
  obtain ⟨fuel, hf⟩ := h
  obtain ⟨A, c, xs, hcs, h1, h2, h3⟩ := open_RI hf
  have : Value.slice a0 len cap = .slice A xs.length c := by simpa [Value.cells] using hcs
  exact ⟨A, c, xs, this, h1, h2, h3⟩
end Go.Proofs.YtfkbjkmlpinoeaaGreat
namespace Go.Proofs.YtfkbjkmlpinoeaaGreat
open Go.ChangeShapes Go.WideShapes Go.ChangeAt Go.RowKit Go.Joins
def plainB : Blk → Bool
  | .ro e => !e.flag
  | .dead => true
  | _ => false
theorem Elts.flag_rds {e : Elts} (h : e.flag = false) : e.rds = [] := by
  cases e with
  | rows q f l => simp only [Elts.flag] at h; subst h; rfl
  | vals f l => simp only [Elts.flag] at h; subst h; rfl
  | mats f l => simp only [Elts.flag] at h; subst h; rfl
  | _ => rfl
theorem plainB_sound {b : Blk} (h : plainB b = true) : b.isOwn = false ∧ b.isAl = false ∧ b.rds = [] ∧ ∀ g, ¬ b.Far g := by
  cases b with
  | dead => exact ⟨rfl, rfl, rfl, fun g ⟨x, hx, _⟩ => by cases hx⟩
  | ro e =>
    simp only [plainB, Bool.not_eq_true'] at h
    have h0 := Elts.flag_rds h
    exact ⟨rfl, rfl, h0, fun g ⟨x, hx, _⟩ => by have : x ∈ e.rds := hx
                                                rw [h0] at this; cases this⟩
  | _ => cases h
def roIn (Hin : List (Nat × Blk)) (n0 : Nat) : Bool := Hin.all fun p => Nat.blt p.1 n0 && plainB p.2 && p.2.keys.all fun k => Nat.blt k n0
def BlksOK (ρ : Rho) (w : World) : List (Nat × Blk) → Prop
  | [] => True
  | p :: r => BlkOK ρ p.1 w p.2 ∧ BlksOK ρ w r
theorem BlksOK.at_ {ρ : Rho} {w : World} : ∀ {l : List (Nat × Blk)}, BlksOK ρ w l → ∀ p ∈ l, BlkOK ρ p.1 w p.2
  | p :: r, h, q, hq => by
    rcases List.mem_cons.1 hq with rfl | hq
    · exact h.1
    · exact BlksOK.at_ h.2 q hq
theorem Does.gives {f : FuncId} {args : List AV} {Hin : List (Nat × Blk)} {n0 n : Nat} {v : AV} (h : Does Tryz.prog f args Hin n0 (Ret v n)) (ρ : Rho) (w : World) (h0 : ρ 0 = none) (hpos : 0 < n0) (hin : roIn Hin n0 = true)
    (hb : BlksOK ρ w Hin) (ha : leB n0 (args.flatMap AV.keys) = true) (hv : v.keys = []) : Gives Tryz.prog f (args.map (AV.conc ρ)).toArray w (v.conc ρ) := by
  have hk : ∀ {k b}, lk Hin k = some b → k < n0 ∧ b.isOwn = false ∧ (∀ k' ∈ b.keys, k' < n0) ∧ b.rds = [] ∧ ∀ g, ¬ b.Far g := fun hl => by
    have := List.all_eq_true.1 hin _ (lk_mem hl)
    simp only [Bool.and_eq_true, Bool.not_eq_true', List.all_eq_true] at this
    obtain ⟨f1, _, f2, f3⟩ := plainB_sound this.1.2
    exact ⟨nblt this.1.1, f1, fun k' hk' => nblt (this.2 k' hk'), f2, f3⟩
  have ha' := leB_sound ha
  refine Gives.of_below (Calls.mono (h.calls ρ w ⟨h0, fun k b hl => hb.at_ _ (lk_mem hl), fun k b hl => ⟨(hk hl).1, (hk hl).2.2.1⟩, fun k k' b b' p p' hl _ ho => ?_, fun k b p hl _ _ hge => ?_, fun k b hl ho => ?_, ⟨rfl, rfl, rfl, Nat.le_refl _, fun _ _ _ _ => rfl⟩, fun _ _ => rfl, Nat.le_refl _, hpos, fun k b hl x hx => ?_, fun k k' b b' p g hl _ ho => ?_, fun k k' t t' q q' l l' hl => ?_, fun k t q l hl => ?_, fun k k' t q l e p hl => ?_⟩
    (fun u hu k hk' => ha' k (List.mem_flatMap.2 ⟨u, hu, hk'⟩))) ?_)
  · rw [(hk hl).2.1] at ho; cases ho
  · have := (hk hl).1
    exact absurd hge (by simpa [envOf] using this)
  · rw [(hk hl).2.1] at ho; cases ho
  · rw [(hk hl).2.2.2.1] at hx; cases hx
  · rw [(hk hl).2.1] at ho; cases ho
  · cases (hk hl).2.1
  · cases (hk hl).2.1
  · cases (hk hl).2.1
  · rintro e w' ⟨ρ', v', Hout, n1, ⟨rfl, rfl, rfl⟩, rfl, hH, _⟩
    refine ⟨congrArg _ (AV.conc_congr fun k hk' => by rw [hv] at hk'; cases hk'), hH.keeps.os, hH.keeps.tape, hH.keeps.output, hH.keeps.size, fun b hlt => hH.keeps.block b hlt (fun k p _ ho _ => ?_) fun ⟨k, t, q, l, hl, _⟩ => ?_⟩
    · obtain ⟨b', hl, ho⟩ := ho
      rw [(hk hl).2.1] at ho; cases ho
    · cases (hk hl).2.1
def rhoOf (l : List (Nat × Option Addr)) : Rho := fun k => match lk l k with
  | some (some a) => some (a.block, a.off)
  | _ => none
def SlOK (A : Option Addr) : Prop := ∀ a, A = some a → a.spot = none
theorem rhoOf_adr {l : List (Nat × Option Addr)} {k : Nat} {A : Option Addr} (hA : SlOK A) (h : lk l k = some A) : adr (rhoOf l) k 0 = A := by
  cases A with
  | none => simp [adr, rhoOf, h]
  | some a =>
    have := hA a rfl
    cases a
    simp at this
    subst this
    simp [adr, rhoOf, h]
theorem RI.blk {l : List (Nat × Option Addr)} {k : Nat} {A : Option Addr} {w : World} {xs : List Int} (hR : RI w A xs) (h : lk l k = some A) : BlkOK (rhoOf l) k w (.ro (.ints xs)) := by
  cases A with
  | none =>
    have : ¬0 < xs.length := fun h => by obtain ⟨b, off, e, _⟩ := hR h; cases e
    have hρ : rhoOf l k = none := by simp [rhoOf, h]
    simp only [BlkOK, hρ, Elts.len]
    omega
  | some a =>
    have hρ : rhoOf l k = some (a.block, a.off) := by simp [rhoOf, h]
    simp only [BlkOK, hρ]
    refine ⟨fun hl => ?_, fun j u hu => ?_⟩
    · obtain ⟨b, off, e, hb, _⟩ := hR hl
      cases e; exact hb
    · simp only [Elts.all, List.getElem?_map, Option.map_eq_some_iff] at hu
      obtain ⟨n, hn, rfl⟩ := hu
      obtain ⟨hj, rfl⟩ := List.getElem?_eq_some_iff.1 hn
      obtain ⟨b, off, e, _, hc⟩ := hR (by omega)
      cases e; exact hc j hj
theorem okWide_spot {P : Program} {w : World} {r : Reach} {b : Nat} {t e : TypeId} {A : Option Addr} {n c : Nat} (ht : P.underlying t = some (.slice e)) (h : Cell.okWide P w r b t (.slice A n c)) : SlOK A ∧ n ≤ c := by
  simp only [Cell.okWide, ht] at h
  cases A with
  | none =>
    refine ⟨fun a e => (by cases e), ?_⟩
    simp only [Cell.ok, ht] at h
    split at h <;> simp_all
  | some a =>
    simp only [Cell.ok, ht] at h
    refine ⟨fun a' e => ?_, h.1⟩
    cases e
    exact h.2.2.2.1
set_option maxRecDepth 100000 in
theorem open_RS_arg {H : Type} {enc : TypeId × Value → H} {w : World} {v : Value} {d : DataW H} {p : List MemPlace} {b : Nat}
    (hv : Value.okWide Tryz.prog w .any b 24 v) (h : DataW.Trod enc Tryz.prog w 0 (fun _ => true) true 24 v d p) :
    ∃ (A : Option Addr) (c : Nat) (xs : List Int), v = .slice A xs.length c ∧ xs.length ≤ 9223372036854775807 ∧ RI w A xs ∧ SlOK A ∧ xs.length ≤ c ∧ ∀ n ∈ xs, -9223372036854775808 ≤ n ∧ n ≤ 9223372036854775807 := by
  obtain ⟨A, c, xs, rfl, h1, h2, h3⟩ := open_RI_arg hv h
  simp only [Value.okWide, Tryz.underlying24] at hv
  obtain ⟨h4, h5⟩ := okWide_spot Tryz.underlying24 hv
  exact ⟨A, c, xs, rfl, h1, h2, h4, h5, h3⟩
set_option maxRecDepth 100000 in
theorem mat_spot {w : World} {b : Nat} {x y : Value} {A : Option Addr} {n c : Nat} (hv : Value.okWide Tryz.prog w .any b 43 (.agg #[x, y, .slice A n c])) : SlOK A ∧ n ≤ c := by
  simp only [Value.okWide, Tryz.underlying43] at hv
  obtain ⟨cs, e, _, ts, hts, _, hr⟩ := hv
  cases e
  have hts' : Tryz.prog.cellTypes Tryz.prog.depth 43 = some [3, 3, 24] := by kernel_rfl
  rw [hts'] at hts
  cases hts
  obtain ⟨u, hu, hk⟩ := hr 2 _ rfl
  have hu' : u = 24 := by simpa using hu.symm
  subst hu'
  exact okWide_spot Tryz.underlying24 hk
end Go.Proofs.YtfkbjkmlpinoeaaGreat
