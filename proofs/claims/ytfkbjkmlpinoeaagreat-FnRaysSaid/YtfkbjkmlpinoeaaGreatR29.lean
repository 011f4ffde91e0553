/-
  TEXTS OF THE PROOF, put together: bAddL, Am13.
-/
import Derived.Test.YtfkbjkmlpinoeaaGreatR19
import Derived.Test.YtfkbjkmlpinoeaaGreatR20
import Derived.Test.YtfkbjkmlpinoeaaGreatR28
import Derived.Test.YtfkbjkmlpinoeaaGreatR25
set_option linter.unusedVariables false
set_option linter.unusedSimpArgs false
namespace Go.Proofs.YtfkbjkmlpinoeaaGreat
open Go.RowKit
theorem cmpL_dropK : ∀ {k : Nat} {s t : List Int}, k ≤ s.length → k ≤ t.length → s.take k = t.take k → cmpL s t = cmpL (s.drop k) (t.drop k)
  | 0, _, _, _, _, _ => by simp
  | k + 1, [], _, h, _, _ => by simp at h
  | k + 1, _ :: _, [], _, h, _ => by simp at h
  | k + 1, a :: s, b :: t, h1, h2, h => by
    simp only [List.take_succ_cons, List.cons.injEq] at h
    obtain ⟨rfl, h⟩ := h
    rw [cmpL, if_neg (by omega), if_neg (by omega), List.drop_succ_cons, List.drop_succ_cons]
    exact cmpL_dropK (by simpa using h1) (by simpa using h2) h
theorem cmpL_atK {k : Nat} {s t : List Int} (h1 : k < s.length) (h2 : k < t.length) (h : s.take k = t.take k) (hne : s[k] ≠ t[k]) : cmpL s t = if s[k] < t[k] then -1 else 1 := by
  rw [cmpL_dropK (by omega) (by omega) h, List.drop_eq_getElem_cons h1, List.drop_eq_getElem_cons h2, cmpL]
  split
  · rfl
  · rw [if_pos (by omega)]
def subX (xs : List Int) (o n : Nat) : List Int := (xs.drop o).take n
theorem subX_len {xs : List Int} {o n : Nat} (h : o + n ≤ xs.length) : (subX xs o n).length = n := by rw [subX, List.length_take, List.length_drop]; omega
theorem subX_at {xs : List Int} {o n k : Nat} (h : o + n ≤ xs.length) (hk : k < n) : (subX xs o n)[k]'(by rw [subX_len h]; exact hk) = xs.getD (o + k) 0 := by
  simp only [subX, List.getElem_take, List.getElem_drop]
  rw [getD_in (by omega)]
def lessO (xs : List Int) (o1 : Nat) (ys : List Int) (o2 n : Nat) : Bool := decide (cmpL (subX xs o1 n) (subX ys o2 n) < 0)
theorem subX_eq {xs ys : List Int} {o1 o2 n k : Nat} (h1 : o1 + n ≤ xs.length) (h2 : o2 + n ≤ ys.length) (hk : k ≤ n) (h : ∀ i, i < k → xs.getD (o1 + i) 0 = ys.getD (o2 + i) 0) : (subX xs o1 n).take k = (subX ys o2 n).take k := by
  apply List.ext_getElem (by rw [List.length_take, List.length_take, subX_len h1, subX_len h2])
  intro i a b
  rw [List.length_take, subX_len h1] at a
  rw [List.getElem_take, List.getElem_take, subX_at h1 (by omega), subX_at h2 (by omega)]
  exact h i (by omega)
set_option maxHeartbeats 1000000 in
theorem d_less (xs ys : List Int) (o1 o2 n m c1 c2 : Nat) (hm : m = n) (h1 : o1 + n ≤ xs.length) (h2 : o2 + n ≤ ys.length) (hl : xs.length ≤ 1099511627776) (hl' : ys.length ≤ 1099511627776) :
    Does Tryz.prog 105 [vS 1 1 o1 n c1, vS 2 1 o2 m c2] [(1, .ro (.ints xs)), (2, .ro (.ints ys))] 3 (Ret (vB (lessO xs o1 ys o2 n)) 3) := by
  subst hm
  refine Does.intro TT Tryz.func105 rfl (by kernel_rfl) Zz Zz fun E hE => ?_
  ((repeat' (first | refine stx ?_ | (refine stq ?_ ?_ <;> (intro hc; ((try simp at hc) <;> try contradiction))) | fail)) <;> try (exfalso; omega))
  refine w_G hE (fun k : Nat => k ≤ m ∧ ∀ i, i < k → xs.getD (o1 + i) 0 = ys.getD (o2 + i) 0) (fun k => m - k)
    (fun k => [(0, vS 1 1 o1 m c1), (1, vS 2 1 o2 m c2), (5, vI k)]) (fun _ => [(1, .ro (.ints xs)), (2, .ro (.ints ys))]) 3 [] 0 ⟨Nat.zero_le _, fun i hi => by omega⟩ ⟨w_1, w_2, rfl⟩ ?_
  rintro k ⟨hk, he⟩
  by_cases hkm : k < m
  · have i1 : o1 + (k : Int).toNat = o1 + k := by omega
    have i2 : o2 + (k : Int).toNat = o2 + k := by omega
    by_cases hv : xs.getD (o1 + k) 0 = ys.getD (o2 + k) 0
    · ((repeat' (first | refine stx ?_ | (refine stq ?_ ?_ <;> (intro hc; ((try simp at hc) <;> try contradiction))) | fail)) <;> try (exfalso; omega))
      exact ⟨[], k + 1, ⟨hkm, fun i hi => by
        by_cases e : i = k
        · subst e; exact hv
        · exact he i (by omega)⟩, w_4, ⟨w_1, w_2, rfl⟩⟩
    · have hcm := cmpL_atK (s := subX xs o1 m) (t := subX ys o2 m) (k := k) (by rw [subX_len h1]; exact hkm) (by rw [subX_len h2]; exact hkm) (subX_eq h1 h2 (by omega) he) (by rw [subX_at h1 hkm, subX_at h2 hkm]; exact hv)
      rw [subX_at h1 hkm, subX_at h2 hkm] at hcm
      have hlo : lessO xs o1 ys o2 m = decide (xs.getD (o1 + k) 0 < ys.getD (o2 + k) 0) := by
        unfold lessO
        rw [hcm]
        by_cases e : xs.getD (o1 + k) 0 < ys.getD (o2 + k) 0
        · rw [if_pos e, decide_eq_true e]; rfl
        · rw [if_neg e, decide_eq_false e]; rfl
      ((repeat' (first | refine stx ?_ | (refine stq ?_ ?_ <;> (intro hc; ((try simp at hc) <;> try contradiction))) | fail)) <;> try (exfalso; omega))
      refine fin_ret rfl w_3 (congrArg vB (by rw [hlo, i1, i2])) rfl
  · obtain rfl : k = m := by omega
    ((repeat' (first | refine stx ?_ | (refine stq ?_ ?_ <;> (intro hc; ((try simp at hc) <;> try contradiction))) | fail)) <;> try (exfalso; omega))
    have hh := subX_eq h1 h2 (Nat.le_refl _) he
    rw [List.take_of_length_le (by rw [subX_len h1]; exact Nat.le_refl _), List.take_of_length_le (by rw [subX_len h2]; exact Nat.le_refl _)] at hh
    refine fin_ret rfl w_3 (congrArg vB (by unfold lessO; rw [hh, cmpL_self]; rfl)) rfl
theorem addL_at {v : List Int} : ∀ {L : List (List Int)} {p : Nat}, p ≤ L.length → (∀ i, i < p → cmpL (L.getD i []) v < 0) → (p = L.length ∨ ¬ cmpL (L.getD p []) v < 0) → addL L v = if p < L.length ∧ ¬ cmpL v (L.getD p []) < 0 then L else L.take p ++ v :: L.drop p
  | [], p, hp, _, _ => by
    have : p = 0 := by simpa using hp
    subst this; simp [addL]
  | x :: L, 0, _, _, h => by
    have h0 : ¬ cmpL x v < 0 := by simpa using h
    rw [addL, if_neg h0]
    simp only [List.length_cons, List.getD_cons_zero]
    by_cases e : cmpL v x < 0
    · rw [if_pos e, if_neg (by omega)]; rfl
    · rw [if_neg e, if_pos ⟨by omega, e⟩]
  | x :: L, p + 1, hp, h1, h2 => by
    have h0 := h1 0 (by omega)
    have ih := addL_at (v := v) (L := L) (p := p) (by simpa using hp) (fun i hi => by simpa using h1 (i + 1) (by omega)) (by simpa using h2)
    simp only [List.getD_cons_zero] at h0
    rw [addL, if_pos h0, ih]
    simp only [List.length_cons, List.getD_cons_succ, List.take_succ_cons, List.drop_succ_cons]
    by_cases e : p < L.length ∧ ¬ cmpL v (L.getD p []) < 0
    · rw [if_pos e, if_pos (by omega)]
    · rw [if_neg e, if_neg (by omega)]; rfl
theorem flatX_td {c : Nat} : ∀ {L : List (List Int)} {p : Nat}, (∀ v ∈ L, v.length = c) → p ≤ L.length → L.flatten.take (p * c) = (L.take p).flatten ∧ L.flatten.drop (p * c) = (L.drop p).flatten
  | L, 0, _, _ => by simp
  | [], p + 1, _, h => by simp at h
  | x :: L, p + 1, h, hp => by
    have ih := flatX_td (L := L) (p := p) (fun v hv => h v (by simp [hv])) (by simpa using hp)
    have hx := h x (by simp)
    rw [List.flatten_cons, Nat.succ_mul, Nat.add_comm (p * c) c, ← hx, List.take_length_add_append, List.drop_length_add_append, hx, ih.1, ih.2]
    simp
theorem flat_lenX {c : Nat} : ∀ {L : List (List Int)}, (∀ v ∈ L, v.length = c) → L.flatten.length = L.length * c
  | [], _ => by simp
  | v :: L, h => by rw [List.flatten_cons, List.length_append, h v (by simp), flat_lenX fun u hu => h u (by simp [hu]), List.length_cons, Nat.succ_mul]; omega
theorem flat_row {c p : Nat} {L : List (List Int)} (h : ∀ v ∈ L, v.length = c) (hp : p < L.length) : subX L.flatten (p * c) c = L.getD p [] := by
  rw [subX, (flatX_td h (by omega)).2, List.drop_eq_getElem_cons hp, List.flatten_cons, getD_in hp, List.take_append_of_le_length (by rw [h _ (List.getElem_mem hp)]; exact Nat.le_refl _), List.take_of_length_le (by rw [h _ (List.getElem_mem hp)]; exact Nat.le_refl _)]
def AddLR (t : TypeId) (L : List (List Int)) (c : Nat) (n ca : Nat) (w : List Int) (v : AV) (Hout : List (Nat × Blk)) (n1 : Nat) : Prop :=
  (addL L w = L ∧ v = vM L.length c 1 n ca ∧ Hout = [] ∧ n1 = 3) ∨ ∃ cap, (addL L w).flatten.length ≤ cap ∧ v = .agg [.int (addL L w).length, .int c, .sl 3 1 0 (addL L w).flatten.length cap] ∧ Hout = [(3, .own t cap (.ints (addL L w).flatten))] ∧ n1 = 4
set_option maxRecDepth 100000 in
set_option maxHeartbeats 4000000 in
theorem d_l27Add (L : List (List Int)) (w : List Int) (c n m ca cw : Nat) (hn : n = L.flatten.length) (hm : m = w.length) (hL : ∀ v ∈ L, v.length = c) (hw : w.length = c) (hLl : L.length ≤ 1000) (hc : 1 ≤ c ∧ c ≤ 24) (hca : n ≤ ca) :
    Does Tryz.prog 63 [vM L.length c 1 n ca, vS 2 1 0 m cw] [(1, .ro (.ints L.flatten)), (2, .ro (.ints w))] 3 (AddLR 3 L c n ca w) := by
  subst hn hm
  refine Does.intro TT Tryz.func63 rfl (by kernel_rfl) Zz Zz fun E hE => ?_
  have hfl := flat_lenX hL
  have hsm : (L.map List.length).sum = L.length * c := by rw [← List.length_flatten]; exact hfl
  ((repeat' (first | refine stx ?_ | (refine stq ?_ ?_ <;> (intro hc; ((try simp at hc) <;> try contradiction))) | fail)) <;> try (exfalso; omega))
  refine w_G hE (fun k : Nat => k ≤ L.length ∧ ∀ i, i < k → cmpL (L.getD i []) w < 0) (fun k => L.length - k)
    (fun k => [(1, vS 2 1 0 w.length cw), (2, .one (.ptr 3 3 0 0)), (4, .one (.ptr 4 3 0 0)), (5, vI k)])
    (fun _ => [(1, .ro (.ints L.flatten)), (2, .ro (.ints w)), (3, .own 26 1 (.lit [.int L.length, .int c, .sl 1 1 0 L.flatten.length ca])), (4, .own 26 1 (.lit zeroM))]) 5 [] 0 ⟨Nat.zero_le _, fun i hi => by omega⟩ ⟨w_1, w_2, rfl⟩ ?_
  rintro k ⟨hk, he⟩
  have hnb : L.length * c ≤ 1000 * 24 := Nat.mul_le_mul hLl hc.2
  have hkb : k * c ≤ L.length * c := Nat.mul_le_mul_right _ hk
  have ekc : (k : Int) * c = ((k * c : Nat) : Int) := by simp
  have enk : ((k : Int) * c).toNat = k * c := by omega
  have hof : slOff 0 ((k : Int) * c).toNat ca + (L.flatten.length - ((k : Int) * c).toNat) ≤ L.flatten.length := by
    unfold slOff; split <;> omega
  have hof2 := hof
  rw [List.length_flatten] at hof2
  have hdr : (L.flatten.drop (slOff 0 ((k : Int) * c).toNat ca)).take (L.flatten.length - ((k : Int) * c).toNat) = L.flatten.drop (k * c) := by
    unfold slOff
    split
    · rw [show L.flatten.length - ((k : Int) * c).toNat = 0 by omega, List.take_zero, List.drop_of_length_le (by omega)]
    · rw [Nat.zero_add, enk, List.take_of_length_le (by rw [List.length_drop]; exact Nat.le_refl _)]
  have hcell : addL L w = L.take k ++ w :: L.drop k → ([] ++ (L.flatten.drop 0).take ((k : Int) * c).toNat) ++ (w.drop 0).take w.length ++ (L.flatten.drop (slOff 0 ((k : Int) * c).toNat ca)).take (L.flatten.length - ((k : Int) * c).toNat) = (addL L w).flatten := fun h => by
    rw [h, hdr, enk, List.drop_zero, List.drop_zero, List.nil_append, (flatX_td hL hk).1, (flatX_td hL hk).2, List.take_length, List.flatten_append, List.flatten_cons, List.append_assoc]
  have hlen1 : addL L w = L.take k ++ w :: L.drop k → ((addL L w).length : Int) = (L.length : Int) + 1 := fun h => by
    rw [h, List.length_append, List.length_cons, List.length_take, List.length_drop]; omega
  have hlen2 : addL L w = L.take k ++ w :: L.drop k → (addL L w).flatten.length = 0 + ((k : Int) * c).toNat + w.length + (L.flatten.length - ((k : Int) * c).toNat) := fun h => by
    rw [← hcell h, hdr, List.length_append, List.length_append, List.length_append, List.drop_zero, List.drop_zero, List.length_take, List.length_take, List.length_drop]
    simp only [List.length_nil]; omega
  by_cases hkl : k < L.length
  · have hkn : ¬ L.length ≤ k := by omega
    obtain ⟨q1, q2, q3, q4, q5⟩ := sl_row (ca := ca) hkl hc.1 hfl hca
    have hin := row_in (c := c) hkl
    have hlo1 : lessO L.flatten (k * c) w 0 c = decide (cmpL (L.getD k []) w < 0) := by
      rw [lessO, flat_row hL hkl, subX, List.drop_zero, List.take_of_length_le (by omega)]
    have hlo2 : lessO w 0 L.flatten (k * c) c = decide (cmpL w (L.getD k []) < 0) := by
      rw [lessO, flat_row hL hkl, subX, List.drop_zero, List.take_of_length_le (by omega)]
    have hl1 : ∀ c1, Does Tryz.prog 105 [vS 1 1 (slOff 0 ((k : Int) * c).toNat ca) ((((k : Int) + 1) * c).toNat - ((k : Int) * c).toNat) c1, vS 2 1 0 w.length cw] [(1, .ro (.ints L.flatten)), (2, .ro (.ints w))] 3 (Ret (vB (decide (cmpL (L.getD k []) w < 0))) 3) := fun c1 => by
      rw [q1, q2, ← hlo1]
      exact d_less L.flatten w (k * c) 0 c w.length c1 cw hw (by omega) (by omega) (by omega) (by omega)
    have hl2 : ∀ c2, Does Tryz.prog 105 [vS 1 1 0 w.length cw, vS 2 1 (slOff 0 ((k : Int) * c).toNat ca) ((((k : Int) + 1) * c).toNat - ((k : Int) * c).toNat) c2] [(1, .ro (.ints w)), (2, .ro (.ints L.flatten))] 3 (Ret (vB (decide (cmpL w (L.getD k []) < 0))) 3) := fun c2 => by
      rw [q1, q2, ← hlo2]
      have := d_less w L.flatten 0 (k * c) w.length c cw c2 hw.symm (by omega) (by omega) (by omega) (by omega)
      rw [show lessO w 0 L.flatten (k * c) w.length = lessO w 0 L.flatten (k * c) c by rw [hw]] at this
      exact this
    by_cases c1 : cmpL (L.getD k []) w < 0
    · rw [decide_eq_true c1] at hl1
      ((repeat' (first | refine stx ?_ | (first | refine w_z (hl1 _) Zz Zz Zz Zz Zz Zz Zz Zz ft Zz Zz ?_ | refine w_A (hl1 _) Zz Zz Zz Zz Zz Zz Zz Zz ft Zz Zz ?_) | (refine stq ?_ ?_ <;> (intro hc; ((try simp at hc) <;> try contradiction))) | fail)) <;> try (exfalso; omega))
      exact ⟨[], k + 1, ⟨hkl, fun i hi => by
        by_cases e : i = k
        · subst e; exact c1
        · exact he i (by omega)⟩, w_4, ⟨w_1, w_2, rfl⟩⟩
    · rw [decide_eq_false c1] at hl1
      have hadd := addL_at (v := w) hk he (.inr c1)
      by_cases c2 : cmpL w (L.getD k []) < 0
      · rw [decide_eq_true c2] at hl2
        rw [if_neg (fun h => h.2 c2)] at hadd
        ((repeat' (first | refine stp ?_ | (first | refine w_z (hl1 _) Zz Zz Zz Zz Zz Zz Zz Zz ft Zz Zz ?_ | refine w_A (hl1 _) Zz Zz Zz Zz Zz Zz Zz Zz ft Zz Zz ?_) | (first | refine w_z (hl2 _) Zz Zz Zz Zz Zz Zz Zz Zz ft Zz Zz ?_ | refine w_A (hl2 _) Zz Zz Zz Zz Zz Zz Zz Zz ft Zz Zz ?_) | (refine stq ?_ ?_ <;> (intro hc; ((try simp at hc) <;> try contradiction))) | fail)) <;> try (exfalso; omega))
        refine awp_held TM [(3, _)] sb rfl (fun ρs => ?_)
        refine zt1 ?_
        refine zt2 ?_
        refine zt3 ?_
        refine zt4 ?_
        refine zt5 ?_
        refine zt6 ?_
        refine zt7 ?_
        refine zt9 ?_
        refine zt11 ?_
        refine zt12 ?_
        refine zt13 ?_
        refine zt14 ?_
        refine zt15 ?_
        refine zt16 ?_
        refine zt17 ?_
        refine w_u [0] kr rfl ⟨?_, trivial⟩
        first | (refine zho ?_) | (refine w_y TT _ Zz Zz Zz Zz Zz Zz sd sb Zz Zz ?_; intro cap hcap)
        refine w_u [8] kr rfl ⟨?_, trivial⟩
        first | (refine zho ?_) | (refine w_y TT _ Zz Zz Zz Zz Zz Zz sd sb Zz Zz ?_; intro cap hcap)
        refine w_u [10] kr rfl ⟨?_, trivial⟩
        first | (refine zho ?_) | (refine w_y TT _ Zz Zz Zz Zz Zz Zz sd sb Zz Zz ?_; intro cap hcap)
        refine w_u [18] kr rfl ⟨?_, trivial⟩
        first | (refine zho ?_) | (refine w_y TT _ Zz Zz Zz Zz Zz Zz sd sb Zz Zz ?_; intro cap hcap)
        refine zt19 ?_
        refine w_v kr ?_
        rotate_left
        all_goals ((repeat' (first | refine stx ?_ | (refine stq ?_ ?_ <;> (intro hc; ((try simp at hc) <;> try contradiction))) | fail)) <;> try (exfalso; omega))
        all_goals exact fin rfl w_3 [(3, 8)] (.agg [.int (addL L w).length, .int c, .sl 3 1 0 (addL L w).flatten.length cap]) [(3, .own 3 cap (.ints (addL L w).flatten))] 4 (.inr ⟨cap, by rw [hlen2 hadd]; exact hcap, rfl, rfl, rfl⟩) (by rw [hlen1 hadd, hlen2 hadd]; rfl) ⟨trivial, ⟨own_ints (hcell hadd), trivial⟩, rfl⟩ rfl
      · rw [decide_eq_false c2] at hl2
        rw [if_pos ⟨hkl, c2⟩] at hadd
        ((repeat' (first | refine stx ?_ | (first | refine w_z (hl1 _) Zz Zz Zz Zz Zz Zz Zz Zz ft Zz Zz ?_ | refine w_A (hl1 _) Zz Zz Zz Zz Zz Zz Zz Zz ft Zz Zz ?_) | (first | refine w_z (hl2 _) Zz Zz Zz Zz Zz Zz Zz Zz ft Zz Zz ?_ | refine w_A (hl2 _) Zz Zz Zz Zz Zz Zz Zz Zz ft Zz Zz ?_) | (refine stq ?_ ?_ <;> (intro hc; ((try simp at hc) <;> try contradiction))) | fail)) <;> try (exfalso; omega))
        exact fin rfl w_3 [] (vM L.length c 1 L.flatten.length ca) [] 3 (.inl ⟨hadd, rfl, rfl, rfl⟩) rfl ⟨trivial, trivial, rfl⟩ rfl
  · obtain rfl : k = L.length := by omega
    have hadd := addL_at (v := w) hk he (.inl rfl)
    rw [if_neg (by omega)] at hadd
    ((repeat' (first | refine stp ?_ | (refine stq ?_ ?_ <;> (intro hc; ((try simp at hc) <;> try contradiction))) | fail)) <;> try (exfalso; omega))
    refine awp_held TM [(3, _)] sb rfl (fun ρs => ?_)
    refine zt1 ?_
    refine zt2 ?_
    refine zt3 ?_
    refine zt4 ?_
    refine zt5 ?_
    refine zt6 ?_
    refine zt7 ?_
    refine zt9 ?_
    refine zt11 ?_
    refine zt12 ?_
    refine zt13 ?_
    refine zt14 ?_
    refine zt15 ?_
    refine zt16 ?_
    refine zt17 ?_
    refine w_u [0] kr rfl ⟨?_, trivial⟩
    first | (refine zho ?_) | (refine w_y TT _ Zz Zz Zz Zz Zz Zz sd sb Zz Zz ?_; intro cap hcap)
    refine w_u [8] kr rfl ⟨?_, trivial⟩
    first | (refine zho ?_) | (refine w_y TT _ Zz Zz Zz Zz Zz Zz sd sb Zz Zz ?_; intro cap hcap)
    refine w_u [10] kr rfl ⟨?_, trivial⟩
    first | (refine zho ?_) | (refine w_y TT _ Zz Zz Zz Zz Zz Zz sd sb Zz Zz ?_; intro cap hcap)
    refine w_u [18] kr rfl ⟨?_, trivial⟩
    first | (refine zho ?_) | (refine w_y TT _ Zz Zz Zz Zz Zz Zz sd sb Zz Zz ?_; intro cap hcap)
    refine zt19 ?_
    refine w_v kr ?_
    rotate_left
    all_goals ((repeat' (first | refine stx ?_ | (refine stq ?_ ?_ <;> (intro hc; ((try simp at hc) <;> try contradiction))) | fail)) <;> try (exfalso; omega))
    all_goals exact fin rfl w_3 [(3, 8)] (.agg [.int (addL L w).length, .int c, .sl 3 1 0 (addL L w).flatten.length cap]) [(3, .own 3 cap (.ints (addL L w).flatten))] 4 (.inr ⟨cap, by rw [hlen2 hadd]; exact hcap, rfl, rfl, rfl⟩) (by rw [hlen1 hadd, hlen2 hadd]; rfl) ⟨trivial, ⟨own_ints (hcell hadd), trivial⟩, rfl⟩ rfl
end Go.Proofs.YtfkbjkmlpinoeaaGreat
namespace Go.Proofs.YtfkbjkmlpinoeaaGreat
open Go.RowKit
section
variable {P : Program} {E : Env} {N : Nat} {Q : Post} {fr : Nat → Option AV} {H : Nat → Option Blk} {nx : Nat}
theorem awp_cutR {α : Type} (i : Nat) {ops : Array Oper} {dr : Bool} {y : Code} {n0 : Nat} (hn : E.n0 = n0) (pre : α → Prop) (F : α → List (Nat × AV)) (Hh : α → List (Nat × Blk)) (nx1 : Nat)
    (h : awp P E N (.region i ops dr) (cutQ n0 pre F Hh nx1 Q) ⟨fr, H, nx⟩)
    (hr : ∀ z, pre z → awp P E N y Q ⟨lk (F z), lk (Hh z), nx1⟩) : awp P E N (.seq (.region i ops dr) y) Q ⟨fr, H, nx⟩ := by
  unfold awp at *
  intro ρ a w hI
  refine wp_seq (Code.wp_mono (fun e a' w' hq => ?_) (h ρ a w hI))
  obtain ⟨ρ', σ', hI', hq⟩ := hq
  cases e with
  | normal =>
    obtain ⟨m, z, hp, hw⟩ := hq
    exact hr z hp _ a' w' (hI'.weak hn hw.f hw.h hw.ok)
  | exit id => exact ⟨ρ', σ', hI', hq⟩
  | goto l => exact ⟨ρ', σ', hI', hq⟩
  | ret => exact ⟨ρ', σ', hI', hq⟩
  | panic => exact ⟨ρ', σ', hI', hq⟩
  | outgrown => exact ⟨ρ', σ', hI', hq⟩
end
end Go.Proofs.YtfkbjkmlpinoeaaGreat
