/-
  TEXTS OF THE PROOF, put together: bAddL, bHilbP, pPut2.
-/
import Derived.Test.YtekpamojojfplaaGreatB09
import Derived.Test.YtekpamojojfplaaGreatB10
import Derived.Test.YtekpamojojfplaaGreatB25
import Derived.Test.YtekpamojojfplaaGreatB28
import Derived.Test.YtekpamojojfplaaGreatB26
set_option linter.unusedVariables false
set_option linter.unusedSimpArgs false
namespace Go.Proofs.YtekpamojojfplaaGreat
open Go.RowKit
theorem cmpL_dropK : ∀ {k : Nat} {s t : List Int}, k ≤ s.length → k ≤ t.length → s.take k = t.take k → cmpL s t = cmpL (s.drop k) (t.drop k)
  | 0, _, _, _, _, _ => by simp
  | k + 1, [], _, h, _, _ => by simp at h
  | k + 1, _ :: _, [], _, h, _ => by simp at h
  | k + 1, a :: s, b :: t, h1, h2, h => by
    simp only [List.take_succ_cons, List.cons.injEq] at h
    obtain ⟨rfl, h⟩ := h
    rw [cmpL, if_neg (by omega), if_neg (by omega), List.drop_succ_cons, List.drop_succ_cons]
    exact cmpL_dropK (by simpa using h1) (by simpa using h2) h
theorem cmpL_atK {k : Nat} {s t : List Int} (h1 : k < s.length) (h2 : k < t.length) (h : s.take k = t.take k) (hne : s[k] ≠ t[k]) : cmpL s t = if s[k] < t[k] then -1 else 1 := by
  rw [cmpL_dropK (by omega) (by omega) h, List.drop_eq_getElem_cons h1, List.drop_eq_getElem_cons h2, cmpL]
  split
  · rfl
  · rw [if_pos (by omega)]
def subX (xs : List Int) (o n : Nat) : List Int := (xs.drop o).take n
theorem subX_len {xs : List Int} {o n : Nat} (h : o + n ≤ xs.length) : (subX xs o n).length = n := by rw [subX, List.length_take, List.length_drop]; omega
theorem subX_at {xs : List Int} {o n k : Nat} (h : o + n ≤ xs.length) (hk : k < n) : (subX xs o n)[k]'(by rw [subX_len h]; exact hk) = xs.getD (o + k) 0 := by
  simp only [subX, List.getElem_take, List.getElem_drop]
  rw [getD_in (by omega)]
def lessO (xs : List Int) (o1 : Nat) (ys : List Int) (o2 n : Nat) : Bool := decide (cmpL (subX xs o1 n) (subX ys o2 n) < 0)
theorem subX_eq {xs ys : List Int} {o1 o2 n k : Nat} (h1 : o1 + n ≤ xs.length) (h2 : o2 + n ≤ ys.length) (hk : k ≤ n) (h : ∀ i, i < k → xs.getD (o1 + i) 0 = ys.getD (o2 + i) 0) : (subX xs o1 n).take k = (subX ys o2 n).take k := by
  apply List.ext_getElem (by rw [List.length_take, List.length_take, subX_len h1, subX_len h2])
  intro i a b
  rw [List.length_take, subX_len h1] at a
  rw [List.getElem_take, List.getElem_take, subX_at h1 (by omega), subX_at h2 (by omega)]
  exact h i (by omega)
set_option maxHeartbeats 1000000 in
theorem d_less (xs ys : List Int) (o1 o2 n m c1 c2 : Nat) (hm : m = n) (h1 : o1 + n ≤ xs.length) (h2 : o2 + n ≤ ys.length) (hl : xs.length ≤ 1099511627776) (hl' : ys.length ≤ 1099511627776) :
    Does Tryz.prog 202 [vS 1 1 o1 n c1, vS 2 1 o2 m c2] [(1, .ro (.ints xs)), (2, .ro (.ints ys))] 3 (Ret (vB (lessO xs o1 ys o2 n)) 3) := by
  subst hm
  refine Does.intro TT Tryz.func202 rfl (by kernel_rfl) Zz Zz fun E hE => ?_
  ((repeat' (first | refine stx ?_ | (refine stq ?_ ?_ <;> (intro hc; ((try simp at hc) <;> try contradiction))) | fail)) <;> try (exfalso; omega))
  refine w_G hE (fun k : Nat => k ≤ m ∧ ∀ i, i < k → xs.getD (o1 + i) 0 = ys.getD (o2 + i) 0) (fun k => m - k)
    (fun k => [(0, vS 1 1 o1 m c1), (1, vS 2 1 o2 m c2), (5, vI k)]) (fun _ => [(1, .ro (.ints xs)), (2, .ro (.ints ys))]) 3 [] 0 ⟨Nat.zero_le _, fun i hi => by omega⟩ ⟨w_1, w_2, rfl⟩ ?_
  rintro k ⟨hk, he⟩
  by_cases hkm : k < m
  · have i1 : o1 + (k : Int).toNat = o1 + k := by omega
    have i2 : o2 + (k : Int).toNat = o2 + k := by omega
    by_cases hv : xs.getD (o1 + k) 0 = ys.getD (o2 + k) 0
    · ((repeat' (first | refine stx ?_ | (refine stq ?_ ?_ <;> (intro hc; ((try simp at hc) <;> try contradiction))) | fail)) <;> try (exfalso; omega))
      exact ⟨[], k + 1, ⟨hkm, fun i hi => by
        by_cases e : i = k
        · subst e; exact hv
        · exact he i (by omega)⟩, w_4, ⟨w_1, w_2, rfl⟩⟩
    · have hcm := cmpL_atK (s := subX xs o1 m) (t := subX ys o2 m) (k := k) (by rw [subX_len h1]; exact hkm) (by rw [subX_len h2]; exact hkm) (subX_eq h1 h2 (by omega) he) (by rw [subX_at h1 hkm, subX_at h2 hkm]; exact hv)
      rw [subX_at h1 hkm, subX_at h2 hkm] at hcm
      have hlo : lessO xs o1 ys o2 m = decide (xs.getD (o1 + k) 0 < ys.getD (o2 + k) 0) := by
        unfold lessO
        rw [hcm]
        by_cases e : xs.getD (o1 + k) 0 < ys.getD (o2 + k) 0
        · rw [if_pos e, decide_eq_true e]; rfl
        · rw [if_neg e, decide_eq_false e]; rfl
      ((repeat' (first | refine stx ?_ | (refine stq ?_ ?_ <;> (intro hc; ((try simp at hc) <;> try contradiction))) | fail)) <;> try (exfalso; omega))
      refine fin_ret rfl w_3 (congrArg vB (by rw [hlo, i1, i2])) rfl
  · obtain rfl : k = m := by omega
    ((repeat' (first | refine stx ?_ | (refine stq ?_ ?_ <;> (intro hc; ((try simp at hc) <;> try contradiction))) | fail)) <;> try (exfalso; omega))
    have hh := subX_eq h1 h2 (Nat.le_refl _) he
    rw [List.take_of_length_le (by rw [subX_len h1]; exact Nat.le_refl _), List.take_of_length_le (by rw [subX_len h2]; exact Nat.le_refl _)] at hh
    refine fin_ret rfl w_3 (congrArg vB (by unfold lessO; rw [hh, cmpL_self]; rfl)) rfl
def AddLR (t : TypeId) (L : List (List Int)) (c : Nat) (n ca : Nat) (w : List Int) (v : AV) (Hout : List (Nat × Blk)) (n1 : Nat) : Prop :=
  (addL L w = L ∧ v = vM L.length c 1 n ca ∧ Hout = [] ∧ n1 = 3) ∨ ∃ cap, (addL L w).flatten.length ≤ cap ∧ v = .agg [.int (addL L w).length, .int c, .sl 3 1 0 (addL L w).flatten.length cap] ∧ Hout = [(3, .own t cap (.ints (addL L w).flatten))] ∧ n1 = 4
end Go.Proofs.YtekpamojojfplaaGreat
namespace Go.Proofs.YtekpamojojfplaaGreat
open Go.RowKit
def grV (v : List Int) (val : Int) (l : List Row) (hs : List Int) (j : Nat) : Prop := val < hs.getD j 0 ∨ hs.getD j 0 = val ∧ cmpL v (l.getD j rowD).xs < 0
def PutR (th t : TypeId) (l : List Row) (hs : List Int) (r : Row) (val : Int) (v : AV) (Hout : List (Nat × Blk)) (n1 : Nat) : Prop :=
  ∃ (k m1 m2 c1 c2 : Nat) (l' : List Row) (hs' : List Int), k ≤ l.length ∧ (∀ j, k ≤ j → j < l.length → grV r.xs val l hs j) ∧ (k = 0 ∨ ¬ grV r.xs val l hs (k - 1)) ∧ m1 = l.length + 1 ∧ m2 = l.length + 1 ∧ l' = l.take k ++ r :: l.drop k ∧ hs' = hs.take k ++ val :: hs.drop k ∧ m1 ≤ c1 ∧ m2 ≤ c2 ∧
    v = .tup [.one (.sl 4 1 0 m1 c1), .one (.sl 5 1 0 m2 c2)] ∧ Hout = [(4, .own th c1 (.rows false false l')), (5, .own t c2 (.ints hs'))] ∧ n1 = 6
theorem put_mid {α : Type} {l : List α} {x : α} {k ca : Nat} (hk : k ≤ l.length) (hca : l.length ≤ ca) : ([] ++ (l.drop 0).take (k : Int).toNat) ++ ([x].drop 0).take 1 ++ (l.drop (slOff 0 (k : Int).toNat ca)).take (l.length - (k : Int).toNat) = l.take k ++ x :: l.drop k := by
  rw [Int.toNat_natCast, List.nil_append, List.drop_zero, List.drop_zero, List.append_assoc]
  congr 1
  rw [show [x].take 1 = [x] from rfl, List.singleton_append]
  congr 1
  unfold slOff
  split
  · rw [show l.length - k = 0 by omega, List.take_zero, List.drop_of_length_le (by omega)]
  · rw [Nat.zero_add, List.take_of_length_le (by rw [List.length_drop]; exact Nat.le_refl _)]
set_option maxRecDepth 100000 in
set_option maxHeartbeats 8000000 in
theorem d_putS (l : List Row) (hs : List Int) (a0 : Option (Nat × Nat)) (cv n c1 c2 m : Nat) (v : List Int) (val : Int) (hm : m = v.length) (hn : n = l.length) (hhs : hs.length = l.length) (hl : l.length ≤ 100000) (hv : v.length ≤ 100000) (hc1 : l.length ≤ c1) (hc2 : l.length ≤ c2) (hr : ∀ r ∈ l, r.xs.length = v.length) :
    Does Tryz.prog 170 [vS 1 1 0 l.length c1, vS 2 1 0 n c2, vS 3 1 0 m cv, vI val] [(1, .ro (.rows false true l)), (2, .ro (.ints hs)), (3, .al a0 (.ints v))] 4 (PutR 24 3 l hs ⟨a0, cv, v, []⟩ val) := by
  subst hm hn
  refine Does.intro TT Tryz.func170 rfl (by kernel_rfl) Zz Zz fun E hE => ?_
  ((repeat' (first | refine stx ?_ | (refine stq ?_ ?_ <;> (intro hc; ((try simp at hc) <;> try contradiction))) | fail)) <;> try (exfalso; omega))
  refine w_G hE (fun k : Nat => k ≤ l.length ∧ ∀ j, k ≤ j → j < l.length → grV v val l hs j) (fun k => k)
    (fun k => [(0, vS 1 1 0 l.length c1), (1, vS 2 1 0 l.length c2), (2, vS 3 1 0 v.length cv), (3, vI val), (10, vI k)]) (fun _ => [(1, .ro (.rows false true l)), (2, .ro (.ints hs)), (3, .al a0 (.ints v))]) 4 [] l.length ⟨Nat.le_refl _, fun j h1 h2 => by omega⟩ ⟨w_1, w_2, rfl⟩ ?_
  rintro k ⟨hk, he⟩
  have hof : slOff 0 (k : Int).toNat c1 + (l.length - (k : Int).toNat) ≤ l.length := by unfold slOff; split <;> omega
  have hof2 : slOff 0 (k : Int).toNat c2 + (l.length - (k : Int).toNat) ≤ hs.length := by unfold slOff; split <;> omega
  have f1 := put_mid (l := l) (x := (⟨a0, cv, v, []⟩ : Row)) (ca := c1) hk hc1
  have f2 := put_mid (l := hs) (x := val) (ca := c2) (k := k) (by omega) (by omega)
  rw [hhs] at f2
  by_cases hk0 : k = 0
  · have hcd : k = 0 ∨ ¬ grV v val l hs (k - 1) := .inl hk0
    have hkz : ¬ 0 < k := by omega
    ((repeat' (first | refine stp ?_ | (refine stq ?_ ?_ <;> (intro hc; ((try simp at hc) <;> try contradiction))) | fail)) <;> try (exfalso; omega))
    refine awp_held TM [] sb rfl (fun ρs => ?_)
    refine zt1 ?_
    refine zt2 ?_
    refine zt3 ?_
    refine zt5 ?_
    refine zt8 ?_
    refine zt9 ?_
    refine zt10 ?_
    refine w_u [0, 6] kr rfl ⟨?_, ?_, trivial⟩
    first | (refine zho ?_) | (refine zqy ?_; intro cap hcap)
    refine w_u [4, 6] kr rfl ⟨?_, ?_, trivial⟩
    first | (refine zho ?_) | (refine zqy ?_; intro cap hcap)
    refine w_u [6] kr rfl ⟨?_, trivial⟩
    first | (refine zho ?_) | (refine zqy ?_; intro cap hcap)
    refine w_u [7] kr rfl ⟨?_, trivial⟩
    first | (refine zho ?_) | (refine zqy ?_; intro cap hcap)
    refine w_u [11] kr rfl ⟨?_, trivial⟩
    first | (refine zho ?_) | (refine zqy ?_; intro cap hcap)
    refine zt12 ?_
    refine w_v kr ?_
    rotate_left
    first | (refine zho ?_) | (refine zqy ?_; intro cap hcap)
    refine w_u [4] kr rfl ⟨?_, trivial⟩
    first | (refine zho ?_) | (refine zqy ?_; intro cap hcap)
    refine w_u [7] kr rfl ⟨?_, trivial⟩
    first | (refine zho ?_) | (refine zqy ?_; intro cap hcap)
    refine w_u [11] kr rfl ⟨?_, trivial⟩
    first | (refine zho ?_) | (refine zqy ?_; intro cap hcap)
    refine zt12 ?_
    refine w_v kr ?_
    rotate_left
    first | (refine zho ?_) | (refine zqy ?_; intro cap hcap)
    refine w_u [0] kr rfl ⟨?_, trivial⟩
    first | (refine zho ?_) | (refine zqy ?_; intro cap hcap)
    refine w_u [4] kr rfl ⟨?_, trivial⟩
    first | (refine zho ?_) | (refine zqy ?_; intro cap hcap)
    refine w_u [7] kr rfl ⟨?_, trivial⟩
    first | (refine zho ?_) | (refine zqy ?_; intro cap hcap)
    refine w_u [11] kr rfl ⟨?_, trivial⟩
    first | (refine zho ?_) | (refine zqy ?_; intro cap hcap)
    refine zt12 ?_
    refine w_v kr ?_
    rotate_left
    all_goals ((repeat' (first | refine stp ?_ | (refine stq ?_ ?_ <;> (intro hc; ((try simp at hc) <;> try contradiction))) | fail)) <;> try (exfalso; omega))
    all_goals
      refine awp_held TM [] sb rfl (fun ρs => ?_)
      refine zt1 ?_
      refine zt2 ?_
      refine zt3 ?_
      refine zt5 ?_
      refine zt8 ?_
      refine zt9 ?_
      refine zt10 ?_
      refine w_u [0, 6] kr rfl ⟨?_, ?_, trivial⟩
      first | (refine zho ?_) | (refine zqy ?_; intro cap hcap)
      refine w_u [4, 6] kr rfl ⟨?_, ?_, trivial⟩
      first | (refine zho ?_) | (refine zqy ?_; intro cap hcap)
      refine w_u [6] kr rfl ⟨?_, trivial⟩
      first | (refine zho ?_) | (refine zqy ?_; intro cap hcap)
      refine w_u [7] kr rfl ⟨?_, trivial⟩
      first | (refine zho ?_) | (refine zqy ?_; intro cap hcap)
      refine w_u [11] kr rfl ⟨?_, trivial⟩
      first | (refine zho ?_) | (refine zqy ?_; intro cap hcap)
      refine zt12 ?_
      refine w_v kr ?_
      rotate_left
      first | (refine zho ?_) | (refine zqy ?_; intro cap hcap)
      refine w_u [4] kr rfl ⟨?_, trivial⟩
      first | (refine zho ?_) | (refine zqy ?_; intro cap hcap)
      refine w_u [7] kr rfl ⟨?_, trivial⟩
      first | (refine zho ?_) | (refine zqy ?_; intro cap hcap)
      refine w_u [11] kr rfl ⟨?_, trivial⟩
      first | (refine zho ?_) | (refine zqy ?_; intro cap hcap)
      refine zt12 ?_
      refine w_v kr ?_
      rotate_left
      first | (refine zho ?_) | (refine zqy ?_; intro cap hcap)
      refine w_u [0] kr rfl ⟨?_, trivial⟩
      first | (refine zho ?_) | (refine zqy ?_; intro cap hcap)
      refine w_u [4] kr rfl ⟨?_, trivial⟩
      first | (refine zho ?_) | (refine zqy ?_; intro cap hcap)
      refine w_u [7] kr rfl ⟨?_, trivial⟩
      first | (refine zho ?_) | (refine zqy ?_; intro cap hcap)
      refine w_u [11] kr rfl ⟨?_, trivial⟩
      first | (refine zho ?_) | (refine zqy ?_; intro cap hcap)
      refine zt12 ?_
      refine w_v kr ?_
      rotate_left
      all_goals ((first | refine awpL_ghost (Ghost.forget 8 Zz Zz) ?_ | refine awp_ghost (Ghost.forget 8 Zz Zz) ?_ | refine awpH_ghost (Ghost.forget 8 Zz Zz) ?_ | refine awpHop_ghost (Ghost.forget 8 Zz Zz) ?_); rintro _ _ ⟨rfl, rfl⟩)
      all_goals ((repeat' (first | refine stx ?_ | (refine stq ?_ ?_ <;> (intro hc; ((try simp at hc) <;> try contradiction))) | fail)) <;> try (exfalso; omega))
      all_goals refine fin rfl w_3 [(4, 8), (5, 13)] (.tup [.one (.sl 4 1 0 _ _), .one (.sl 5 1 0 _ _)]) [(4, .own 24 _ (.rows false false _)), (5, .own 3 _ (.ints _))] 6 ⟨k, _, _, _, _, _, _, hk, he, hcd, ?_, ?_, f1, f2, ?_, ?_, rfl, rfl, rfl⟩ rfl ⟨trivial, ⟨rfl, rfl, trivial⟩, rfl⟩ rfl <;> omega
  · have ek : (0 + ((k : Int) - 1).toNat) = k - 1 := by omega
    have hkl : k - 1 < l.length := by omega
    have hrw : (l.getD (0 + ((k : Int) - 1).toNat) rowD).xs.length = v.length := hr _ (by rw [ek, getD_in hkl]; exact List.getElem_mem hkl)
    have hls : ∀ c1 c2, Does Tryz.prog 202 [vS 1 1 0 v.length c1, vS 2 1 0 (l.getD (0 + ((k : Int) - 1).toNat) rowD).xs.length c2] [(1, .ro (.ints v)), (2, .ro (.ints (l.getD (0 + ((k : Int) - 1).toNat) rowD).xs))] 3 (Ret (vB (decide (cmpL v (l.getD (0 + ((k : Int) - 1).toNat) rowD).xs < 0))) 3) := fun c1 c2 => by
      have := d_less v (l.getD (0 + ((k : Int) - 1).toNat) rowD).xs 0 0 v.length (l.getD (0 + ((k : Int) - 1).toNat) rowD).xs.length c1 c2 hrw (by omega) (by omega) (by omega) (by omega)
      rw [lessO, subX, subX, List.drop_zero, List.drop_zero, List.take_of_length_le (Nat.le_refl _), List.take_of_length_le (by omega)] at this
      exact this
    have nxt : grV v val l hs (k - 1) → ∀ j, k - 1 ≤ j → j < l.length → grV v val l hs j := fun hg j h1 h2 => by
      by_cases c : j = k - 1
      · rw [c]; exact hg
      · exact he j (by omega) h2
    have hgr : grV v val l hs (k - 1) ↔ (val < hs[k - 1]?.getD 0 ∨ hs[k - 1]?.getD 0 = val ∧ cmpL v (l[k - 1]?.getD rowD).xs < 0) := by simp only [grV, List.getD_eq_getElem?_getD]
    have hlx : l.getD (0 + ((k : Int) - 1).toNat) rowD = l[k - 1]?.getD rowD := by rw [ek, List.getD_eq_getElem?_getD]
    by_cases hA : val < hs[k - 1]?.getD 0
    · ((repeat' (first | refine stx ?_ | refine zqc (hls _ _) ?_ | (refine stq ?_ ?_ <;> (intro hc; ((try simp at hc) <;> try contradiction))) | fail)) <;> try (exfalso; omega))
      exact ⟨[], k - 1, ⟨by omega, nxt (hgr.2 (.inl hA))⟩, by show k - 1 < k; omega, ⟨⟨rfl, rfl, rfl, rfl, congrArg some (congrArg vI (by omega)), trivial⟩, ⟨rfl, rfl, rfl, trivial⟩, rfl⟩⟩
    · by_cases hB : hs[k - 1]?.getD 0 = val
      · by_cases hC : cmpL v (l[k - 1]?.getD rowD).xs < 0
        · rw [hlx, decide_eq_true hC, ← hlx] at hls
          ((repeat' (first | refine stx ?_ | refine zqc (hls _ _) ?_ | (refine stq ?_ ?_ <;> (intro hc; ((try simp at hc) <;> try contradiction))) | fail)) <;> try (exfalso; omega))
          exact ⟨[], k - 1, ⟨by omega, nxt (hgr.2 (.inr ⟨hB, hC⟩))⟩, by show k - 1 < k; omega, ⟨⟨rfl, rfl, rfl, rfl, congrArg some (congrArg vI (by omega)), trivial⟩, ⟨rfl, rfl, rfl, trivial⟩, rfl⟩⟩
        · have hcd : k = 0 ∨ ¬ grV v val l hs (k - 1) := .inr fun h => by
            rcases hgr.1 h with e | ⟨e, e2⟩
            · exact hA e
            · exact hC e2
          rw [hlx, decide_eq_false hC, ← hlx] at hls
          ((repeat' (first | refine stp ?_ | refine zqc (hls _ _) ?_ | (refine stq ?_ ?_ <;> (intro hc; ((try simp at hc) <;> try contradiction))) | fail)) <;> try (exfalso; omega))
          refine awp_held TM [] sb rfl (fun ρs => ?_)
          refine zt1 ?_
          refine zt2 ?_
          refine zt3 ?_
          refine zt5 ?_
          refine zt8 ?_
          refine zt9 ?_
          refine zt10 ?_
          refine w_u [0, 6] kr rfl ⟨?_, ?_, trivial⟩
          first | (refine zho ?_) | (refine zqy ?_; intro cap hcap)
          refine w_u [4, 6] kr rfl ⟨?_, ?_, trivial⟩
          first | (refine zho ?_) | (refine zqy ?_; intro cap hcap)
          refine w_u [6] kr rfl ⟨?_, trivial⟩
          first | (refine zho ?_) | (refine zqy ?_; intro cap hcap)
          refine w_u [7] kr rfl ⟨?_, trivial⟩
          first | (refine zho ?_) | (refine zqy ?_; intro cap hcap)
          refine w_u [11] kr rfl ⟨?_, trivial⟩
          first | (refine zho ?_) | (refine zqy ?_; intro cap hcap)
          refine zt12 ?_
          refine w_v kr ?_
          rotate_left
          first | (refine zho ?_) | (refine zqy ?_; intro cap hcap)
          refine w_u [4] kr rfl ⟨?_, trivial⟩
          first | (refine zho ?_) | (refine zqy ?_; intro cap hcap)
          refine w_u [7] kr rfl ⟨?_, trivial⟩
          first | (refine zho ?_) | (refine zqy ?_; intro cap hcap)
          refine w_u [11] kr rfl ⟨?_, trivial⟩
          first | (refine zho ?_) | (refine zqy ?_; intro cap hcap)
          refine zt12 ?_
          refine w_v kr ?_
          rotate_left
          first | (refine zho ?_) | (refine zqy ?_; intro cap hcap)
          refine w_u [0] kr rfl ⟨?_, trivial⟩
          first | (refine zho ?_) | (refine zqy ?_; intro cap hcap)
          refine w_u [4] kr rfl ⟨?_, trivial⟩
          first | (refine zho ?_) | (refine zqy ?_; intro cap hcap)
          refine w_u [7] kr rfl ⟨?_, trivial⟩
          first | (refine zho ?_) | (refine zqy ?_; intro cap hcap)
          refine w_u [11] kr rfl ⟨?_, trivial⟩
          first | (refine zho ?_) | (refine zqy ?_; intro cap hcap)
          refine zt12 ?_
          refine w_v kr ?_
          rotate_left
          all_goals ((repeat' (first | refine stp ?_ | (refine stq ?_ ?_ <;> (intro hc; ((try simp at hc) <;> try contradiction))) | fail)) <;> try (exfalso; omega))
          all_goals
            refine awp_held TM [] sb rfl (fun ρs => ?_)
            refine zt1 ?_
            refine zt2 ?_
            refine zt3 ?_
            refine zt5 ?_
            refine zt8 ?_
            refine zt9 ?_
            refine zt10 ?_
            refine w_u [0, 6] kr rfl ⟨?_, ?_, trivial⟩
            first | (refine zho ?_) | (refine zqy ?_; intro cap hcap)
            refine w_u [4, 6] kr rfl ⟨?_, ?_, trivial⟩
            first | (refine zho ?_) | (refine zqy ?_; intro cap hcap)
            refine w_u [6] kr rfl ⟨?_, trivial⟩
            first | (refine zho ?_) | (refine zqy ?_; intro cap hcap)
            refine w_u [7] kr rfl ⟨?_, trivial⟩
            first | (refine zho ?_) | (refine zqy ?_; intro cap hcap)
            refine w_u [11] kr rfl ⟨?_, trivial⟩
            first | (refine zho ?_) | (refine zqy ?_; intro cap hcap)
            refine zt12 ?_
            refine w_v kr ?_
            rotate_left
            first | (refine zho ?_) | (refine zqy ?_; intro cap hcap)
            refine w_u [4] kr rfl ⟨?_, trivial⟩
            first | (refine zho ?_) | (refine zqy ?_; intro cap hcap)
            refine w_u [7] kr rfl ⟨?_, trivial⟩
            first | (refine zho ?_) | (refine zqy ?_; intro cap hcap)
            refine w_u [11] kr rfl ⟨?_, trivial⟩
            first | (refine zho ?_) | (refine zqy ?_; intro cap hcap)
            refine zt12 ?_
            refine w_v kr ?_
            rotate_left
            first | (refine zho ?_) | (refine zqy ?_; intro cap hcap)
            refine w_u [0] kr rfl ⟨?_, trivial⟩
            first | (refine zho ?_) | (refine zqy ?_; intro cap hcap)
            refine w_u [4] kr rfl ⟨?_, trivial⟩
            first | (refine zho ?_) | (refine zqy ?_; intro cap hcap)
            refine w_u [7] kr rfl ⟨?_, trivial⟩
            first | (refine zho ?_) | (refine zqy ?_; intro cap hcap)
            refine w_u [11] kr rfl ⟨?_, trivial⟩
            first | (refine zho ?_) | (refine zqy ?_; intro cap hcap)
            refine zt12 ?_
            refine w_v kr ?_
            rotate_left
            all_goals ((first | refine awpL_ghost (Ghost.forget 9 Zz Zz) ?_ | refine awp_ghost (Ghost.forget 9 Zz Zz) ?_ | refine awpH_ghost (Ghost.forget 9 Zz Zz) ?_ | refine awpHop_ghost (Ghost.forget 9 Zz Zz) ?_); rintro _ _ ⟨rfl, rfl⟩)
            all_goals ((repeat' (first | refine stx ?_ | (refine stq ?_ ?_ <;> (intro hc; ((try simp at hc) <;> try contradiction))) | fail)) <;> try (exfalso; omega))
            all_goals refine fin rfl w_3 [(4, 9), (5, 14)] (.tup [.one (.sl 4 1 0 _ _), .one (.sl 5 1 0 _ _)]) [(4, .own 24 _ (.rows false false _)), (5, .own 3 _ (.ints _))] 6 ⟨k, _, _, _, _, _, _, hk, he, hcd, ?_, ?_, f1, f2, ?_, ?_, rfl, rfl, rfl⟩ rfl ⟨trivial, ⟨rfl, rfl, trivial⟩, rfl⟩ rfl <;> omega
      · have hcd : k = 0 ∨ ¬ grV v val l hs (k - 1) := .inr fun h => by
          rcases hgr.1 h with e | ⟨e, e2⟩
          · exact hA e
          · exact hB e
        ((repeat' (first | refine stp ?_ | refine zqc (hls _ _) ?_ | (refine stq ?_ ?_ <;> (intro hc; ((try simp at hc) <;> try contradiction))) | fail)) <;> try (exfalso; omega))
        refine awp_held TM [] sb rfl (fun ρs => ?_)
        refine zt1 ?_
        refine zt2 ?_
        refine zt3 ?_
        refine zt5 ?_
        refine zt8 ?_
        refine zt9 ?_
        refine zt10 ?_
        refine w_u [0, 6] kr rfl ⟨?_, ?_, trivial⟩
        first | (refine zho ?_) | (refine zqy ?_; intro cap hcap)
        refine w_u [4, 6] kr rfl ⟨?_, ?_, trivial⟩
        first | (refine zho ?_) | (refine zqy ?_; intro cap hcap)
        refine w_u [6] kr rfl ⟨?_, trivial⟩
        first | (refine zho ?_) | (refine zqy ?_; intro cap hcap)
        refine w_u [7] kr rfl ⟨?_, trivial⟩
        first | (refine zho ?_) | (refine zqy ?_; intro cap hcap)
        refine w_u [11] kr rfl ⟨?_, trivial⟩
        first | (refine zho ?_) | (refine zqy ?_; intro cap hcap)
        refine zt12 ?_
        refine w_v kr ?_
        rotate_left
        first | (refine zho ?_) | (refine zqy ?_; intro cap hcap)
        refine w_u [4] kr rfl ⟨?_, trivial⟩
        first | (refine zho ?_) | (refine zqy ?_; intro cap hcap)
        refine w_u [7] kr rfl ⟨?_, trivial⟩
        first | (refine zho ?_) | (refine zqy ?_; intro cap hcap)
        refine w_u [11] kr rfl ⟨?_, trivial⟩
        first | (refine zho ?_) | (refine zqy ?_; intro cap hcap)
        refine zt12 ?_
        refine w_v kr ?_
        rotate_left
        first | (refine zho ?_) | (refine zqy ?_; intro cap hcap)
        refine w_u [0] kr rfl ⟨?_, trivial⟩
        first | (refine zho ?_) | (refine zqy ?_; intro cap hcap)
        refine w_u [4] kr rfl ⟨?_, trivial⟩
        first | (refine zho ?_) | (refine zqy ?_; intro cap hcap)
        refine w_u [7] kr rfl ⟨?_, trivial⟩
        first | (refine zho ?_) | (refine zqy ?_; intro cap hcap)
        refine w_u [11] kr rfl ⟨?_, trivial⟩
        first | (refine zho ?_) | (refine zqy ?_; intro cap hcap)
        refine zt12 ?_
        refine w_v kr ?_
        rotate_left
        all_goals ((repeat' (first | refine stp ?_ | (refine stq ?_ ?_ <;> (intro hc; ((try simp at hc) <;> try contradiction))) | fail)) <;> try (exfalso; omega))
        all_goals
          refine awp_held TM [] sb rfl (fun ρs => ?_)
          refine zt1 ?_
          refine zt2 ?_
          refine zt3 ?_
          refine zt5 ?_
          refine zt8 ?_
          refine zt9 ?_
          refine zt10 ?_
          refine w_u [0, 6] kr rfl ⟨?_, ?_, trivial⟩
          first | (refine zho ?_) | (refine zqy ?_; intro cap hcap)
          refine w_u [4, 6] kr rfl ⟨?_, ?_, trivial⟩
          first | (refine zho ?_) | (refine zqy ?_; intro cap hcap)
          refine w_u [6] kr rfl ⟨?_, trivial⟩
          first | (refine zho ?_) | (refine zqy ?_; intro cap hcap)
          refine w_u [7] kr rfl ⟨?_, trivial⟩
          first | (refine zho ?_) | (refine zqy ?_; intro cap hcap)
          refine w_u [11] kr rfl ⟨?_, trivial⟩
          first | (refine zho ?_) | (refine zqy ?_; intro cap hcap)
          refine zt12 ?_
          refine w_v kr ?_
          rotate_left
          first | (refine zho ?_) | (refine zqy ?_; intro cap hcap)
          refine w_u [4] kr rfl ⟨?_, trivial⟩
          first | (refine zho ?_) | (refine zqy ?_; intro cap hcap)
          refine w_u [7] kr rfl ⟨?_, trivial⟩
          first | (refine zho ?_) | (refine zqy ?_; intro cap hcap)
          refine w_u [11] kr rfl ⟨?_, trivial⟩
          first | (refine zho ?_) | (refine zqy ?_; intro cap hcap)
          refine zt12 ?_
          refine w_v kr ?_
          rotate_left
          first | (refine zho ?_) | (refine zqy ?_; intro cap hcap)
          refine w_u [0] kr rfl ⟨?_, trivial⟩
          first | (refine zho ?_) | (refine zqy ?_; intro cap hcap)
          refine w_u [4] kr rfl ⟨?_, trivial⟩
          first | (refine zho ?_) | (refine zqy ?_; intro cap hcap)
          refine w_u [7] kr rfl ⟨?_, trivial⟩
          first | (refine zho ?_) | (refine zqy ?_; intro cap hcap)
          refine w_u [11] kr rfl ⟨?_, trivial⟩
          first | (refine zho ?_) | (refine zqy ?_; intro cap hcap)
          refine zt12 ?_
          refine w_v kr ?_
          rotate_left
          all_goals ((first | refine awpL_ghost (Ghost.forget 8 Zz Zz) ?_ | refine awp_ghost (Ghost.forget 8 Zz Zz) ?_ | refine awpH_ghost (Ghost.forget 8 Zz Zz) ?_ | refine awpHop_ghost (Ghost.forget 8 Zz Zz) ?_); rintro _ _ ⟨rfl, rfl⟩)
          all_goals ((repeat' (first | refine stx ?_ | (refine stq ?_ ?_ <;> (intro hc; ((try simp at hc) <;> try contradiction))) | fail)) <;> try (exfalso; omega))
          all_goals refine fin rfl w_3 [(4, 8), (5, 13)] (.tup [.one (.sl 4 1 0 _ _), .one (.sl 5 1 0 _ _)]) [(4, .own 24 _ (.rows false false _)), (5, .own 3 _ (.ints _))] 6 ⟨k, _, _, _, _, _, _, hk, he, hcd, ?_, ?_, f1, f2, ?_, ?_, rfl, rfl, rfl⟩ rfl ⟨trivial, ⟨rfl, rfl, trivial⟩, rfl⟩ rfl <;> omega
end Go.Proofs.YtekpamojojfplaaGreat
namespace Go.Proofs.YtekpamojojfplaaGreat
open Go.RowKit
theorem grV_iff {v y : List Int} {val h : Int} : (val < h ∨ h = val ∧ cmpL v y < 0) ↔ 0 < cmpV (y, h) (v, val) := by
  rw [← cmpV_neg]
  unfold cmpV
  dsimp only
  by_cases e : val = h
  · rw [if_neg (by omega)]; omega
  · rw [if_pos e]; omega
theorem zip_at {l : List Row} {hs : List Int} (hh : hs.length = l.length) {j : Nat} (hj : j < l.length) : ((l.map Row.xs).zip hs).getD j ([], 0) = ((l.getD j rowD).xs, hs.getD j 0) := by
  rw [getD_in (by simp [hh]; exact hj), getD_in hj, getD_in (by omega)]; simp
theorem zip_take : ∀ (k : Nat) (l : List (List Int)) (hs : List Int), (l.take k).zip (hs.take k) = (l.zip hs).take k
  | 0, _, _ => by simp
  | k + 1, [], _ => by simp
  | k + 1, _ :: _, [] => by simp
  | k + 1, x :: l, h :: hs => by simp [zip_take k l hs]
theorem zip_drop : ∀ (k : Nat) (l : List (List Int)) (hs : List Int), (l.drop k).zip (hs.drop k) = (l.zip hs).drop k
  | 0, _, _ => by simp
  | k + 1, [], _ => by simp
  | k + 1, _ :: _, [] => by simp
  | k + 1, x :: l, h :: hs => by simp [zip_drop k l hs]
theorem put_zip {l : List Row} {hs : List Int} {r : Row} {val : Int} {k : Nat} (hh : hs.length = l.length) (hk : k ≤ l.length) (h1 : ∀ j, k ≤ j → j < l.length → grV r.xs val l hs j) (h2 : k = 0 ∨ ¬ grV r.xs val l hs (k - 1)) :
    ((l.take k ++ r :: l.drop k).map Row.xs).zip (hs.take k ++ val :: hs.drop k) = putV ((l.map Row.xs).zip hs) (r.xs, val) := by
  have hlen : ((l.map Row.xs).zip hs).length = l.length := by simp [hh]
  rw [putV_at (k := k) (by omega) (fun j a b => by rw [zip_at hh (by omega)]; exact grV_iff.1 (h1 j a (by omega))) (by
    rcases h2 with h2 | h2
    · exact .inl h2
    · by_cases e : k = 0
      · exact .inl e
      · right
        rw [zip_at hh (by omega)]
        exact fun h => h2 (grV_iff.2 h))]
  rw [List.map_append, List.map_cons, List.zip_append (by simp; omega), List.zip_cons_cons, List.map_take, List.map_drop, zip_take, zip_drop]
end Go.Proofs.YtekpamojojfplaaGreat
