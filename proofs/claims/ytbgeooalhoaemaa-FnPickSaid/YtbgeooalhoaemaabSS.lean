/-
  CONTRACTS: rows compared, marked and looked at by the laws.
-/
import Derived.Test.YtbgeooalhoaemaaAm10
import Derived.Test.YtbgeooalhoaemaabSlice
import Derived.Test.YtbgeooalhoaemaabBox
set_option linter.unusedVariables false
set_option linter.unusedSimpArgs false
namespace Go.Proofs.Ytbgeooalhoaemaa
open Go.RowKit

def rowsN (l : List Row) : Prop := l.length ≤ 1000000 ∧ ∀ r ∈ l, r.xs.length ≤ 1000000
theorem rowsN_at {l : List Row} (h : rowsN l) (j : Nat) : (l.getD j rowD).xs.length ≤ 1000000 := by
  rw [List.getD_eq_getElem?_getD]
  cases c : l[j]? with
  | none => simp [rowD]
  | some r => exact h.2 r (List.mem_of_getElem? c)
theorem getD_row' {l : List Row} {j : Nat} (h : j < l.length) : l.getD (0 + (j : Int).toNat) rowD = l[j] := by simp [h]
theorem rows_ne {l l' : List Row} {k : Nat} (hk : k < l.length) (hk' : k < l'.length) (hq : decide (l[k].xs = l'[k].xs) = false) : false = decide (rowsX l = rowsX l') := by
  symm; apply decide_eq_false; intro e
  refine of_decide_eq_false hq ?_
  have := congrArg (fun x => x[k]?) e
  simpa [rowsX, hk, hk'] using this
theorem rows_next {l l' : List Row} {k : Nat} (hk : k < l.length) (hk' : k < l'.length) (h2 : rowsX (l.take k) = rowsX (l'.take k)) (hq : decide (l[k].xs = l'[k].xs) = true) : rowsX (l.take (k + 1)) = rowsX (l'.take (k + 1)) := by
  rw [List.take_succ_eq_append_getElem hk, List.take_succ_eq_append_getElem hk']
  have := of_decide_eq_true hq
  simp only [rowsX, List.map_append, List.map_cons, List.map_nil] at h2 ⊢
  rw [h2, this]
set_option maxHeartbeats 1000000 in
theorem d_eqSS (l l' : List Row) (c d : Nat) (hl : rowsN l) (hl' : rowsN l') : Does Try.prog 46 [vS 1 1 0 l.length c, vS 2 1 0 l'.length d] [(1, .ro (.rows false true l)), (2, .ro (.rows false true l'))] 3 (Ret (vB (decide (rowsX l = rowsX l'))) 3) := by
  refine Does.intro TT Try.func46 rfl (by kernel_rfl) rfl rfl fun E hE => ?_
  have hl1 := hl.1
  have hl2 := hl'.1
  by_cases hn : l.length = l'.length
  · ((repeat' (first | (refine awpL_step TT rfl rfl rfl sd ?_) | (refine awpL_nil ?_) | (refine awpL_skip rfl rfl ?_) | (refine awpQ_step TT rfl rfl rfl rfl sd ?_) | (refine awpQ_nil ?_) | (refine awpQ_skip rfl rfl ?_) | (refine awp_seq ?_) | (refine awp_region ?_) | (refine awp_block ?_) | (refine awp_exit ?_) | (refine awp_skip ?_) | (refine awp_ret ?_) | (refine awp_cond_t rfl ?_) | (refine awp_cond_f rfl ?_) | (refine awp_quiet TM rfl (by kernel_rfl) ?_) | ((first | refine awpL_split rfl rfl rfl (fun hc => ?_) (fun hc => ?_) | refine awpQ_split rfl rfl rfl (fun hc => ?_) (fun hc => ?_) | refine awp_cond rfl (fun hc => ?_) (fun hc => ?_)) <;> ((try simp at hc) <;> try contradiction)))) <;> try (exfalso; omega))
    refine awp_loop hE (fun k : Nat => k ≤ l.length ∧ rowsX (l.take k) = rowsX (l'.take k)) (fun k => l.length - k)
      (fun k => [(0, vS 1 1 0 l.length c), (1, vS 2 1 0 l'.length d), (5, vI k)]) (fun _ => [(1, .ro (.rows false true l)), (2, .ro (.rows false true l'))]) 3 [] 0 ⟨Nat.zero_le _, rfl⟩ ⟨(by repeat' (first | exact trivial | refine ⟨rfl, ?_⟩ | refine ⟨congrArg some (congrArg vI (by first | omega | (simp; done) | (simp; omega))), ?_⟩ | refine ⟨sl_eqA (by first | omega | (simp; done) | (simp; omega)), ?_⟩)), (by repeat' (first | exact trivial | refine ⟨rfl, ?_⟩)), rfl⟩ ?_
    rintro k ⟨h1, h2⟩
    by_cases hk : k < l.length
    · have hk' : k < l'.length := by omega
      have n1 := rowsN_at hl (0 + (k : Int).toNat)
      have n2 := rowsN_at hl' (0 + (k : Int).toNat)
      have he := fun c d => d_eqIntS (l.getD (0 + (k : Int).toNat) rowD).xs (l'.getD (0 + (k : Int).toNat) rowD).xs c d (by omega) (by omega)
      have hb : decide ((l.getD (0 + (k : Int).toNat) rowD).xs = (l'.getD (0 + (k : Int).toNat) rowD).xs) = decide (l[k].xs = l'[k].xs) := by rw [getD_row' hk, getD_row' hk']
      rw [hb] at he
      cases hq : decide (l[k].xs = l'[k].xs)
      all_goals
        rw [hq] at he
        ((repeat' (first | (refine awpL_step TT rfl rfl rfl sd ?_) | (refine awpL_nil ?_) | (refine awpL_skip rfl rfl ?_) | (refine awpQ_step TT rfl rfl rfl rfl sd ?_) | (refine awpQ_nil ?_) | (refine awpQ_skip rfl rfl ?_) | (refine awp_seq ?_) | (refine awp_region ?_) | (refine awp_block ?_) | (refine awp_exit ?_) | (refine awp_skip ?_) | (refine awp_ret ?_) | (refine awp_cond_t rfl ?_) | (refine awp_cond_f rfl ?_) | ((first | refine awpL_split rfl rfl rfl (fun hc => ?_) (fun hc => ?_) | refine awpQ_split rfl rfl rfl (fun hc => ?_) (fun hc => ?_) | refine awp_cond rfl (fun hc => ?_) (fun hc => ?_)) <;> ((try simp at hc) <;> try contradiction)))) <;> try (exfalso; omega))
        refine awp_held TM [] sb rfl (fun ρs => ?_)
        refine awpH_take TT 0 rfl kr kr kr nh rfl rfl rfl rfl sd ?_
        refine awpH_take TT 1 rfl kr kr kr nh rfl rfl rfl rfl sd ?_
        first | (refine awpH_take TT 2 rfl kr kr kr nh rfl rfl rfl rfl sd ?_) | (refine awpH_idx TT 2 rfl kr kr kr nh rfl rfl rfl rfl rfl sd ?_)
        refine awpH_take TT 4 rfl kr kr kr nh rfl rfl rfl rfl sd ?_
        refine awpH_take TT 5 rfl kr kr kr nh rfl rfl rfl rfl sd ?_
        first | (refine awpH_take TT 6 rfl kr kr kr nh rfl rfl rfl rfl sd ?_) | (refine awpH_idx TT 6 rfl kr kr kr nh rfl rfl rfl rfl rfl sd ?_)
        refine awpH_all [3, 7] kr rfl ⟨?_, ?_, trivial⟩
        first | (refine awpHop_step TT 3 rfl rfl rfl rfl sd sb rfl ?_) | (first | refine awpL_ret (he _ _) rfl rfl rfl rfl rfl rfl rfl rfl ft rfl rfl ?_ | refine awpQ_ret (he _ _) rfl rfl rfl rfl rfl rfl rfl rfl ft rfl rfl ?_ | refine awpHop_ret _ (he _ _) rfl rfl rfl rfl rfl rfl rfl rfl rfl ft rfl rfl sb rfl ?_)
        refine awpH_all [7] kr rfl ⟨?_, trivial⟩
        first | (refine awpHop_step TT 7 rfl rfl rfl rfl sd sb rfl ?_) | (first | refine awpL_ret (he _ _) rfl rfl rfl rfl rfl rfl rfl rfl ft rfl rfl ?_ | refine awpQ_ret (he _ _) rfl rfl rfl rfl rfl rfl rfl rfl ft rfl rfl ?_ | refine awpHop_ret _ (he _ _) rfl rfl rfl rfl rfl rfl rfl rfl rfl ft rfl rfl sb rfl ?_)
        refine awpH_all [8] kr rfl ⟨?_, trivial⟩
        first | (refine awpHop_step TT 8 rfl rfl rfl rfl sd sb rfl ?_) | (first | refine awpL_ret (he _ _) rfl rfl rfl rfl rfl rfl rfl rfl ft rfl rfl ?_ | refine awpQ_ret (he _ _) rfl rfl rfl rfl rfl rfl rfl rfl ft rfl rfl ?_ | refine awpHop_ret _ (he _ _) rfl rfl rfl rfl rfl rfl rfl rfl rfl ft rfl rfl sb rfl ?_)
        refine awpH_take TT 9 rfl kr kr kr nh rfl rfl rfl rfl sd ?_
        refine awpH_done kr ?_
        rotate_left
        first | (refine awpHop_step TT 7 rfl rfl rfl rfl sd sb rfl ?_) | (first | refine awpL_ret (he _ _) rfl rfl rfl rfl rfl rfl rfl rfl ft rfl rfl ?_ | refine awpQ_ret (he _ _) rfl rfl rfl rfl rfl rfl rfl rfl ft rfl rfl ?_ | refine awpHop_ret _ (he _ _) rfl rfl rfl rfl rfl rfl rfl rfl rfl ft rfl rfl sb rfl ?_)
        refine awpH_all [3] kr rfl ⟨?_, trivial⟩
        first | (refine awpHop_step TT 3 rfl rfl rfl rfl sd sb rfl ?_) | (first | refine awpL_ret (he _ _) rfl rfl rfl rfl rfl rfl rfl rfl ft rfl rfl ?_ | refine awpQ_ret (he _ _) rfl rfl rfl rfl rfl rfl rfl rfl ft rfl rfl ?_ | refine awpHop_ret _ (he _ _) rfl rfl rfl rfl rfl rfl rfl rfl rfl ft rfl rfl sb rfl ?_)
        refine awpH_all [8] kr rfl ⟨?_, trivial⟩
        first | (refine awpHop_step TT 8 rfl rfl rfl rfl sd sb rfl ?_) | (first | refine awpL_ret (he _ _) rfl rfl rfl rfl rfl rfl rfl rfl ft rfl rfl ?_ | refine awpQ_ret (he _ _) rfl rfl rfl rfl rfl rfl rfl rfl ft rfl rfl ?_ | refine awpHop_ret _ (he _ _) rfl rfl rfl rfl rfl rfl rfl rfl rfl ft rfl rfl sb rfl ?_)
        refine awpH_take TT 9 rfl kr kr kr nh rfl rfl rfl rfl sd ?_
        refine awpH_done kr ?_
        rotate_left
        all_goals ((repeat' (first | (refine awpL_step TT rfl rfl rfl sd ?_) | (refine awpL_nil ?_) | (refine awpL_skip rfl rfl ?_) | (refine awpQ_step TT rfl rfl rfl rfl sd ?_) | (refine awpQ_nil ?_) | (refine awpQ_skip rfl rfl ?_) | (refine awp_seq ?_) | (refine awp_region ?_) | (refine awp_block ?_) | (refine awp_exit ?_) | (refine awp_skip ?_) | (refine awp_ret ?_) | (refine awp_cond_t rfl ?_) | (refine awp_cond_f rfl ?_) | (refine awp_quiet TM rfl (by kernel_rfl) ?_) | ((first | refine awpL_split rfl rfl rfl (fun hc => ?_) (fun hc => ?_) | refine awpQ_split rfl rfl rfl (fun hc => ?_) (fun hc => ?_) | refine awp_cond rfl (fun hc => ?_) (fun hc => ?_)) <;> ((try simp at hc) <;> try contradiction)))) <;> try (exfalso; omega))
      all_goals first | (refine fin_ret rfl (by repeat' (first | exact trivial | exact Nat.zero_lt_one | omega | refine ⟨?_, ?_⟩)) (congrArg vB (rows_ne hk hk' hq)) rfl) | (exact ⟨[], k + 1, ⟨hk, rows_next hk hk' h2 hq⟩, (by first | omega | (dsimp only; omega)), ⟨(by repeat' (first | exact trivial | refine ⟨rfl, ?_⟩ | refine ⟨congrArg some (congrArg vI (by first | omega | (simp; done) | (simp; omega))), ?_⟩ | refine ⟨sl_eqA (by first | omega | (simp; done) | (simp; omega)), ?_⟩)), (by repeat' (first | exact trivial | refine ⟨rfl, ?_⟩)), rfl⟩⟩)
    · ((repeat' (first | (refine awpL_step TT rfl rfl rfl sd ?_) | (refine awpL_nil ?_) | (refine awpL_skip rfl rfl ?_) | (refine awpQ_step TT rfl rfl rfl rfl sd ?_) | (refine awpQ_nil ?_) | (refine awpQ_skip rfl rfl ?_) | (refine awp_seq ?_) | (refine awp_region ?_) | (refine awp_block ?_) | (refine awp_exit ?_) | (refine awp_skip ?_) | (refine awp_ret ?_) | (refine awp_cond_t rfl ?_) | (refine awp_cond_f rfl ?_) | (refine awp_quiet TM rfl (by kernel_rfl) ?_) | ((first | refine awpL_split rfl rfl rfl (fun hc => ?_) (fun hc => ?_) | refine awpQ_split rfl rfl rfl (fun hc => ?_) (fun hc => ?_) | refine awp_cond rfl (fun hc => ?_) (fun hc => ?_)) <;> ((try simp at hc) <;> try contradiction)))) <;> try (exfalso; omega))
      refine fin_ret rfl (by repeat' (first | exact trivial | exact Nat.zero_lt_one | omega | refine ⟨?_, ?_⟩)) (congrArg vB ?_) rfl
      rw [List.take_of_length_le (by omega), List.take_of_length_le (by omega)] at h2
      simp [h2]
  · ((repeat' (first | (refine awpL_step TT rfl rfl rfl sd ?_) | (refine awpL_nil ?_) | (refine awpL_skip rfl rfl ?_) | (refine awpQ_step TT rfl rfl rfl rfl sd ?_) | (refine awpQ_nil ?_) | (refine awpQ_skip rfl rfl ?_) | (refine awp_seq ?_) | (refine awp_region ?_) | (refine awp_block ?_) | (refine awp_exit ?_) | (refine awp_skip ?_) | (refine awp_ret ?_) | (refine awp_cond_t rfl ?_) | (refine awp_cond_f rfl ?_) | (refine awp_quiet TM rfl (by kernel_rfl) ?_) | ((first | refine awpL_split rfl rfl rfl (fun hc => ?_) (fun hc => ?_) | refine awpQ_split rfl rfl rfl (fun hc => ?_) (fun hc => ?_) | refine awp_cond rfl (fun hc => ?_) (fun hc => ?_)) <;> ((try simp at hc) <;> try contradiction)))) <;> try (exfalso; omega))
    refine fin_ret rfl (by repeat' (first | exact trivial | exact Nat.zero_lt_one | omega | refine ⟨?_, ?_⟩)) (congrArg vB ?_) rfl
    symm; apply decide_eq_false; intro e
    exact hn (by have := congrArg List.length e; simpa [rowsX] using this)
def totR (l : List Row) : Nat := (l.map fun r => r.xs.length).sum
theorem totR_next {l : List Row} {i : Nat} (h : i < l.length) : totR (l.take (i + 1)) = totR (l.take i) + l[i].xs.length := by
  rw [List.take_succ_eq_append_getElem h]; simp only [totR, List.map_append, List.map_cons, List.map_nil, List.sum_append, List.sum_cons, List.sum_nil]; omega
@[simp] theorem totR_nil : totR [] = 0 := rfl
theorem sum_bd {l : List Row} {c : Nat} (h : ∀ r ∈ l, r.xs.length ≤ c) : totR l ≤ l.length * c := by
  induction l with
  | nil => simp [totR]
  | cons r l ih =>
    have h1 := h r (by simp)
    have h2 := ih fun r hr => h r (by simp [hr])
    simp only [totR, List.map_cons, List.sum_cons, List.length_cons, Nat.succ_mul] at h2 ⊢
    omega
theorem totR_le {l : List Row} (h : rowsN l) (i : Nat) : totR (l.take i) ≤ 1000000000000 := by
  have h1 : totR (l.take i) ≤ (l.take i).length * 1000000 := sum_bd fun r hr => h.2 r (List.mem_of_mem_take hr)
  have h2 : (l.take i).length ≤ 1000000 := Nat.le_trans (List.length_take_le' i l) h.1
  have : (l.take i).length * 1000000 ≤ 1000000 * 1000000 := Nat.mul_le_mul_right _ h2
  omega
def markRows (k : Int) : List Row → List Row
  | [] => []
  | r :: l => r.put (marks k r.xs.length) :: markRows (k + r.xs.length) l
theorem markRows_len {l : List Row} : ∀ {k : Int}, (markRows k l).length = l.length := by
  induction l with
  | nil => intro k; rfl
  | cons r l ih => intro k; simp [markRows, ih]
theorem markRows_app {l m : List Row} : ∀ {k : Int}, markRows k (l ++ m) = markRows k l ++ markRows (k + (totR l : Nat)) m := by
  induction l with
  | nil => intro k; simp [markRows, totR]
  | cons r l ih =>
    intro k
    simp only [List.cons_append, markRows, ih, totR, List.map_cons, List.sum_cons]
    congr 3
    push_cast
    omega
theorem markRows_next {l : List Row} {k : Int} {i : Nat} (h : i < l.length) : markRows k (l.take (i + 1)) = markRows k (l.take i) ++ [l[i].put (marks (k + (totR (l.take i) : Nat)) l[i].xs.length)] := by
  rw [List.take_succ_eq_append_getElem h, markRows_app]; rfl
theorem markRows_at {l : List Row} {k : Int} {i : Nat} (h : i < l.length) : (markRows k l)[i]'(by rw [markRows_len]; exact h) = l[i].put (marks (k + (totR (l.take i) : Nat)) l[i].xs.length) := by
  have e : markRows k l = markRows k (l.take (i + 1)) ++ markRows (k + (totR (l.take (i + 1)) : Nat)) (l.drop (i + 1)) := by rw [← markRows_app, List.take_append_drop]
  have h1 : (markRows k (l.take i)).length = i := by rw [markRows_len, List.length_take]; omega
  simp only [e, markRows_next h]
  rw [List.getElem_append_left (by simp [h1]), List.getElem_append_right (by omega)]
  simp [h1]
theorem marks_length {k : Int} {n : Nat} : (marks k n).length = n := by simp
theorem markRows_xs {l : List Row} {k : Int} : (markRows k l).map (fun r => r.xs.length) = l.map fun r => r.xs.length := by
  induction l generalizing k with
  | nil => rfl
  | cons r l ih => simp [markRows, ih, Row.put]
theorem markRows_tot {l : List Row} {k : Int} {i : Nat} : totR ((markRows k l).take i) = totR (l.take i) := by
  simp only [totR, List.map_take, markRows_xs]
theorem markRows_N {l : List Row} {k : Int} (h : rowsN l) : rowsN (markRows k l) := by
  refine ⟨by rw [markRows_len]; exact h.1, fun r hr => ?_⟩
  have : r.xs.length ∈ (markRows k l).map fun r => r.xs.length := List.mem_map.2 ⟨r, hr, rfl⟩
  rw [markRows_xs] at this
  obtain ⟨r', hr', e⟩ := List.mem_map.1 this
  rw [← e]; exact h.2 r' hr'
theorem markRows_hd {l : List Row} {k : Int} : (markRows k l).flatMap (svR false) = l.flatMap (svR false) := by
  induction l generalizing k with
  | nil => rfl
  | cons r l ih => simp [markRows, ih, svR, Row.hd, Row.put]
theorem d_heldX (xs : List Int) (c : Nat) (k : Int) (h : xs = marks k xs.length) (hl : xs.length ≤ 1099511627776) (hk : 0 ≤ k) (hk' : k ≤ 4611686018427387904) : Does Try.prog 43 [vS 1 1 0 xs.length c, vI k] [(1, .ro (.ints xs))] 2 (Ret (vI (k + xs.length)) 2) := by
  have := d_heldIntS xs.length c k hl hk hk'
  rwa [← h] at this
set_option maxHeartbeats 1000000 in
theorem d_heldSS (l0 : List Row) (c n : Nat) (k : Int) (hn : n = (markRows k l0).length) (hl : rowsN l0) (hk : 0 ≤ k) (hk' : k ≤ 1000000000000) : Does Try.prog 48 [vS 1 1 0 n c, vI k] [(1, .ro (.rows false true (markRows k l0)))] 2 (Ret (vI (k + (totR l0 : Nat))) 2) := by
  subst hn
  refine Does.intro TT Try.func48 rfl (by kernel_rfl) rfl rfl fun E hE => ?_
  have hN := markRows_N (k := k) hl
  have hat : ∀ i (h : i < l0.length), (markRows k l0).getD (0 + (i : Int).toNat) rowD = l0[i].put (marks (k + (totR (l0.take i) : Nat)) l0[i].xs.length) := fun i h => by
    rw [← markRows_at h, getD_row' (by rw [markRows_len]; exact h)]
  have hml := markRows_len (l := l0) (k := k)
  have hN1 := hN.1
  generalize hL : markRows k l0 = L at *
  ((repeat' (first | (refine awpL_step TT rfl rfl rfl sd ?_) | (refine awpL_nil ?_) | (refine awpL_skip rfl rfl ?_) | (refine awpQ_step TT rfl rfl rfl rfl sd ?_) | (refine awpQ_nil ?_) | (refine awpQ_skip rfl rfl ?_) | (refine awp_seq ?_) | (refine awp_region ?_) | (refine awp_block ?_) | (refine awp_exit ?_) | (refine awp_skip ?_) | (refine awp_ret ?_) | (refine awp_cond_t rfl ?_) | (refine awp_cond_f rfl ?_) | (refine awp_quiet TM rfl (by kernel_rfl) ?_) | ((first | refine awpL_split rfl rfl rfl (fun hc => ?_) (fun hc => ?_) | refine awpQ_split rfl rfl rfl (fun hc => ?_) (fun hc => ?_) | refine awp_cond rfl (fun hc => ?_) (fun hc => ?_)) <;> ((try simp at hc) <;> try contradiction)))) <;> try (exfalso; omega))
  refine awp_loop hE (fun i : Nat => i ≤ L.length) (fun i => L.length - i)
    (fun i => [(0, vS 1 1 0 L.length c), (1, vI (k + (totR (l0.take i) : Nat))), (5, vI i)]) (fun _ => [(1, .ro (.rows false true L))]) 2 [] 0 (Nat.zero_le _) ⟨(by repeat' (first | exact trivial | refine ⟨rfl, ?_⟩ | refine ⟨congrArg some (congrArg vI (by first | omega | (simp; done) | (simp; omega))), ?_⟩ | refine ⟨sl_eqA (by first | omega | (simp; done) | (simp; omega)), ?_⟩)), (by repeat' (first | exact trivial | refine ⟨rfl, ?_⟩)), rfl⟩ ?_
  intro i hi
  have ht := totR_le hl i
  by_cases hil : i < L.length
  · have hi0 : i < l0.length := by omega
    have hx := hat i hi0
    have e1 : (L.getD (0 + (i : Int).toNat) rowD).xs.length = l0[i].xs.length := by rw [hx]; simp [Row.put]
    have b1 := rowsN_at hN (0 + (i : Int).toNat)
    have hd := fun c => d_heldX (L.getD (0 + (i : Int).toNat) rowD).xs c (k + (totR (l0.take i) : Nat)) (by rw [hx]; simp [Row.put]) (by omega) (by omega) (by omega)
    have e2 := totR_next hi0
    ((repeat' (first | (refine awpL_step TT rfl rfl rfl sd ?_) | (refine awpL_nil ?_) | (refine awpL_skip rfl rfl ?_) | (refine awpQ_step TT rfl rfl rfl rfl sd ?_) | (refine awpQ_nil ?_) | (refine awpQ_skip rfl rfl ?_) | (refine awp_seq ?_) | (refine awp_region ?_) | (first | refine awpL_ret (hd _) rfl rfl rfl rfl rfl rfl rfl rfl ft rfl rfl ?_ | refine awpQ_ret (hd _) rfl rfl rfl rfl rfl rfl rfl rfl ft rfl rfl ?_ | refine awpHop_ret _ (hd _) rfl rfl rfl rfl rfl rfl rfl rfl rfl ft rfl rfl sb rfl ?_) | (refine awp_block ?_) | (refine awp_exit ?_) | (refine awp_skip ?_) | (refine awp_ret ?_) | (refine awp_cond_t rfl ?_) | (refine awp_cond_f rfl ?_) | (refine awp_quiet TM rfl (by kernel_rfl) ?_) | ((first | refine awpL_split rfl rfl rfl (fun hc => ?_) (fun hc => ?_) | refine awpQ_split rfl rfl rfl (fun hc => ?_) (fun hc => ?_) | refine awp_cond rfl (fun hc => ?_) (fun hc => ?_)) <;> ((try simp at hc) <;> try contradiction)))) <;> try (exfalso; omega))
    exact ⟨[], i + 1, hil, (by first | omega | (dsimp only; omega)), ⟨⟨rfl, congrArg some (congrArg vI (by rw [e2, e1]; push_cast; omega)), congrArg some (congrArg vI (by omega)), trivial⟩, ⟨rfl, trivial⟩, rfl⟩⟩
  · have hi2 : l0.take i = l0 := List.take_of_length_le (by omega)
    rw [hi2] at *
    ((repeat' (first | (refine awpL_step TT rfl rfl rfl sd ?_) | (refine awpL_nil ?_) | (refine awpL_skip rfl rfl ?_) | (refine awpQ_step TT rfl rfl rfl rfl sd ?_) | (refine awpQ_nil ?_) | (refine awpQ_skip rfl rfl ?_) | (refine awp_seq ?_) | (refine awp_region ?_) | (refine awp_block ?_) | (refine awp_exit ?_) | (refine awp_skip ?_) | (refine awp_ret ?_) | (refine awp_cond_t rfl ?_) | (refine awp_cond_f rfl ?_) | (refine awp_quiet TM rfl (by kernel_rfl) ?_) | ((first | refine awpL_split rfl rfl rfl (fun hc => ?_) (fun hc => ?_) | refine awpQ_split rfl rfl rfl (fun hc => ?_) (fun hc => ?_) | refine awp_cond rfl (fun hc => ?_) (fun hc => ?_)) <;> ((try simp at hc) <;> try contradiction)))) <;> try (exfalso; omega))
    refine fin_ret rfl (by repeat' (first | exact trivial | exact Nat.zero_lt_one | omega | refine ⟨?_, ?_⟩)) (rfl) rfl
def MarksSS (k : Int) (th t : TypeId) (cap : Nat) (l : List Row) (v : AV) (Hout : List (Nat × Blk)) (n1 : Nat) : Prop := v = vI (k + (totR l : Nat)) ∧ Hout = [(1, .own th cap (.rows false false l)), (2, .tok t false (markRows k l))] ∧ n1 = 3
set_option maxHeartbeats 1000000 in
theorem d_markSS (l : List Row) (c cap : Nat) (k : Int) (hl : rowsN l) (hk : 0 ≤ k) (hk' : k ≤ 1000000000000) : Does Try.prog 47 [vS 1 1 0 l.length c, vI k] [(1, .own 22 cap (.rows false false l)), (2, .tok 3 false l)] 3 (MarksSS k 22 3 cap l) := by
  refine Does.intro TT Try.func47 rfl (by kernel_rfl) rfl rfl fun E hE => ?_
  have hl1 := hl.1
  ((repeat' (first | (refine awpL_step TT rfl rfl rfl sd ?_) | (refine awpL_nil ?_) | (refine awpL_skip rfl rfl ?_) | (refine awpQ_step TT rfl rfl rfl rfl sd ?_) | (refine awpQ_nil ?_) | (refine awpQ_skip rfl rfl ?_) | (refine awp_seq ?_) | (refine awp_region ?_) | (refine awp_block ?_) | (refine awp_exit ?_) | (refine awp_skip ?_) | (refine awp_ret ?_) | (refine awp_cond_t rfl ?_) | (refine awp_cond_f rfl ?_) | (refine awp_quiet TM rfl (by kernel_rfl) ?_) | ((first | refine awpL_split rfl rfl rfl (fun hc => ?_) (fun hc => ?_) | refine awpQ_split rfl rfl rfl (fun hc => ?_) (fun hc => ?_) | refine awp_cond rfl (fun hc => ?_) (fun hc => ?_)) <;> ((try simp at hc) <;> try contradiction)))) <;> try (exfalso; omega))
  refine awp_loop hE (fun i : Nat => i ≤ l.length) (fun i => l.length - i)
    (fun i => [(0, vS 1 1 0 l.length c), (1, vI (k + (totR (l.take i) : Nat))), (5, vI i)]) (fun i => [(1, .own 22 cap (.rows false false l)), (2, .tok 3 false (markRows k (l.take i) ++ l.drop i))]) 3 [] 0 (Nat.zero_le _) ⟨(by repeat' (first | exact trivial | refine ⟨rfl, ?_⟩ | refine ⟨congrArg some (congrArg vI (by first | omega | (simp; done) | (simp; omega))), ?_⟩ | refine ⟨sl_eqA (by first | omega | (simp; done) | (simp; omega)), ?_⟩)), (by repeat' (first | exact trivial | refine ⟨rfl, ?_⟩)), rfl⟩ ?_
  intro i hi
  have ht := totR_le hl i
  by_cases hil : i < l.length
  · have b1 := rowsN_at hl (0 + (i : Int).toNat)
    have hx := getD_row' hil
    have hd := d_markIntS (l.getD (0 + (i : Int).toNat) rowD).xs (l.getD (0 + (i : Int).toNat) rowD).cap (l.getD (0 + (i : Int).toNat) rowD).cap (k + (totR (l.take i) : Nat)) (by omega) (by omega) (by omega)
    have e2 := totR_next hil
    have ed : l.drop i = l.getD (0 + (i : Int).toNat) rowD :: l.drop (i + 1) := by rw [hx]; exact List.drop_eq_getElem_cons hil
    ((repeat' (first | (refine awpL_step TT rfl rfl rfl sd ?_) | (refine awpL_nil ?_) | (refine awpL_skip rfl rfl ?_) | (refine awpQ_step TT rfl rfl rfl rfl sd ?_) | (refine awpQ_nil ?_) | (refine awpQ_skip rfl rfl ?_) | (refine awp_seq ?_) | (refine awp_region ?_) | (refine awp_block ?_) | (refine awp_exit ?_) | (refine awp_skip ?_) | (refine awp_ret ?_) | (refine awp_cond_t rfl ?_) | (refine awp_cond_f rfl ?_) | (refine awp_quiet TM rfl (by kernel_rfl) ?_) | ((first | refine awpL_split rfl rfl rfl (fun hc => ?_) (fun hc => ?_) | refine awpQ_split rfl rfl rfl (fun hc => ?_) (fun hc => ?_) | refine awp_cond rfl (fun hc => ?_) (fun hc => ?_)) <;> ((try simp at hc) <;> try contradiction)))) <;> try (exfalso; omega))
    refine awpL_row 2 (markRows k (l.take i)) (l.drop (i + 1)) (l.getD (0 + (i : Int).toNat) rowD) hd rfl rfl rfl rfl rfl rfl rfl rfl (congrArg (fun x => some (Blk.tok 3 false x)) (by rw [ed])) ?_
    ((repeat' (first | (refine awpL_step TT rfl rfl rfl sd ?_) | (refine awpL_nil ?_) | (refine awpL_skip rfl rfl ?_) | (refine awpQ_step TT rfl rfl rfl rfl sd ?_) | (refine awpQ_nil ?_) | (refine awpQ_skip rfl rfl ?_) | (refine awp_seq ?_) | (refine awp_region ?_) | (refine awp_block ?_) | (refine awp_exit ?_) | (refine awp_skip ?_) | (refine awp_ret ?_) | (refine awp_cond_t rfl ?_) | (refine awp_cond_f rfl ?_) | (refine awp_quiet TM rfl (by kernel_rfl) ?_) | ((first | refine awpL_split rfl rfl rfl (fun hc => ?_) (fun hc => ?_) | refine awpQ_split rfl rfl rfl (fun hc => ?_) (fun hc => ?_) | refine awp_cond rfl (fun hc => ?_) (fun hc => ?_)) <;> ((try simp at hc) <;> try contradiction)))) <;> try (exfalso; omega))
    refine ⟨[], i + 1, hil, (by first | omega | (dsimp only; omega)), ⟨⟨rfl, congrArg some (congrArg vI (by rw [e2, hx]; push_cast; omega)), congrArg some (congrArg vI (by omega)), trivial⟩, ⟨rfl, tok_eqA ?_, trivial⟩, rfl⟩⟩
    rw [markRows_next hil, hx]
    simp
  · have hi2 : l.take i = l := List.take_of_length_le (by omega)
    have hi3 : l.drop i = [] := List.drop_of_length_le (by omega)
    ((repeat' (first | (refine awpL_step TT rfl rfl rfl sd ?_) | (refine awpL_nil ?_) | (refine awpL_skip rfl rfl ?_) | (refine awpQ_step TT rfl rfl rfl rfl sd ?_) | (refine awpQ_nil ?_) | (refine awpQ_skip rfl rfl ?_) | (refine awp_seq ?_) | (refine awp_region ?_) | (refine awp_block ?_) | (refine awp_exit ?_) | (refine awp_skip ?_) | (refine awp_ret ?_) | (refine awp_cond_t rfl ?_) | (refine awp_cond_f rfl ?_) | (refine awp_quiet TM rfl (by kernel_rfl) ?_) | ((first | refine awpL_split rfl rfl rfl (fun hc => ?_) (fun hc => ?_) | refine awpQ_split rfl rfl rfl (fun hc => ?_) (fun hc => ?_) | refine awp_cond rfl (fun hc => ?_) (fun hc => ?_)) <;> ((try simp at hc) <;> try contradiction)))) <;> try (exfalso; omega))
    exact fin rfl (by repeat' (first | exact trivial | exact Nat.zero_lt_one | omega | refine ⟨?_, ?_⟩)) [] (vI (k + (totR (l.take i) : Nat))) [(1, .own 22 cap (.rows false false l)), (2, .tok 3 false (markRows k (l.take i) ++ l.drop i))] 3 (by rw [hi2, hi3, List.append_nil]; exact ⟨rfl, rfl, rfl⟩) rfl ⟨trivial, ⟨rfl, rfl, trivial⟩, rfl⟩ rfl
end Go.Proofs.Ytbgeooalhoaemaa
