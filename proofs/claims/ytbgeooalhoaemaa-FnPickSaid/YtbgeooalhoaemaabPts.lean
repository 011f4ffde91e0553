/-
  CONTRACTS: the points of a body, of both packages.
-/
import Derived.Test.YtbgeooalhoaemaabTimes
import Derived.Test.YtbgeooalhoaemaabConeM
import Derived.Test.YtbgeooalhoaemaabSS
set_option linter.unusedVariables false
set_option linter.unusedSimpArgs false
namespace Go.Proofs.Ytbgeooalhoaemaa
open Go.RowKit

def inTo (p bs : List Int) (i : Nat) : Bool := decide (∀ q, q < i → p.getD q 0 ≤ bs.getD q 0)
theorem inTo_next {p bs : List Int} {i : Nat} : inTo p bs (i + 1) = (inTo p bs i && decide (p.getD i 0 ≤ bs.getD i 0)) := by
  rw [Bool.eq_iff_iff]
  simp only [inTo, decide_eq_true_eq, Bool.and_eq_true]
  constructor
  · intro h; exact ⟨fun q hq => h q (by omega), h i (by omega)⟩
  · rintro ⟨h1, h2⟩ q hq
    rcases Nat.lt_or_ge q i with c | c
    · exact h1 q c
    · obtain rfl : q = i := by omega
      exact h2
theorem inTo_false {p bs : List Int} {i n : Nat} (h : inTo p bs i = false) (hi : i ≤ n) : inTo p bs n = false := by
  cases c : inTo p bs n with
  | false => rfl
  | true =>
    have h2 := of_decide_eq_true c
    have : inTo p bs i = true := decide_eq_true fun q hq => h2 q (by omega)
    rw [h] at this; cases this
def ptIn (r c : Int) (xs bs v : List Int) : Bool := match mulZ r c v.length 1 xs v with
  | some p => inTo p bs p.length
  | none => false
set_option maxRecDepth 100000 in
set_option maxHeartbeats 1000000 in
theorem d_inS (a : Nat) (c : Int) (xs bs v : List Int) (ca cb cv : Nat) (hl : xs.length ≤ 1099511627776) (hb : bs.length = a) (ha : a ≤ 24) (hl' : v.length ≤ 1099511627776) : Does Try.prog 73 [vM a c 1 xs.length ca, vS 2 1 0 bs.length cb, vS 3 1 0 v.length cv] [(1, .ro (.ints xs)), (2, .ro (.ints bs)), (3, .ro (.ints v))] 4 (Ret (vB (ptIn a c xs bs v)) 4) := by
  refine Does.intro TT Try.func73 rfl (by kernel_rfl) rfl rfl fun E hE => ?_
  have ht := d_times a c xs v ca cv hl hl'
  cases hm : mulZ a c v.length 1 xs v with
  | none =>
    have hs : ptIn a c xs bs v = false := by simp [ptIn, hm]
    rw [hm] at ht
    ((repeat' (first | (refine awpL_step TT rfl rfl rfl sd ?_) | (refine awpL_nil ?_) | (refine awpL_skip rfl rfl ?_) | (refine awpQ_step TT rfl rfl rfl rfl sd ?_) | (refine awpQ_nil ?_) | (refine awpQ_skip rfl rfl ?_) | (refine awp_seq ?_) | (refine awp_region ?_) | ((refine awpL_call (ht) rfl rfl rfl rfl rfl rfl rfl ft rfl ?_); rintro v Hout n1 ⟨cap, hcap, rfl, rfl, rfl⟩) | (refine awp_block ?_) | (refine awp_exit ?_) | (refine awp_skip ?_) | (refine awp_ret ?_) | (refine awp_cond_t rfl ?_) | (refine awp_cond_f rfl ?_) | (refine awp_quiet TM rfl (by kernel_rfl) ?_) | ((first | refine awpL_split rfl rfl rfl (fun hc => ?_) (fun hc => ?_) | refine awpQ_split rfl rfl rfl (fun hc => ?_) (fun hc => ?_) | refine awp_cond rfl (fun hc => ?_) (fun hc => ?_)) <;> ((try simp at hc) <;> try contradiction)))) <;> try (exfalso; omega))
    refine awp_loop hE (fun _ : Nat => True) (fun k => k) (fun k => [(7, vS 5 1 0 0 cap), (8, vB false), (9, vI 0)]) (fun _ => [(1, .ro (.ints xs)), (5, .own 3 cap (.ints []))]) 6 [] 0 trivial ⟨(by repeat' (first | exact trivial | refine ⟨rfl, ?_⟩ | refine ⟨congrArg some (congrArg vI (by first | omega | (simp; done) | (simp; omega))), ?_⟩ | refine ⟨sl_eqA (by first | omega | (simp; done) | (simp; omega)), ?_⟩)), (by repeat' (first | exact trivial | refine ⟨rfl, ?_⟩)), rfl⟩ ?_
    rintro k -
    ((repeat' (first | (refine awpL_step TT rfl rfl rfl sd ?_) | (refine awpL_nil ?_) | (refine awpL_skip rfl rfl ?_) | (refine awpQ_step TT rfl rfl rfl rfl sd ?_) | (refine awpQ_nil ?_) | (refine awpQ_skip rfl rfl ?_) | (refine awp_seq ?_) | (refine awp_region ?_) | (refine awp_block ?_) | (refine awp_exit ?_) | (refine awp_skip ?_) | (refine awp_ret ?_) | (refine awp_cond_t rfl ?_) | (refine awp_cond_f rfl ?_) | (refine awp_quiet TM rfl (by kernel_rfl) ?_) | ((first | refine awpL_split rfl rfl rfl (fun hc => ?_) (fun hc => ?_) | refine awpQ_split rfl rfl rfl (fun hc => ?_) (fun hc => ?_) | refine awp_cond rfl (fun hc => ?_) (fun hc => ?_)) <;> ((try simp at hc) <;> try contradiction)))) <;> try (exfalso; omega))
    refine fin_ret rfl (by repeat' (first | exact trivial | exact Nat.zero_lt_one | omega | refine ⟨?_, ?_⟩)) (congrArg vB hs.symm) rfl
  | some p =>
    have hp := mulZ_len hm
    have hpa : p.length = a := by simpa using hp
    have hs : ptIn a c xs bs v = inTo p bs p.length := by simp [ptIn, hm]
    rw [hm] at ht
    ((repeat' (first | (refine awpL_step TT rfl rfl rfl sd ?_) | (refine awpL_nil ?_) | (refine awpL_skip rfl rfl ?_) | (refine awpQ_step TT rfl rfl rfl rfl sd ?_) | (refine awpQ_nil ?_) | (refine awpQ_skip rfl rfl ?_) | (refine awp_seq ?_) | (refine awp_region ?_) | ((refine awpL_call (ht) rfl rfl rfl rfl rfl rfl rfl ft rfl ?_); rintro v Hout n1 ⟨cap, hcap, rfl, rfl, rfl⟩) | (refine awp_block ?_) | (refine awp_exit ?_) | (refine awp_skip ?_) | (refine awp_ret ?_) | (refine awp_cond_t rfl ?_) | (refine awp_cond_f rfl ?_) | (refine awp_quiet TM rfl (by kernel_rfl) ?_) | ((first | refine awpL_split rfl rfl rfl (fun hc => ?_) (fun hc => ?_) | refine awpQ_split rfl rfl rfl (fun hc => ?_) (fun hc => ?_) | refine awp_cond rfl (fun hc => ?_) (fun hc => ?_)) <;> ((try simp at hc) <;> try contradiction)))) <;> try (exfalso; omega))
    refine awp_loop hE (fun i : Nat => i ≤ p.length ∧ inTo p bs i = true) (fun i => p.length - i) (fun i => [(1, vS 2 1 0 bs.length cb), (7, vS 5 1 0 p.length cap), (8, vB true), (9, vI i)]) (fun _ => [(2, .ro (.ints bs)), (5, .own 3 cap (.ints p))]) 6 [] 0 ⟨Nat.zero_le _, rfl⟩ ⟨(by repeat' (first | exact trivial | refine ⟨rfl, ?_⟩ | refine ⟨congrArg some (congrArg vI (by first | omega | (simp; done) | (simp; omega))), ?_⟩ | refine ⟨sl_eqA (by first | omega | (simp; done) | (simp; omega)), ?_⟩)), (by repeat' (first | exact trivial | refine ⟨rfl, ?_⟩)), rfl⟩ ?_
    rintro i ⟨hi, hin⟩
    have hn := inTo_next (p := p) (bs := bs) (i := i)
    by_cases hil : i < p.length
    · have hib : i < bs.length := by omega
      have e1 : p.getD i 0 = p[i]?.getD 0 := by simp
      have e2 : bs.getD i 0 = bs[i]?.getD 0 := by simp
      rw [e1, e2] at hn
      ((repeat' (first | (refine awpL_step TT rfl rfl rfl sd ?_) | (refine awpL_nil ?_) | (refine awpL_skip rfl rfl ?_) | (refine awpQ_step TT rfl rfl rfl rfl sd ?_) | (refine awpQ_nil ?_) | (refine awpQ_skip rfl rfl ?_) | (refine awp_seq ?_) | (refine awp_region ?_) | (refine awp_block ?_) | (refine awp_exit ?_) | (refine awp_skip ?_) | (refine awp_ret ?_) | (refine awp_cond_t rfl ?_) | (refine awp_cond_f rfl ?_) | (refine awp_quiet TM rfl (by kernel_rfl) ?_) | ((first | refine awpL_split rfl rfl rfl (fun hc => ?_) (fun hc => ?_) | refine awpQ_split rfl rfl rfl (fun hc => ?_) (fun hc => ?_) | refine awp_cond rfl (fun hc => ?_) (fun hc => ?_)) <;> ((try simp at hc) <;> try contradiction)))) <;> try (exfalso; omega))
      · have : inTo p bs (i + 1) = false := by rw [hn, hin]; simp; exact hc
        refine fin_ret rfl (by repeat' (first | exact trivial | exact Nat.zero_lt_one | omega | refine ⟨?_, ?_⟩)) (congrArg vB (by rw [hs, inTo_false this (by omega)])) rfl
      · exact ⟨[], i + 1, ⟨hil, by rw [hn, hin]; simp; exact hc⟩, (by first | omega | (dsimp only; omega)), ⟨(by repeat' (first | exact trivial | refine ⟨rfl, ?_⟩ | refine ⟨congrArg some (congrArg vI (by first | omega | (simp; done) | (simp; omega))), ?_⟩ | refine ⟨sl_eqA (by first | omega | (simp; done) | (simp; omega)), ?_⟩)), (by repeat' (first | exact trivial | refine ⟨rfl, ?_⟩)), rfl⟩⟩
    · obtain rfl : i = p.length := by omega
      ((repeat' (first | (refine awpL_step TT rfl rfl rfl sd ?_) | (refine awpL_nil ?_) | (refine awpL_skip rfl rfl ?_) | (refine awpQ_step TT rfl rfl rfl rfl sd ?_) | (refine awpQ_nil ?_) | (refine awpQ_skip rfl rfl ?_) | (refine awp_seq ?_) | (refine awp_region ?_) | (refine awp_block ?_) | (refine awp_exit ?_) | (refine awp_skip ?_) | (refine awp_ret ?_) | (refine awp_cond_t rfl ?_) | (refine awp_cond_f rfl ?_) | (refine awp_quiet TM rfl (by kernel_rfl) ?_) | ((first | refine awpL_split rfl rfl rfl (fun hc => ?_) (fun hc => ?_) | refine awpQ_split rfl rfl rfl (fun hc => ?_) (fun hc => ?_) | refine awp_cond rfl (fun hc => ?_) (fun hc => ?_)) <;> ((try simp at hc) <;> try contradiction)))) <;> try (exfalso; omega))
      refine fin_ret rfl (by repeat' (first | exact trivial | exact Nat.zero_lt_one | omega | refine ⟨?_, ?_⟩)) (congrArg vB (by rw [hs, hin])) rfl
def ptsO (r c : Int) (xs bs : List Int) (side : Int) : Option (List (List Int)) :=
  if bodyM r c xs bs && decide (0 ≤ side ∧ side ≤ 10) then (boxO (List.replicate c.toNat (-side)) (List.replicate c.toNat side)).map (List.filter (ptIn r c xs bs)) else none
/-- rows given back, or none of them and false -/
def PtsR (th t : TypeId) (o : Option (List (List Int))) (k : Nat) (v : AV) (Hout : List (Nat × Blk)) (n1 : Nat) : Prop := match o with
  | some L => BoxR th t L k v Hout n1
  | none => v = .tup [.one (.sl k 1 0 0 0), .one (.bool false)] ∧ Hout = [(k, .own th 0 (.rows false true []))] ∧ n1 = k + 1
theorem rep_num {s : Int} {n : Nat} (h : -10 ≤ s ∧ s ≤ 10) : ∀ m ∈ List.replicate n s, numB m = true := fun m hm => by
  rw [List.eq_of_mem_replicate hm]; exact numB_true.2 (by omega)
theorem rep_wid {s : Int} {n k : Nat} (h : 0 ≤ s) (hk : k < (List.replicate n (-s)).length) : 1 ≤ widW (List.replicate n (-s)) (List.replicate n s) k := by
  have : k < n := by simpa using hk
  simp [widW, this]; omega
/-- a part of the rows: those of which f holds -/
def partL (f : List Int → Bool) (l : List Row) : List Row := (l.filter fun r => f r.xs).map fun r => ⟨r.a, r.cap, r.xs, []⟩
theorem partL_next {f : List Int → Bool} {l : List Row} {j : Nat} (h : j < l.length) : partL f (l.take (j + 1)) = if f l[j].xs then partL f (l.take j) ++ [⟨l[j].a, l[j].cap, l[j].xs, []⟩] else partL f (l.take j) := by
  rw [List.take_succ_eq_append_getElem h]
  simp only [partL, List.filter_append, List.map_append]
  cases hf : f l[j].xs <;> simp [hf]
theorem partL_rows {f : List Int → Bool} {l : List Row} {L : List (List Int)} (h : rowsX l = L) : rowsX (partL f l) = L.filter f := by
  rw [← h, rowsX, rowsX, partL, List.filter_map, List.map_map]
  rfl
theorem partL_mem {f : List Int → Bool} {l : List Row} : ∀ r ∈ partL f l, ∃ r0 ∈ l, r0.a = r.a ∧ r0.cap = r.cap ∧ r0.xs = r.xs := fun r hr => by
  obtain ⟨r0, h0, rfl⟩ := List.mem_map.1 hr
  exact ⟨r0, (List.mem_filter.1 h0).1, rfl, rfl, rfl⟩
theorem partL_apart {f : List Int → Bool} {l : List Row} (h : l.Pairwise Apart) : (partL f l).Pairwise Apart :=
  List.pairwise_map.2 ((h.filter _).imp fun hab => hab)
theorem partL_len {f : List Int → Bool} {l : List Row} {j : Nat} : (partL f (l.take j)).length ≤ j := by
  rw [partL, List.length_map]
  exact Nat.le_trans (List.length_filter_le _ _) (List.length_take_le _ _)
set_option maxRecDepth 100000 in
set_option maxHeartbeats 4000000 in
theorem d_ptsS (r c side : Int) (xs bs : List Int) (ca cb : Nat) (hl : xs.length ≤ 1099511627776) (hl' : bs.length ≤ 1099511627776) :
    Does Try.prog 44 [vM r c 1 xs.length ca, vS 2 1 0 bs.length cb, vI side] [(1, .ro (.ints xs)), (2, .ro (.ints bs))] 3 (PtsR 22 3 (ptsO r c xs bs side) 3) := by
  refine Does.intro TT Try.func44 rfl (by kernel_rfl) rfl rfl fun E hE => ?_
  cases hb0 : bodyM r c xs bs
  · have ho : ptsO r c xs bs side = none := by simp [ptsO, hb0]
    rw [ho]
    ((repeat' (first | (refine awpL_step TT rfl rfl rfl sd ?_) | (refine awpL_nil ?_) | (refine awpL_skip rfl rfl ?_) | (refine awpQ_step TT rfl rfl rfl rfl sd ?_) | (refine awpQ_nil ?_) | (refine awpQ_skip rfl rfl ?_) | (refine awp_seq ?_) | (refine awp_region ?_) | ((first | refine awpL_ret (d_bodyS _ _ _ _ _ _ hl hl') rfl rfl rfl rfl rfl rfl rfl rfl ft rfl rfl ?_ | refine awpQ_ret (d_bodyS _ _ _ _ _ _ hl hl') rfl rfl rfl rfl rfl rfl rfl rfl ft rfl rfl ?_ | refine awpHop_ret _ (d_bodyS _ _ _ _ _ _ hl hl') rfl rfl rfl rfl rfl rfl rfl rfl rfl ft rfl rfl sb rfl ?_) <;> simp only [hb0]) | (refine awp_block ?_) | (refine awp_exit ?_) | (refine awp_skip ?_) | (refine awp_ret ?_) | (refine awp_cond_t rfl ?_) | (refine awp_cond_f rfl ?_) | (refine awp_quiet TM rfl (by kernel_rfl) ?_) | ((first | refine awpL_split rfl rfl rfl (fun hc => ?_) (fun hc => ?_) | refine awpQ_split rfl rfl rfl (fun hc => ?_) (fun hc => ?_) | refine awp_cond rfl (fun hc => ?_) (fun hc => ?_)) <;> ((try simp at hc) <;> try contradiction)))) <;> try (exfalso; omega))
    exact fin rfl (by repeat' (first | exact trivial | exact Nat.zero_lt_one | omega | refine ⟨?_, ?_⟩)) [(3, 4)] (.tup [.one (.sl 3 1 0 0 0), .one (.bool false)]) [(3, .own 22 0 (.rows false true []))] 4 (⟨rfl, rfl, rfl⟩) rfl ⟨trivial, ⟨rfl, trivial⟩, rfl⟩ rfl
  · by_cases hs : 0 ≤ side ∧ side ≤ 10
    · have hob := hb0
      simp only [bodyM, Bool.and_eq_true, decide_eq_true_eq] at hob
      obtain ⟨⟨hco, hbl⟩, hbn⟩ := hob
      obtain ⟨a, b, rfl, rfl, ha, hb1, hb, hx, hnum⟩ := coneM_dims hco
      have hbl' : bs.length = a := by omega
      have ho : ptsO a b xs bs side = (boxO (List.replicate b (-side)) (List.replicate b side)).map (List.filter (ptIn a b xs bs)) := by simp [ptsO, hb0, hs]
      have hin : inB side 0 10 = true := inB_true.2 hs
      rw [ho]
      ((repeat' (first | (refine awpL_step TT rfl rfl rfl sd ?_) | (refine awpL_nil ?_) | (refine awpL_skip rfl rfl ?_) | (refine awpQ_step TT rfl rfl rfl rfl sd ?_) | (refine awpQ_nil ?_) | (refine awpQ_skip rfl rfl ?_) | (refine awp_seq ?_) | (refine awp_region ?_) | ((first | refine awpL_ret (d_bodyS _ _ _ _ _ _ hl hl') rfl rfl rfl rfl rfl rfl rfl rfl ft rfl rfl ?_ | refine awpQ_ret (d_bodyS _ _ _ _ _ _ hl hl') rfl rfl rfl rfl rfl rfl rfl rfl ft rfl rfl ?_ | refine awpHop_ret _ (d_bodyS _ _ _ _ _ _ hl hl') rfl rfl rfl rfl rfl rfl rfl rfl rfl ft rfl rfl sb rfl ?_) <;> simp only [hb0]) | ((first | refine awpL_ret (d_l1In _ _ _) rfl rfl rfl rfl rfl rfl rfl rfl ft rfl rfl ?_ | refine awpQ_ret (d_l1In _ _ _) rfl rfl rfl rfl rfl rfl rfl rfl ft rfl rfl ?_ | refine awpHop_ret _ (d_l1In _ _ _) rfl rfl rfl rfl rfl rfl rfl rfl rfl ft rfl rfl sb rfl ?_) <;> simp only [hin]) | (refine awp_block ?_) | (refine awp_exit ?_) | (refine awp_skip ?_) | (refine awp_ret ?_) | (refine awp_cond_t rfl ?_) | (refine awp_cond_f rfl ?_) | (refine awp_quiet TM rfl (by kernel_rfl) ?_) | ((first | refine awpL_split rfl rfl rfl (fun hc => ?_) (fun hc => ?_) | refine awpQ_split rfl rfl rfl (fun hc => ?_) (fun hc => ?_) | refine awp_cond rfl (fun hc => ?_) (fun hc => ?_)) <;> ((try simp at hc) <;> try contradiction)))) <;> try (exfalso; omega))
      refine awp_loop hE (fun x : Nat × Nat × Nat => x.1 ≤ b ∧ x.1 ≤ x.2.1 ∧ x.1 ≤ x.2.2) (fun x => b - x.1)
        (fun x => [(1, vS 2 1 0 bs.length cb), (2, vI side), (3, .one (.ptr 3 3 0 0)), (8, vS 4 1 0 x.1 x.2.1), (9, vS 5 1 0 x.1 x.2.2), (10, vI x.1)])
        (fun x => [(1, .ro (.ints xs)), (2, .ro (.ints bs)), (3, .own 27 1 (.lit [.int a, .int b, .sl 1 1 0 xs.length ca])), (4, .own 3 x.2.1 (.ints (List.replicate x.1 (-side)))), (5, .own 3 x.2.2 (.ints (List.replicate x.1 side)))]) 6 [] (0, 0, 0) ⟨Nat.zero_le _, Nat.le_refl _, Nat.le_refl _⟩ ⟨(by repeat' (first | exact trivial | refine ⟨rfl, ?_⟩ | refine ⟨congrArg some (congrArg vI (by first | omega | (simp; done) | (simp; omega))), ?_⟩ | refine ⟨sl_eqA (by first | omega | (simp; done) | (simp; omega)), ?_⟩)), (by repeat' (first | exact trivial | refine ⟨rfl, ?_⟩)), rfl⟩ ?_
      rintro ⟨i, c1, c2⟩ ⟨hi, hc1, hc2⟩
      dsimp only at hi hc1 hc2
      by_cases hib : i < b
      · ((repeat' (first | (refine awpL_step TT rfl rfl rfl sd ?_) | (refine awpL_nil ?_) | (refine awpL_skip rfl rfl ?_) | (refine awpQ_step TT rfl rfl rfl rfl sd ?_) | (refine awpQ_nil ?_) | (refine awpQ_skip rfl rfl ?_) | (refine awp_seq ?_) | (refine awp_region ?_) | (first | (refine awpL_append TT rfl rfl rfl rfl rfl sd ?_; intro cap hcap) | (refine awpHop_append TT _ rfl rfl rfl rfl rfl rfl sd sb rfl rfl ?_; intro cap hcap)) | (refine awp_block ?_) | (refine awp_exit ?_) | (refine awp_skip ?_) | (refine awp_ret ?_) | (refine awp_cond_t rfl ?_) | (refine awp_cond_f rfl ?_) | (refine awp_quiet TM rfl (by kernel_rfl) ?_) | ((first | refine awpL_split rfl rfl rfl (fun hc => ?_) (fun hc => ?_) | refine awpQ_split rfl rfl rfl (fun hc => ?_) (fun hc => ?_) | refine awp_cond rfl (fun hc => ?_) (fun hc => ?_)) <;> ((try simp at hc) <;> try contradiction)))) <;> try (exfalso; omega))
        refine ⟨[(4, 7), (5, 9)], (i + 1, _, _), ⟨hib, ?_, ?_⟩, (by first | omega | (dsimp only; omega)), ⟨(by repeat' (first | exact trivial | refine ⟨rfl, ?_⟩ | refine ⟨congrArg some (congrArg vI (by first | omega | (simp; done) | (simp; omega))), ?_⟩ | refine ⟨sl_eqA (by first | omega | (simp; done) | (simp; omega)), ?_⟩)), ⟨rfl, rfl, rfl, own_ints (by simp [List.replicate_succ']), own_ints (by simp [List.replicate_succ']), trivial⟩, rfl⟩⟩
        all_goals (dsimp only at *; omega)
      · obtain rfl : i = b := by omega
        have hbx := d_boxS (List.replicate i (-side)) (List.replicate i side) c1 c2 i (by simp) (by simp) (by simp; omega) (rep_num (by omega)) (rep_num (by omega)) fun k hk => rep_wid hs.1 hk
        rw [List.length_replicate] at hbx
        cases hbo : boxO (List.replicate i (-side)) (List.replicate i side) with
        | none =>
          rw [hbo] at hbx
          ((repeat' (first | (refine awpL_step TT rfl rfl rfl sd ?_) | (refine awpL_nil ?_) | (refine awpL_skip rfl rfl ?_) | (refine awpQ_step TT rfl rfl rfl rfl sd ?_) | (refine awpQ_nil ?_) | (refine awpQ_skip rfl rfl ?_) | (refine awp_seq ?_) | (refine awp_region ?_) | ((refine awpL_call (hbx) rfl rfl rfl rfl rfl rfl rfl ft rfl ?_); rintro v Hout n1 ⟨rfl, rfl, rfl⟩) | (refine awp_block ?_) | (refine awp_exit ?_) | (refine awp_skip ?_) | (refine awp_ret ?_) | (refine awp_cond_t rfl ?_) | (refine awp_cond_f rfl ?_) | (refine awp_quiet TM rfl (by kernel_rfl) ?_) | ((first | refine awpL_split rfl rfl rfl (fun hc => ?_) (fun hc => ?_) | refine awpQ_split rfl rfl rfl (fun hc => ?_) (fun hc => ?_) | refine awp_cond rfl (fun hc => ?_) (fun hc => ?_)) <;> ((try simp at hc) <;> try contradiction)))) <;> try (exfalso; omega))
          refine awp_loop hE (fun _ : Nat => True) (fun k => k) (fun k => [(11, vS 6 1 0 0 0), (12, vB false), (13, vS 7 1 0 0 0), (14, vI 0)]) (fun _ => [(6, .own 22 0 (.rows false true [])), (7, .own 22 0 (.rows false true []))]) 8 [] 0 trivial ⟨(by repeat' (first | exact trivial | refine ⟨rfl, ?_⟩ | refine ⟨congrArg some (congrArg vI (by first | omega | (simp; done) | (simp; omega))), ?_⟩ | refine ⟨sl_eqA (by first | omega | (simp; done) | (simp; omega)), ?_⟩)), (by repeat' (first | exact trivial | refine ⟨rfl, ?_⟩)), rfl⟩ ?_
          rintro k -
          ((repeat' (first | (refine awpL_step TT rfl rfl rfl sd ?_) | (refine awpL_nil ?_) | (refine awpL_skip rfl rfl ?_) | (refine awpQ_step TT rfl rfl rfl rfl sd ?_) | (refine awpQ_nil ?_) | (refine awpQ_skip rfl rfl ?_) | (refine awp_seq ?_) | (refine awp_region ?_) | (refine awp_block ?_) | (refine awp_exit ?_) | (refine awp_skip ?_) | (refine awp_ret ?_) | (refine awp_cond_t rfl ?_) | (refine awp_cond_f rfl ?_) | (refine awp_quiet TM rfl (by kernel_rfl) ?_) | ((first | refine awpL_split rfl rfl rfl (fun hc => ?_) (fun hc => ?_) | refine awpQ_split rfl rfl rfl (fun hc => ?_) (fun hc => ?_) | refine awp_cond rfl (fun hc => ?_) (fun hc => ?_)) <;> ((try simp at hc) <;> try contradiction)))) <;> try (exfalso; omega))
          exact fin rfl (by repeat' (first | exact trivial | exact Nat.zero_lt_one | omega | refine ⟨?_, ?_⟩)) [(3, 7)] (.tup [.one (.sl 3 1 0 0 0), .one (.bool false)]) [(3, .own 22 0 (.rows false true []))] 4 (⟨rfl, rfl, rfl⟩) rfl ⟨trivial, ⟨rfl, trivial⟩, rfl⟩ rfl
        | some L =>
          rw [hbo] at hbx
          ((repeat' (first | (refine awpL_step TT rfl rfl rfl sd ?_) | (refine awpL_nil ?_) | (refine awpL_skip rfl rfl ?_) | (refine awpQ_step TT rfl rfl rfl rfl sd ?_) | (refine awpQ_nil ?_) | (refine awpQ_skip rfl rfl ?_) | (refine awp_seq ?_) | (refine awp_region ?_) | ((refine awpL_call (hbx) rfl rfl rfl rfl rfl rfl rfl ft rfl ?_); rintro v Hout n1 ⟨l, cap, hlL, rfl, rfl, rfl⟩) | (refine awp_block ?_) | (refine awp_exit ?_) | (refine awp_skip ?_) | (refine awp_ret ?_) | (refine awp_cond_t rfl ?_) | (refine awp_cond_f rfl ?_) | (refine awp_quiet TM rfl (by kernel_rfl) ?_) | ((first | refine awpL_split rfl rfl rfl (fun hc => ?_) (fun hc => ?_) | refine awpQ_split rfl rfl rfl (fun hc => ?_) (fun hc => ?_) | refine awp_cond rfl (fun hc => ?_) (fun hc => ?_)) <;> ((try simp at hc) <;> try contradiction)))) <;> try (exfalso; omega))
          have hbl2 := (box_len (fun k hk => rep_wid hs.1 hk) (List.replicate i (-side)).length (Nat.le_refl _)).1
          have hok : okTo (List.replicate i (-side)) (List.replicate i side) (List.replicate i (-side)).length = true := by
            unfold boxO at hbo
            split at hbo
            · assumption
            · cases hbo
          have hLe : L = boxTo (List.replicate i (-side)) (List.replicate i side) (List.replicate i (-side)).length := by
            unfold boxO at hbo
            rw [if_pos hok] at hbo; cases hbo; rfl
          have hc4 := okTo_cnt hok
          have hll : l.length ≤ 4000 := by rw [rowsX_len hlL, hLe]; omega
          have hrow : ∀ r ∈ l, r.xs.length = i := fun r hr => by
            have h1 : r.xs ∈ L := by rw [← hlL]; exact List.mem_map.2 ⟨r, hr, rfl⟩
            rw [hLe] at h1
            have := box_row _ h1
            rw [this, List.length_replicate]
          refine awp_loop hE (fun x : Nat × Nat => x.1 ≤ l.length) (fun x => l.length - x.1)
            (fun x => [(1, vS 2 1 0 bs.length cb), (3, .one (.ptr 3 3 0 0)), (11, vS 6 1 0 l.length cap), (12, vB true), (13, vS 8 1 0 (partL (ptIn a i xs bs) (l.take x.1)).length x.2), (14, vI x.1)])
            (fun x => [(1, .ro (.ints xs)), (2, .ro (.ints bs)), (3, .own 27 1 (.lit [.int a, .int i, .sl 1 1 0 xs.length ca])), (6, .own 22 cap (.rows false true l)), (7, .tok 3 false l), (8, .own 22 x.2 (.rows false true (partL (ptIn a i xs bs) (l.take x.1))))]) 9 [] (0, 0) (Nat.zero_le _) ⟨(by repeat' (first | exact trivial | refine ⟨rfl, ?_⟩ | refine ⟨congrArg some (congrArg vI (by first | omega | (simp; done) | (simp; omega))), ?_⟩ | refine ⟨sl_eqA (by first | omega | (simp; done) | (simp; omega)), ?_⟩)), (by repeat' (first | exact trivial | refine ⟨rfl, ?_⟩)), rfl⟩ ?_
          rintro ⟨j, cap2⟩ hj
          dsimp only at hj
          have hpl := partL_len (f := ptIn a i xs bs) (l := l) (j := j)
          by_cases hjl : j < l.length
          · have hx := getD_row' hjl
            have hxl : (l.getD (0 + (j : Int).toNat) rowD).xs.length ≤ 1099511627776 := by
              rw [hx, hrow _ (List.getElem_mem hjl)]; omega
            have hd := fun cv => d_inS a i xs bs (l.getD (0 + (j : Int).toNat) rowD).xs ca cb cv hl hbl' (by omega) hxl
            have hn := partL_next (f := ptIn a i xs bs) hjl
            have hqe : ptIn a i xs bs (l.getD (0 + (j : Int).toNat) rowD).xs = ptIn a i xs bs l[j].xs := by rw [hx]
            rw [hqe] at hd
            cases hq : ptIn a i xs bs l[j].xs
            · rw [hq] at hd hn
              ((repeat' (first | (refine awpL_step TT rfl rfl rfl sd ?_) | (refine awpL_nil ?_) | (refine awpL_skip rfl rfl ?_) | (refine awpQ_step TT rfl rfl rfl rfl sd ?_) | (refine awpQ_nil ?_) | (refine awpQ_skip rfl rfl ?_) | (refine awp_seq ?_) | (refine awp_region ?_) | (refine awp_block ?_) | (refine awp_exit ?_) | (refine awp_skip ?_) | (refine awp_ret ?_) | (refine awp_cond_t rfl ?_) | (refine awp_cond_f rfl ?_) | ((first | refine awpL_split rfl rfl rfl (fun hc => ?_) (fun hc => ?_) | refine awpQ_split rfl rfl rfl (fun hc => ?_) (fun hc => ?_) | refine awp_cond rfl (fun hc => ?_) (fun hc => ?_)) <;> ((try simp at hc) <;> try contradiction)))) <;> try (exfalso; omega))
              refine awp_held TM [(3, _)] sb rfl (fun ρs => ?_)
              refine awpH_take TT 0 rfl kr kr kr nh rfl rfl rfl rfl sd ?_
              refine awpH_take TT 1 rfl kr kr kr nh rfl rfl rfl rfl sd ?_
              refine awpH_take TT 2 rfl kr kr kr nh rfl rfl rfl rfl sd ?_
              refine awpH_take TT 3 rfl kr kr kr nh rfl rfl rfl rfl sd ?_
              first | (refine awpH_take TT 4 rfl kr kr kr nh rfl rfl rfl rfl sd ?_) | (refine awpH_idx TT 4 rfl kr kr kr nh rfl rfl rfl rfl rfl sd ?_)
              refine awpH_all [5] kr rfl ⟨?_, trivial⟩
              first | (refine awpHop_step TT 5 rfl rfl rfl rfl sd sb rfl ?_) | (first | refine awpL_ret (hd _) rfl rfl rfl rfl rfl rfl rfl rfl ft rfl rfl ?_ | refine awpQ_ret (hd _) rfl rfl rfl rfl rfl rfl rfl rfl ft rfl rfl ?_ | refine awpHop_ret _ (hd _) rfl rfl rfl rfl rfl rfl rfl rfl rfl ft rfl rfl sb rfl ?_)
              refine awpH_all [6] kr rfl ⟨?_, trivial⟩
              first | (refine awpHop_step TT 6 rfl rfl rfl rfl sd sb rfl ?_) | (first | refine awpL_ret (hd _) rfl rfl rfl rfl rfl rfl rfl rfl ft rfl rfl ?_ | refine awpQ_ret (hd _) rfl rfl rfl rfl rfl rfl rfl rfl ft rfl rfl ?_ | refine awpHop_ret _ (hd _) rfl rfl rfl rfl rfl rfl rfl rfl rfl ft rfl rfl sb rfl ?_)
              refine awpH_done kr ?_
              rotate_left
              all_goals ((repeat' (first | (refine awpL_step TT rfl rfl rfl sd ?_) | (refine awpL_nil ?_) | (refine awpL_skip rfl rfl ?_) | (refine awpQ_step TT rfl rfl rfl rfl sd ?_) | (refine awpQ_nil ?_) | (refine awpQ_skip rfl rfl ?_) | (refine awp_seq ?_) | (refine awp_region ?_) | (refine awp_block ?_) | (refine awp_exit ?_) | (refine awp_skip ?_) | (refine awp_ret ?_) | (refine awp_cond_t rfl ?_) | (refine awp_cond_f rfl ?_) | (refine awp_quiet TM rfl (by kernel_rfl) ?_) | ((first | refine awpL_split rfl rfl rfl (fun hc => ?_) (fun hc => ?_) | refine awpQ_split rfl rfl rfl (fun hc => ?_) (fun hc => ?_) | refine awp_cond rfl (fun hc => ?_) (fun hc => ?_)) <;> ((try simp at hc) <;> try contradiction)))) <;> try (exfalso; omega))
              all_goals exact ⟨[], (j + 1, cap2), hjl, (by first | omega | (dsimp only; omega)), ⟨⟨rfl, rfl, rfl, rfl, sl_eqA (by rw [hn]; simp), congrArg some (congrArg vI (by omega)), trivial⟩, ⟨rfl, rfl, rfl, rfl, rfl, own_rowsA (by rw [hn]; simp), trivial⟩, rfl⟩⟩
            · rw [hq] at hd hn
              ((repeat' (first | (refine awpL_step TT rfl rfl rfl sd ?_) | (refine awpL_nil ?_) | (refine awpL_skip rfl rfl ?_) | (refine awpQ_step TT rfl rfl rfl rfl sd ?_) | (refine awpQ_nil ?_) | (refine awpQ_skip rfl rfl ?_) | (refine awp_seq ?_) | (refine awp_region ?_) | (refine awp_block ?_) | (refine awp_exit ?_) | (refine awp_skip ?_) | (refine awp_ret ?_) | (refine awp_cond_t rfl ?_) | (refine awp_cond_f rfl ?_) | ((first | refine awpL_split rfl rfl rfl (fun hc => ?_) (fun hc => ?_) | refine awpQ_split rfl rfl rfl (fun hc => ?_) (fun hc => ?_) | refine awp_cond rfl (fun hc => ?_) (fun hc => ?_)) <;> ((try simp at hc) <;> try contradiction)))) <;> try (exfalso; omega))
              refine awp_held TM [(3, _)] sb rfl (fun ρs => ?_)
              refine awpH_take TT 0 rfl kr kr kr nh rfl rfl rfl rfl sd ?_
              refine awpH_take TT 1 rfl kr kr kr nh rfl rfl rfl rfl sd ?_
              refine awpH_take TT 2 rfl kr kr kr nh rfl rfl rfl rfl sd ?_
              refine awpH_take TT 3 rfl kr kr kr nh rfl rfl rfl rfl sd ?_
              first | (refine awpH_take TT 4 rfl kr kr kr nh rfl rfl rfl rfl sd ?_) | (refine awpH_idx TT 4 rfl kr kr kr nh rfl rfl rfl rfl rfl sd ?_)
              refine awpH_all [5] kr rfl ⟨?_, trivial⟩
              first | (refine awpHop_step TT 5 rfl rfl rfl rfl sd sb rfl ?_) | (first | refine awpL_ret (hd _) rfl rfl rfl rfl rfl rfl rfl rfl ft rfl rfl ?_ | refine awpQ_ret (hd _) rfl rfl rfl rfl rfl rfl rfl rfl ft rfl rfl ?_ | refine awpHop_ret _ (hd _) rfl rfl rfl rfl rfl rfl rfl rfl rfl ft rfl rfl sb rfl ?_)
              refine awpH_all [6] kr rfl ⟨?_, trivial⟩
              first | (refine awpHop_step TT 6 rfl rfl rfl rfl sd sb rfl ?_) | (first | refine awpL_ret (hd _) rfl rfl rfl rfl rfl rfl rfl rfl ft rfl rfl ?_ | refine awpQ_ret (hd _) rfl rfl rfl rfl rfl rfl rfl rfl ft rfl rfl ?_ | refine awpHop_ret _ (hd _) rfl rfl rfl rfl rfl rfl rfl rfl rfl ft rfl rfl sb rfl ?_)
              refine awpH_done kr ?_
              rotate_left
              all_goals ((repeat' (first | (refine awpL_step TT rfl rfl rfl sd ?_) | (refine awpL_nil ?_) | (refine awpL_skip rfl rfl ?_) | (refine awpQ_step TT rfl rfl rfl rfl sd ?_) | (refine awpQ_nil ?_) | (refine awpQ_skip rfl rfl ?_) | (refine awp_seq ?_) | (refine awp_region ?_) | (first | (refine awpL_append TT rfl rfl rfl rfl rfl sd ?_; intro cap hcap) | (refine awpHop_append TT _ rfl rfl rfl rfl rfl rfl sd sb rfl rfl ?_; intro cap hcap)) | (refine awp_block ?_) | (refine awp_exit ?_) | (refine awp_skip ?_) | (refine awp_ret ?_) | (refine awp_cond_t rfl ?_) | (refine awp_cond_f rfl ?_) | (refine awp_quiet TM rfl (by kernel_rfl) ?_) | ((first | refine awpL_split rfl rfl rfl (fun hc => ?_) (fun hc => ?_) | refine awpQ_split rfl rfl rfl (fun hc => ?_) (fun hc => ?_) | refine awp_cond rfl (fun hc => ?_) (fun hc => ?_)) <;> ((try simp at hc) <;> try contradiction)))) <;> try (exfalso; omega))
              all_goals
                refine ⟨[(8, 12)], (j + 1, _), hjl, (by first | omega | (dsimp only; omega)), ⟨⟨rfl, rfl, rfl, rfl, sl_eqA (by rw [hn]; simp), congrArg some (congrArg vI (by omega)), trivial⟩, ⟨rfl, rfl, rfl, rfl, rfl, own_rowsA (by rw [hn, ← hx]; rfl), trivial⟩, rfl⟩⟩
          · obtain rfl : j = l.length := by omega
            ((first | refine awpL_ghost (Ghost.partN 7 (partL (ptIn a i xs bs) (l.take l.length)) rfl (by rw [List.take_length]; exact partL_mem) (by rw [List.take_length]; exact partL_apart)) ?_ | refine awp_ghost (Ghost.partN 7 (partL (ptIn a i xs bs) (l.take l.length)) rfl (by rw [List.take_length]; exact partL_mem) (by rw [List.take_length]; exact partL_apart)) ?_ | refine awpH_ghost (Ghost.partN 7 (partL (ptIn a i xs bs) (l.take l.length)) rfl (by rw [List.take_length]; exact partL_mem) (by rw [List.take_length]; exact partL_apart)) ?_ | refine awpHop_ghost (Ghost.partN 7 (partL (ptIn a i xs bs) (l.take l.length)) rfl (by rw [List.take_length]; exact partL_mem) (by rw [List.take_length]; exact partL_apart)) ?_); rintro _ _ ⟨rfl, rfl⟩)
            ((repeat' (first | (refine awpL_step TT rfl rfl rfl sd ?_) | (refine awpL_nil ?_) | (refine awpL_skip rfl rfl ?_) | (refine awpQ_step TT rfl rfl rfl rfl sd ?_) | (refine awpQ_nil ?_) | (refine awpQ_skip rfl rfl ?_) | (refine awp_seq ?_) | (refine awp_region ?_) | (refine awp_block ?_) | (refine awp_exit ?_) | (refine awp_skip ?_) | (refine awp_ret ?_) | (refine awp_cond_t rfl ?_) | (refine awp_cond_f rfl ?_) | (refine awp_quiet TM rfl (by kernel_rfl) ?_) | ((first | refine awpL_split rfl rfl rfl (fun hc => ?_) (fun hc => ?_) | refine awpQ_split rfl rfl rfl (fun hc => ?_) (fun hc => ?_) | refine awp_cond rfl (fun hc => ?_) (fun hc => ?_)) <;> ((try simp at hc) <;> try contradiction)))) <;> try (exfalso; omega))
            exact fin rfl (by repeat' (first | exact trivial | exact Nat.zero_lt_one | omega | refine ⟨?_, ?_⟩)) [(3, 8), (4, 7)] (.tup [.one (.sl 3 1 0 (partL (ptIn a i xs bs) (l.take l.length)).length cap2), .one (.bool true)]) [(3, .own 22 cap2 (.rows false true (partL (ptIn a i xs bs) (l.take l.length)))), (4, .tok 3 false (partL (ptIn a i xs bs) (l.take l.length)))] 5 ⟨_, _, by rw [List.take_length]; exact partL_rows hlL, rfl, rfl, rfl⟩ rfl ⟨trivial, ⟨rfl, rfl, trivial⟩, rfl⟩ rfl
    · have ho : ptsO r c xs bs side = none := by simp [ptsO, hs]
      have hin : inB side 0 10 = false := inB_false.2 (by omega)
      rw [ho]
      ((repeat' (first | (refine awpL_step TT rfl rfl rfl sd ?_) | (refine awpL_nil ?_) | (refine awpL_skip rfl rfl ?_) | (refine awpQ_step TT rfl rfl rfl rfl sd ?_) | (refine awpQ_nil ?_) | (refine awpQ_skip rfl rfl ?_) | (refine awp_seq ?_) | (refine awp_region ?_) | ((first | refine awpL_ret (d_bodyS _ _ _ _ _ _ hl hl') rfl rfl rfl rfl rfl rfl rfl rfl ft rfl rfl ?_ | refine awpQ_ret (d_bodyS _ _ _ _ _ _ hl hl') rfl rfl rfl rfl rfl rfl rfl rfl ft rfl rfl ?_ | refine awpHop_ret _ (d_bodyS _ _ _ _ _ _ hl hl') rfl rfl rfl rfl rfl rfl rfl rfl rfl ft rfl rfl sb rfl ?_) <;> simp only [hb0]) | ((first | refine awpL_ret (d_l1In _ _ _) rfl rfl rfl rfl rfl rfl rfl rfl ft rfl rfl ?_ | refine awpQ_ret (d_l1In _ _ _) rfl rfl rfl rfl rfl rfl rfl rfl ft rfl rfl ?_ | refine awpHop_ret _ (d_l1In _ _ _) rfl rfl rfl rfl rfl rfl rfl rfl rfl ft rfl rfl sb rfl ?_) <;> simp only [hin]) | (refine awp_block ?_) | (refine awp_exit ?_) | (refine awp_skip ?_) | (refine awp_ret ?_) | (refine awp_cond_t rfl ?_) | (refine awp_cond_f rfl ?_) | (refine awp_quiet TM rfl (by kernel_rfl) ?_) | ((first | refine awpL_split rfl rfl rfl (fun hc => ?_) (fun hc => ?_) | refine awpQ_split rfl rfl rfl (fun hc => ?_) (fun hc => ?_) | refine awp_cond rfl (fun hc => ?_) (fun hc => ?_)) <;> ((try simp at hc) <;> try contradiction)))) <;> try (exfalso; omega))
      exact fin rfl (by repeat' (first | exact trivial | exact Nat.zero_lt_one | omega | refine ⟨?_, ?_⟩)) [(3, 4)] (.tup [.one (.sl 3 1 0 0 0), .one (.bool false)]) [(3, .own 22 0 (.rows false true []))] 4 (⟨rfl, rfl, rfl⟩) rfl ⟨trivial, ⟨rfl, trivial⟩, rfl⟩ rfl
end Go.Proofs.Ytbgeooalhoaemaa
