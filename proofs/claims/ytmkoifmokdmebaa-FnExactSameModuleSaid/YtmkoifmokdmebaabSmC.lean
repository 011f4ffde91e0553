/-
  CONTRACTS: a round of the program's Smith form.
-/
import Derived.Test.YtmkoifmokdmebaabSmB
set_option linter.unusedVariables false
set_option linter.unusedSimpArgs false
namespace Go.Proofs.Ytmkoifmokdmebaa
open Go.RowKit

theorem rTo_next {r c t n : Nat} {s x : S3} (h : rTo r c t s n = some x) : rTo r c t s (n + 1) = rAt r c t (t + 1 + n) x := by rw [rTo, h]; rfl
theorem cTo_next {r c t n : Nat} {s x : S3} (h : cTo r c t s n = some x) : cTo r c t s (n + 1) = cAt r c t (t + 1 + n) x := by rw [cTo, h]; rfl
theorem rc_bad {r c t n : Nat} {s : S3} (hn : n ≤ r - (t + 1)) (h : rTo r c t s n = none) : rcTo r c t s = none := by
  rw [rcTo, none_le (f := rTo r c t s) (fun n h m => rTo_none h m) hn h]; rfl
theorem rc_bad2 {r c t n : Nat} {s x : S3} (hn : n ≤ c - (t + 1)) (h1 : rTo r c t s (r - (t + 1)) = some x) (h : cTo r c t x n = none) : rcTo r c t s = none := by
  rw [rcTo, h1, Option.bind_some, none_le (f := cTo r c t x) (fun n h m => cTo_none h m) hn h]
theorem zr_next {xs : List Int} {c t n : Nat} (h : zr xs c t n) (h0 : xs.getD ((t + 1 + n) * c + t) 0 = 0) : zr xs c t (n + 1) := fun i hi => by
  rcases Nat.lt_or_ge i n with e | e
  · exact h i e
  · obtain rfl : i = n := by omega
    exact h0
theorem zr_zero {xs : List Int} {c t : Nat} : decide (zr xs c t 0) = true := decide_eq_true fun i hi => by omega
theorem zc_zero {xs : List Int} {c t : Nat} : decide (zc xs c t 0) = true := decide_eq_true fun i hi => by omega
theorem zr_dec {xs : List Int} {c t n : Nat} : (!decide (zr xs c t (n + 1))) = (!decide (zr xs c t n) || !decide (xs.getD ((t + 1 + n) * c + t) 0 = 0)) := by
  by_cases h : zr xs c t n
  · by_cases h0 : xs.getD ((t + 1 + n) * c + t) 0 = 0
    · rw [decide_eq_true h, decide_eq_true h0, decide_eq_true (zr_next h h0)]; rfl
    · rw [decide_eq_true h, decide_eq_false h0, decide_eq_false fun h2 => h0 (h2 n (Nat.lt_succ_self n))]; rfl
  · rw [decide_eq_false h, decide_eq_false fun h2 => h fun i hi => h2 i (by omega)]; rfl
theorem zc_next {xs : List Int} {c t n : Nat} (h : zc xs c t n) (h0 : xs.getD (t * c + (t + 1 + n)) 0 = 0) : zc xs c t (n + 1) := fun i hi => by
  rcases Nat.lt_or_ge i n with e | e
  · exact h i e
  · obtain rfl : i = n := by omega
    exact h0
theorem zc_dec {xs : List Int} {c t n : Nat} : (!decide (zc xs c t (n + 1))) = (!decide (zc xs c t n) || !decide (xs.getD (t * c + (t + 1 + n)) 0 = 0)) := by
  by_cases h : zc xs c t n
  · by_cases h0 : xs.getD (t * c + (t + 1 + n)) 0 = 0
    · rw [decide_eq_true h, decide_eq_true h0, decide_eq_true (zc_next h h0)]; rfl
    · rw [decide_eq_true h, decide_eq_false h0, decide_eq_false fun h2 => h0 (h2 n (Nat.lt_succ_self n))]; rfl
  · rw [decide_eq_false h, decide_eq_false fun h2 => h fun i hi => h2 i (by omega)]; rfl
theorem dv_next {xs : List Int} {c t i n : Nat} {p : Int} (h : dv xs c t p i n) (h0 : Int.tmod (xs.getD (i * c + (t + 1 + n)) 0) p = 0) : dv xs c t p i (n + 1) := fun j hj => by
  rcases Nat.lt_or_ge j n with e | e
  · exact h j e
  · obtain rfl : j = n := by omega
    exact h0
theorem nd_found {xs : List Int} {c t w n m N : Nat} {p : Int} (hn : n < N) (h : ndTo xs c t p w n = none) (hm : m < w) (h0 : ¬ Int.tmod (xs.getD ((t + 1 + n) * c + (t + 1 + m)) 0) p = 0) : ndTo xs c t p w N = some (t + 1 + n) := by
  have h1 : ndTo xs c t p w (n + 1) = some (t + 1 + n) := by rw [ndTo, h]; exact if_neg fun hd => h0 (hd m hm)
  have : ∀ k, ndTo xs c t p w (n + 1 + k) = some (t + 1 + n) := fun k => by
    induction k with
    | zero => exact h1
    | succ k ih => rw [← Nat.add_assoc, ndTo, ih]
  have := this (N - (n + 1))
  rwa [show n + 1 + (N - (n + 1)) = N by omega] at this
def hR (t tw : TypeId) (a b cx cu cv : Nat) (s : S3) : Bool → List (Nat × Blk)
  | false => [(2, .own tw 1 (.lit (workL 6 4 7 a b (a * b) cx cu cv false))), (4, .own t cu (.ints s.2.1)), (6, .own t cx (.ints s.1)), (7, .own t cv (.ints s.2.2))]
  | true => [(2, .own tw 1 (.lit (workL 6 4 7 a b (a * b) cx cu cv true)))]
def RndR (t tw : TypeId) (a b cu : Nat) (o : Option (S3 × Bool)) (v : AV) (Hout : List (Nat × Blk)) (n1 : Nat) : Prop := n1 = 8 ∧ match o with
  | some (s, g) => ∃ cx cv, s.1.length ≤ cx ∧ v = vB g ∧ Hout = [(2, .own tw 1 (.lit (workL 6 4 7 a b (a * b) cx cu cv false))), (4, .own t cu (.ints s.2.1)), (6, .own t cx (.ints s.1)), (7, .own t cv (.ints s.2.2))]
  | none => ∃ g cx cv, v = vB g ∧ Hout = [(2, .own tw 1 (.lit (workL 6 4 7 a b (a * b) cx cu cv true)))]
set_option maxRecDepth 100000 in
set_option maxHeartbeats 16000000 in
theorem d_round (a b t cx cu cv p q : Nat) (s : S3) (o : OK3 a b s) (ha : a ≤ 24) (hb : b ≤ 24) (hta : t < a) (htb : t < b) (hl : lp s.1 a b t = some (p, q)) (hcx : s.1.length ≤ cx) (hcu : a * a ≤ cu) :
    Does Try.prog 149 [vW, vI t] [(2, .own 111 1 (.lit (workL 3 4 5 a b (a * b) cx cu cv false))), (3, .own 3 cx (.ints s.1)), (4, .own 3 cu (.ints s.2.1)), (5, .own 3 cv (.ints s.2.2))] 6 (RndR 3 111 a b cu (rndP a b t (p, q) s)) := by
  refine Does.intro TT Try.func149 rfl (by kernel_rfl) rfl rfl fun E hE => ?_
  obtain ⟨⟨hp, hq⟩, h0, -, -⟩ := lp_some (by omega) (by omega) hl
  have hab : a * b ≤ 24 * 24 := Nat.mul_le_mul ha hb
  have hlf := d_lpI a b t cx cu cv s.1 o.x o.nx ha hb (by omega) (by omega)
  rw [hl, show pA (some (p, q)) = (p : Int) from rfl, show pB (some (p, q)) = (q : Int) from rfl, Option.isSome_some] at hlf
  have hrn : rndP a b t (p, q) s = rndS a b t (swC a b q t (swR a b p t s)) := rfl
  rw [hrn]
  clear hrn
  have hpv : (swC a b q t (swR a b p t s)).1.getD (t * b + t) 0 ≠ 0 := by rw [swC_piv (swR_ok o) hq.2 htb hta, swR_piv o hp.2 hta hq.2]; exact h0
  have hu := o.u
  have hsw := fun h => d_rowsSwap a b p t (a * b) cx cu cv s.1 s.2.1 o.row o.x.symm ha hb hp.2 hta h hcx (by rw [hu]; exact hcu)
  ((repeat' (first | (refine awp_cut 2 hE (fun _ : Unit => True) (fun _ => [(0, vW), (1, vI t), (6, vI q)]) (fun _ => [(2, .own 111 1 (.lit (workL 3 4 5 a b (a * b) cx cu cv false))), (3, .own 3 cx (.ints (swR a b p t s).1)), (4, .own 3 cu (.ints (swR a b p t s).2.1)), (5, .own 3 cv (.ints (swR a b p t s).2.2))]) 6 ?_ ?_) | (refine awpL_step TT rfl rfl rfl sd ?_) | (refine awpL_nil ?_) | (refine awpL_skip rfl rfl ?_) | (refine awpQ_step TT rfl rfl rfl rfl sd ?_) | (refine awpQ_nil ?_) | (refine awpQ_skip rfl rfl ?_) | (refine awp_seq ?_) | (refine awp_region ?_) | (first | refine awpL_ret (hlf) rfl rfl rfl rfl rfl rfl rfl rfl ft rfl rfl ?_ | refine awpQ_ret (hlf) rfl rfl rfl rfl rfl rfl rfl rfl ft rfl rfl ?_ | refine awpHop_ret _ (hlf) rfl rfl rfl rfl rfl rfl rfl rfl rfl ft rfl rfl sb rfl ?_) | ((refine awpL_call (hsw (by omega)) rfl rfl rfl rfl rfl rfl rfl ft rfl ?_); rintro v Hout n1 ⟨rfl, rfl, rfl⟩) | (refine awp_block ?_) | (refine awp_exit ?_) | (refine awp_skip ?_) | (refine awp_ret ?_) | (refine awp_cond_t rfl ?_) | (refine awp_cond_f rfl ?_) | ((first | refine awpL_split rfl rfl rfl (fun hc => ?_) (fun hc => ?_) | refine awpQ_split rfl rfl rfl (fun hc => ?_) (fun hc => ?_) | refine awp_cond rfl (fun hc => ?_) (fun hc => ?_)) <;> ((try simp at hc) <;> try contradiction)))) <;> try (exfalso; omega))
  · have e : swR a b p t s = (swapTo s.1 (p * b) (t * b) b, swapTo s.2.1 (p * a) (t * a) a, s.2.2) := if_neg (by omega)
    rw [e]
    exact ⟨[], (), trivial, ⟨(by repeat' (first | exact trivial | refine ⟨rfl, ?_⟩ | refine ⟨congrArg some (congrArg vI (by first | omega | (simp; done) | (simp; omega))), ?_⟩ | refine ⟨sl_eqA (by first | omega | (simp; done) | (simp; omega)), ?_⟩)), (by repeat' (first | exact trivial | refine ⟨rfl, ?_⟩)), rfl⟩⟩
  · have e : swR a b p t s = s := if_pos (by omega)
    rw [e]
    exact ⟨[], (), trivial, ⟨(by repeat' (first | exact trivial | refine ⟨rfl, ?_⟩ | refine ⟨congrArg some (congrArg vI (by first | omega | (simp; done) | (simp; omega))), ?_⟩ | refine ⟨sl_eqA (by first | omega | (simp; done) | (simp; omega)), ?_⟩)), (by repeat' (first | exact trivial | refine ⟨rfl, ?_⟩)), rfl⟩⟩
  clear hlf hsw h0 hl hu
  rintro ⟨⟩ -
  have o1 : OK3 a b (swR a b p t s) := swR_ok o
  have hcx1 : (swR a b p t s).1.length ≤ cx := by rw [o1.x, ← o.x]; exact hcx
  generalize swR a b p t s = s1 at *
  clear o hcx
  have hsc := fun h => d_colsSwap a b q t cx cu cv s1 o1 ha hb hq.2 htb h
  ((repeat' (first | (refine awp_cut 4 hE (fun z : Nat × Nat => (swC a b q t s1).1.length ≤ z.1) (fun _ => [(0, vW), (1, vI t)]) (fun z => hR 3 111 a b z.1 cu z.2 (swC a b q t s1) false) 8 ?_ ?_) | (refine awpL_step TT rfl rfl rfl sd ?_) | (refine awpL_nil ?_) | (refine awpL_skip rfl rfl ?_) | (refine awpQ_step TT rfl rfl rfl rfl sd ?_) | (refine awpQ_nil ?_) | (refine awpQ_skip rfl rfl ?_) | (refine awp_seq ?_) | (refine awp_region ?_) | ((refine awpL_call (hsc (by omega)) rfl rfl rfl rfl rfl rfl rfl ft rfl ?_); rintro v Hout n1 ⟨rfl, rfl, rfl⟩) | (refine awp_block ?_) | (refine awp_exit ?_) | (refine awp_skip ?_) | (refine awp_ret ?_) | (refine awp_cond_t rfl ?_) | (refine awp_cond_f rfl ?_) | ((first | refine awpL_split rfl rfl rfl (fun hc => ?_) (fun hc => ?_) | refine awpQ_split rfl rfl rfl (fun hc => ?_) (fun hc => ?_) | refine awp_cond rfl (fun hc => ?_) (fun hc => ?_)) <;> ((try simp at hc) <;> try contradiction)))) <;> try (exfalso; omega))
  · have e : swC a b q t s1 = (turnM (swapTo (turnM s1.1 a b) (q * a) (t * a) a) b a, s1.2.1, turnM (swapTo (turnM s1.2.2 b b) (q * b) (t * b) b) b b) := if_neg (by omega)
    rw [e]
    exact ⟨[], (a * b, b * b), by (dsimp only; rw [turnM_len]; exact Nat.le_refl _), ⟨(by repeat' (first | exact trivial | refine ⟨rfl, ?_⟩ | refine ⟨congrArg some (congrArg vI (by first | omega | (simp; done) | (simp; omega))), ?_⟩ | refine ⟨sl_eqA (by first | omega | (simp; done) | (simp; omega)), ?_⟩)), (by repeat' (first | exact trivial | refine ⟨rfl, ?_⟩)), rfl⟩⟩
  · have e : swC a b q t s1 = s1 := if_pos (by omega)
    rw [e]
    exact ⟨[(6, 3), (7, 5)], (cx, cv), hcx1, ⟨(by repeat' (first | exact trivial | refine ⟨rfl, ?_⟩ | refine ⟨congrArg some (congrArg vI (by first | omega | (simp; done) | (simp; omega))), ?_⟩ | refine ⟨sl_eqA (by first | omega | (simp; done) | (simp; omega)), ?_⟩)), (by repeat' (first | exact trivial | refine ⟨rfl, ?_⟩)), rfl⟩⟩
  clear hsc
  rintro ⟨cx, cv⟩ hcx
  have o2 : OK3 a b (swC a b q t s1) := swC_ok o1
  dsimp only at hcx ⊢
  generalize swC a b q t s1 = s2 at *
  clear o1 hcx1
  ((repeat' (first | (refine awp_cut 7 hE (fun z : S3 × Bool => z.2 = false ∧ rTo a b t s2 (a - (t + 1)) = some z.1 ∨ z.2 = true ∧ rcTo a b t s2 = none) (fun _ => [(0, vW), (1, vI t), (8, vB false)]) (fun z => hR 3 111 a b cx cu cv z.1 z.2) 8 ?_ ?_) | (refine awpL_step TT rfl rfl rfl sd ?_) | (refine awpL_nil ?_) | (refine awpL_skip rfl rfl ?_) | (refine awpQ_step TT rfl rfl rfl rfl sd ?_) | (refine awpQ_nil ?_) | (refine awpQ_skip rfl rfl ?_) | (refine awp_seq ?_) | (refine awp_region ?_) | (refine awp_block ?_) | (refine awp_exit ?_) | (refine awp_skip ?_) | (refine awp_ret ?_) | (refine awp_cond_t rfl ?_) | (refine awp_cond_f rfl ?_) | ((first | refine awpL_split rfl rfl rfl (fun hc => ?_) (fun hc => ?_) | refine awpQ_split rfl rfl rfl (fun hc => ?_) (fun hc => ?_) | refine awp_cond rfl (fun hc => ?_) (fun hc => ?_)) <;> ((try simp at hc) <;> try contradiction)))) <;> try (exfalso; omega))
  · refine awp_loop hE (fun x : Nat × S3 × Bool => t + 1 + x.1 ≤ a ∧ (x.2.2 = false ∧ rTo a b t s2 x.1 = some x.2.1 ∨ x.2.2 = true ∧ rcTo a b t s2 = none)) (fun x => a - (t + 1 + x.1))
      (fun x => [(0, vW), (1, vI t), (8, vB false), (9, vI ((t + 1 + x.1 : Nat) : Int))]) (fun x => hR 3 111 a b cx cu cv x.2.1 x.2.2) 8 [] (0, s2, false) ⟨by omega, .inl ⟨rfl, rfl⟩⟩ ⟨(by repeat' (first | exact trivial | refine ⟨rfl, ?_⟩ | refine ⟨congrArg some (congrArg vI (by first | omega | (simp; done) | (simp; omega))), ?_⟩ | refine ⟨sl_eqA (by first | omega | (simp; done) | (simp; omega)), ?_⟩)), (by repeat' (first | exact trivial | refine ⟨rfl, ?_⟩)), rfl⟩ ?_
    rintro ⟨n, s, bad⟩ ⟨hn, hinv⟩
    dsimp only at hn hinv ⊢
    rcases hinv with ⟨rfl, hr⟩ | ⟨rfl, hr⟩
    · obtain ⟨o3, c1, -, -⟩ := rTo_cells o2 htb hn hr
      have hpv3 : s.1.getD (t * b + t) 0 ≠ 0 := by rw [c1 t htb]; exact hpv
      have k1 := o3.x
      have k2 := o3.u
      have hx3 : s.1.length ≤ cx := by rw [k1, ← o2.x]; exact hcx
      dsimp only [hR]
      by_cases hna : t + 1 + n < a
      · have hkn : ¬ ((a : Int) ≤ ((t + 1 + n : Nat) : Int)) := by omega
        have hd := d_atN a b (t + 1 + n) t (a * b) cx s.1 k1.symm k1 ha hb hna htb
        have hd2 := d_atN a b t t (a * b) cx s.1 k1.symm k1 ha hb hta htb
        have nn := num_at o3.nx ((t + 1 + n) * b + t)
        have nb := num_getD o3.nx ((t + 1 + n) * b + t)
        have np := num_at o3.nx (t * b + t)
        have w1 : s.1[(t + 1 + n) * b + t]?.getD 0 = s.1.getD ((t + 1 + n) * b + t) 0 := by simp
        have hgo := rTo_next hr
        by_cases hz : s.1.getD ((t + 1 + n) * b + t) 0 = 0
        · have hgo' : rTo a b t s2 (n + 1) = some s := hgo.trans (if_neg fun h => h hz)
          ((repeat' (first | (refine awpL_step TT rfl rfl rfl sd ?_) | (refine awpL_nil ?_) | (refine awpL_skip rfl rfl ?_) | (refine awpQ_step TT rfl rfl rfl rfl sd ?_) | (refine awpQ_nil ?_) | (refine awpQ_skip rfl rfl ?_) | (refine awp_seq ?_) | (refine awp_region ?_) | (first | refine awpL_ret (hd) rfl rfl rfl rfl rfl rfl rfl rfl ft rfl rfl ?_ | refine awpQ_ret (hd) rfl rfl rfl rfl rfl rfl rfl rfl ft rfl rfl ?_ | refine awpHop_ret _ (hd) rfl rfl rfl rfl rfl rfl rfl rfl rfl ft rfl rfl sb rfl ?_) | (refine awp_block ?_) | (refine awp_exit ?_) | (refine awp_skip ?_) | (refine awp_ret ?_) | (refine awp_cond_t rfl ?_) | (refine awp_cond_f rfl ?_) | (refine awp_quiet TM rfl (by kernel_rfl) ?_) | ((first | refine awpL_split rfl rfl rfl (fun hc => ?_) (fun hc => ?_) | refine awpQ_split rfl rfl rfl (fun hc => ?_) (fun hc => ?_) | refine awp_cond rfl (fun hc => ?_) (fun hc => ?_)) <;> ((try simp at hc) <;> try contradiction)))) <;> try (exfalso; omega))
          all_goals exact ⟨[], (n + 1, s, false), ⟨hna, .inl ⟨rfl, hgo'⟩⟩, (by first | omega | (dsimp only; omega)), ⟨(by repeat' (first | exact trivial | refine ⟨rfl, ?_⟩ | refine ⟨congrArg some (congrArg vI (by first | omega | (simp; done) | (simp; omega))), ?_⟩ | refine ⟨sl_eqA (by first | omega | (simp; done) | (simp; omega)), ?_⟩)), (by repeat' (first | exact trivial | refine ⟨rfl, ?_⟩)), rfl⟩⟩
        · have hgo' : rTo a b t s2 (n + 1) = (addS b a (t + 1 + n) t (-(s.1.getD ((t + 1 + n) * b + t) 0 / s.1.getD (t * b + t) 0)) (s.1, s.2.1)).map fun y => (y.1, y.2, s.2.2) := hgo.trans (if_pos hz)
          have hdf := d_dfI _ _ nn np hpv3
          rw [dfV_ok nn np hpv3] at hdf
          have hqd := Int.natAbs_ediv_le_natAbs (s.1.getD ((t + 1 + n) * b + t) 0) (s.1.getD (t * b + t) 0)
          have hwa := d_wadd a b (t + 1 + n) t (a * b) cx cu cv (-(s.1.getD ((t + 1 + n) * b + t) 0 / s.1.getD (t * b + t) 0)) s.1 s.2.1 o3.row k1.symm ha hb hna hta (by omega) (div_num nn) hx3 (by omega)
          cases hob : addS b a (t + 1 + n) t (-(s.1.getD ((t + 1 + n) * b + t) 0 / s.1.getD (t * b + t) 0)) (s.1, s.2.1) with
          | none =>
            rw [hob] at hwa hgo'
            ((repeat' (first | (refine awpL_step TT rfl rfl rfl sd ?_) | (refine awpL_nil ?_) | (refine awpL_skip rfl rfl ?_) | (refine awpQ_step TT rfl rfl rfl rfl sd ?_) | (refine awpQ_nil ?_) | (refine awpQ_skip rfl rfl ?_) | (refine awp_seq ?_) | (refine awp_region ?_) | (first | refine awpL_ret (hd) rfl rfl rfl rfl rfl rfl rfl rfl ft rfl rfl ?_ | refine awpQ_ret (hd) rfl rfl rfl rfl rfl rfl rfl rfl ft rfl rfl ?_ | refine awpHop_ret _ (hd) rfl rfl rfl rfl rfl rfl rfl rfl rfl ft rfl rfl sb rfl ?_) | (first | refine awpL_ret (hd2) rfl rfl rfl rfl rfl rfl rfl rfl ft rfl rfl ?_ | refine awpQ_ret (hd2) rfl rfl rfl rfl rfl rfl rfl rfl ft rfl rfl ?_ | refine awpHop_ret _ (hd2) rfl rfl rfl rfl rfl rfl rfl rfl rfl ft rfl rfl sb rfl ?_) | (first | refine awpL_ret (hdf) rfl rfl rfl rfl rfl rfl rfl rfl ft rfl rfl ?_ | refine awpQ_ret (hdf) rfl rfl rfl rfl rfl rfl rfl rfl ft rfl rfl ?_ | refine awpHop_ret _ (hdf) rfl rfl rfl rfl rfl rfl rfl rfl rfl ft rfl rfl sb rfl ?_) | (refine awpL_callM [(3, 6), (5, 7)] hwa rfl rfl rfl rfl rfl rfl rfl ft rfl ?_; rintro v Hout n1 ⟨rfl, rfl, ys, zs, rfl⟩) | (refine awp_block ?_) | (refine awp_exit ?_) | (refine awp_skip ?_) | (refine awp_ret ?_) | (refine awp_cond_t rfl ?_) | (refine awp_cond_f rfl ?_) | (refine awp_quiet TM rfl (by kernel_rfl) ?_) | ((first | refine awpL_split rfl rfl rfl (fun hc => ?_) (fun hc => ?_) | refine awpQ_split rfl rfl rfl (fun hc => ?_) (fun hc => ?_) | refine awp_cond rfl (fun hc => ?_) (fun hc => ?_)) <;> ((try simp at hc) <;> try contradiction)))) <;> try (exfalso; omega))
            all_goals exact ⟨[], (n + 1, s, true), ⟨hna, .inr ⟨rfl, rc_bad (by omega) hgo'⟩⟩, (by first | omega | (dsimp only; omega)), ⟨(by repeat' (first | exact trivial | refine ⟨rfl, ?_⟩ | refine ⟨congrArg some (congrArg vI (by first | omega | (simp; done) | (simp; omega))), ?_⟩ | refine ⟨sl_eqA (by first | omega | (simp; done) | (simp; omega)), ?_⟩)), (by repeat' (first | exact trivial | refine ⟨rfl, ?_⟩)), rfl⟩⟩
          | some y =>
            rw [hob] at hwa hgo'
            ((repeat' (first | (refine awpL_step TT rfl rfl rfl sd ?_) | (refine awpL_nil ?_) | (refine awpL_skip rfl rfl ?_) | (refine awpQ_step TT rfl rfl rfl rfl sd ?_) | (refine awpQ_nil ?_) | (refine awpQ_skip rfl rfl ?_) | (refine awp_seq ?_) | (refine awp_region ?_) | (first | refine awpL_ret (hd) rfl rfl rfl rfl rfl rfl rfl rfl ft rfl rfl ?_ | refine awpQ_ret (hd) rfl rfl rfl rfl rfl rfl rfl rfl ft rfl rfl ?_ | refine awpHop_ret _ (hd) rfl rfl rfl rfl rfl rfl rfl rfl rfl ft rfl rfl sb rfl ?_) | (first | refine awpL_ret (hd2) rfl rfl rfl rfl rfl rfl rfl rfl ft rfl rfl ?_ | refine awpQ_ret (hd2) rfl rfl rfl rfl rfl rfl rfl rfl ft rfl rfl ?_ | refine awpHop_ret _ (hd2) rfl rfl rfl rfl rfl rfl rfl rfl rfl ft rfl rfl sb rfl ?_) | (first | refine awpL_ret (hdf) rfl rfl rfl rfl rfl rfl rfl rfl ft rfl rfl ?_ | refine awpQ_ret (hdf) rfl rfl rfl rfl rfl rfl rfl rfl ft rfl rfl ?_ | refine awpHop_ret _ (hdf) rfl rfl rfl rfl rfl rfl rfl rfl rfl ft rfl rfl sb rfl ?_) | (refine awpL_callM [(3, 6), (5, 7)] hwa rfl rfl rfl rfl rfl rfl rfl ft rfl ?_; rintro v Hout n1 ⟨rfl, rfl, rfl⟩) | (refine awp_block ?_) | (refine awp_exit ?_) | (refine awp_skip ?_) | (refine awp_ret ?_) | (refine awp_cond_t rfl ?_) | (refine awp_cond_f rfl ?_) | (refine awp_quiet TM rfl (by kernel_rfl) ?_) | ((first | refine awpL_split rfl rfl rfl (fun hc => ?_) (fun hc => ?_) | refine awpQ_split rfl rfl rfl (fun hc => ?_) (fun hc => ?_) | refine awp_cond rfl (fun hc => ?_) (fun hc => ?_)) <;> ((try simp at hc) <;> try contradiction)))) <;> try (exfalso; omega))
            all_goals exact ⟨[], (n + 1, (y.1, y.2, s.2.2), false), ⟨hna, .inl ⟨rfl, hgo'⟩⟩, (by first | omega | (dsimp only; omega)), ⟨(by repeat' (first | exact trivial | refine ⟨rfl, ?_⟩ | refine ⟨congrArg some (congrArg vI (by first | omega | (simp; done) | (simp; omega))), ?_⟩ | refine ⟨sl_eqA (by first | omega | (simp; done) | (simp; omega)), ?_⟩)), (by repeat' (first | exact trivial | refine ⟨rfl, ?_⟩)), rfl⟩⟩
      · have hnt : n = a - (t + 1) := by omega
        have htn : ((t + 1 + n : Nat) : Int) = a := by omega
        rw [hnt] at hr
        rw [htn]
        ((repeat' (first | (refine awpL_step TT rfl rfl rfl sd ?_) | (refine awpL_nil ?_) | (refine awpL_skip rfl rfl ?_) | (refine awpQ_step TT rfl rfl rfl rfl sd ?_) | (refine awpQ_nil ?_) | (refine awpQ_skip rfl rfl ?_) | (refine awp_seq ?_) | (refine awp_region ?_) | (refine awp_block ?_) | (refine awp_exit ?_) | (refine awp_skip ?_) | (refine awp_ret ?_) | (refine awp_cond_t rfl ?_) | (refine awp_cond_f rfl ?_) | (refine awp_quiet TM rfl (by kernel_rfl) ?_) | ((first | refine awpL_split rfl rfl rfl (fun hc => ?_) (fun hc => ?_) | refine awpQ_split rfl rfl rfl (fun hc => ?_) (fun hc => ?_) | refine awp_cond rfl (fun hc => ?_) (fun hc => ?_)) <;> ((try simp at hc) <;> try contradiction)))) <;> try (exfalso; omega))
        all_goals exact ⟨[], (s, false), .inl ⟨rfl, hr⟩, ⟨(by repeat' (first | exact trivial | refine ⟨rfl, ?_⟩ | refine ⟨congrArg some (congrArg vI (by first | omega | (simp; done) | (simp; omega))), ?_⟩ | refine ⟨sl_eqA (by first | omega | (simp; done) | (simp; omega)), ?_⟩)), (by repeat' (first | exact trivial | refine ⟨rfl, ?_⟩)), rfl⟩⟩
    · dsimp only [hR]
      ((repeat' (first | (refine awpL_step TT rfl rfl rfl sd ?_) | (refine awpL_nil ?_) | (refine awpL_skip rfl rfl ?_) | (refine awpQ_step TT rfl rfl rfl rfl sd ?_) | (refine awpQ_nil ?_) | (refine awpQ_skip rfl rfl ?_) | (refine awp_seq ?_) | (refine awp_region ?_) | (refine awp_block ?_) | (refine awp_exit ?_) | (refine awp_skip ?_) | (refine awp_ret ?_) | (refine awp_cond_t rfl ?_) | (refine awp_cond_f rfl ?_) | (refine awp_quiet TM rfl (by kernel_rfl) ?_) | ((first | refine awpL_split rfl rfl rfl (fun hc => ?_) (fun hc => ?_) | refine awpQ_split rfl rfl rfl (fun hc => ?_) (fun hc => ?_) | refine awp_cond rfl (fun hc => ?_) (fun hc => ?_)) <;> ((try simp at hc) <;> try contradiction)))) <;> try (exfalso; omega))
      all_goals exact ⟨[], (s, true), .inr ⟨rfl, hr⟩, ⟨(by repeat' (first | exact trivial | refine ⟨rfl, ?_⟩ | refine ⟨congrArg some (congrArg vI (by first | omega | (simp; done) | (simp; omega))), ?_⟩ | refine ⟨sl_eqA (by first | omega | (simp; done) | (simp; omega)), ?_⟩)), (by repeat' (first | exact trivial | refine ⟨rfl, ?_⟩)), rfl⟩⟩
  rintro ⟨s3, bad⟩ hmid
  dsimp only at hmid ⊢
  ((repeat' (first | (refine awp_cut 13 hE (fun z : S3 × Bool × Nat × Nat => (z.2.1 = false ∧ rcTo a b t s2 = some z.1 ∧ z.1.1.length ≤ z.2.2.1) ∨ z.2.1 = true ∧ rcTo a b t s2 = none) (fun _ => [(0, vW), (1, vI t), (8, vB false)]) (fun z => hR 3 111 a b z.2.2.1 cu z.2.2.2 z.1 z.2.1) 8 ?_ ?_) | (refine awpL_step TT rfl rfl rfl sd ?_) | (refine awpL_nil ?_) | (refine awpL_skip rfl rfl ?_) | (refine awpQ_step TT rfl rfl rfl rfl sd ?_) | (refine awpQ_nil ?_) | (refine awpQ_skip rfl rfl ?_) | (refine awp_seq ?_) | (refine awp_region ?_) | (refine awp_block ?_) | (refine awp_exit ?_) | (refine awp_skip ?_) | (refine awp_ret ?_) | (refine awp_cond_t rfl ?_) | (refine awp_cond_f rfl ?_) | ((first | refine awpL_split rfl rfl rfl (fun hc => ?_) (fun hc => ?_) | refine awpQ_split rfl rfl rfl (fun hc => ?_) (fun hc => ?_) | refine awp_cond rfl (fun hc => ?_) (fun hc => ?_)) <;> ((try simp at hc) <;> try contradiction)))) <;> try (exfalso; omega))
  · refine awp_loop hE (fun x : Nat × S3 × Bool × Nat × Nat => t + 1 + x.1 ≤ b ∧ ((x.2.2.1 = false ∧ rTo a b t s2 (a - (t + 1)) = some s3 ∧ cTo a b t s3 x.1 = some x.2.1 ∧ x.2.1.1.length ≤ x.2.2.2.1) ∨ x.2.2.1 = true ∧ rcTo a b t s2 = none)) (fun x => b - (t + 1 + x.1))
      (fun x => [(0, vW), (1, vI t), (8, vB false), (13, vI ((t + 1 + x.1 : Nat) : Int))]) (fun x => hR 3 111 a b x.2.2.2.1 cu x.2.2.2.2 x.2.1 x.2.2.1) 8 [] (0, s3, bad, cx, cv) ⟨by omega, hmid.imp (fun h => ⟨h.1, h.2, rfl, by rw [(rTo_cells o2 htb (by omega) h.2).1.x, ← o2.x]; exact hcx⟩) (fun h => h)⟩ ⟨(by repeat' (first | exact trivial | refine ⟨rfl, ?_⟩ | refine ⟨congrArg some (congrArg vI (by first | omega | (simp; done) | (simp; omega))), ?_⟩ | refine ⟨sl_eqA (by first | omega | (simp; done) | (simp; omega)), ?_⟩)), (by cases bad <;> (repeat' (first | exact trivial | refine ⟨rfl, ?_⟩))), (by cases bad <;> rfl)⟩ ?_
    clear hmid
    rintro ⟨n, s, bad, cx, cv⟩ ⟨hn, hinv⟩
    dsimp only at hn hinv ⊢
    rcases hinv with ⟨rfl, hr0, hr, hx3⟩ | ⟨rfl, hr⟩
    · obtain ⟨o3, e1, -, -⟩ := rTo_cells o2 htb (by omega) hr0
      obtain ⟨o4, c1, -, -⟩ := cTo_cells o3 htb hta hn hr
      have hpv3 : s.1.getD (t * b + t) 0 ≠ 0 := by rw [c1 t hta, e1 t htb]; exact hpv
      have k1 := o4.x
      dsimp only [hR]
      by_cases hna : t + 1 + n < b
      · have hkn : ¬ ((b : Int) ≤ ((t + 1 + n : Nat) : Int)) := by omega
        have hd := d_atN a b t (t + 1 + n) (a * b) cx s.1 k1.symm k1 ha hb hta hna
        have hd2 := d_atN a b t t (a * b) cx s.1 k1.symm k1 ha hb hta htb
        have nn := num_at o4.nx (t * b + (t + 1 + n))
        have nb := num_getD o4.nx (t * b + (t + 1 + n))
        have np := num_at o4.nx (t * b + t)
        have w1 : s.1[t * b + (t + 1 + n)]?.getD 0 = s.1.getD (t * b + (t + 1 + n)) 0 := by simp
        have hgo := cTo_next hr
        by_cases hz : s.1.getD (t * b + (t + 1 + n)) 0 = 0
        · have hgo' : cTo a b t s3 (n + 1) = some s := hgo.trans (if_neg fun h => h hz)
          ((repeat' (first | (refine awpL_step TT rfl rfl rfl sd ?_) | (refine awpL_nil ?_) | (refine awpL_skip rfl rfl ?_) | (refine awpQ_step TT rfl rfl rfl rfl sd ?_) | (refine awpQ_nil ?_) | (refine awpQ_skip rfl rfl ?_) | (refine awp_seq ?_) | (refine awp_region ?_) | (first | refine awpL_ret (hd) rfl rfl rfl rfl rfl rfl rfl rfl ft rfl rfl ?_ | refine awpQ_ret (hd) rfl rfl rfl rfl rfl rfl rfl rfl ft rfl rfl ?_ | refine awpHop_ret _ (hd) rfl rfl rfl rfl rfl rfl rfl rfl rfl ft rfl rfl sb rfl ?_) | (refine awp_block ?_) | (refine awp_exit ?_) | (refine awp_skip ?_) | (refine awp_ret ?_) | (refine awp_cond_t rfl ?_) | (refine awp_cond_f rfl ?_) | (refine awp_quiet TM rfl (by kernel_rfl) ?_) | ((first | refine awpL_split rfl rfl rfl (fun hc => ?_) (fun hc => ?_) | refine awpQ_split rfl rfl rfl (fun hc => ?_) (fun hc => ?_) | refine awp_cond rfl (fun hc => ?_) (fun hc => ?_)) <;> ((try simp at hc) <;> try contradiction)))) <;> try (exfalso; omega))
          all_goals exact ⟨[], (n + 1, s, false, cx, cv), ⟨hna, .inl ⟨rfl, hr0, hgo', hx3⟩⟩, (by first | omega | (dsimp only; omega)), ⟨(by repeat' (first | exact trivial | refine ⟨rfl, ?_⟩ | refine ⟨congrArg some (congrArg vI (by first | omega | (simp; done) | (simp; omega))), ?_⟩ | refine ⟨sl_eqA (by first | omega | (simp; done) | (simp; omega)), ?_⟩)), (by repeat' (first | exact trivial | refine ⟨rfl, ?_⟩)), rfl⟩⟩
        · have hgo' : cTo a b t s3 (n + 1) = col3 a b (t + 1 + n) t (-(s.1.getD (t * b + (t + 1 + n)) 0 / s.1.getD (t * b + t) 0)) s := hgo.trans (if_pos hz)
          have hdf := d_dfI _ _ nn np hpv3
          rw [dfV_ok nn np hpv3] at hdf
          have hqd := Int.natAbs_ediv_le_natAbs (s.1.getD (t * b + (t + 1 + n)) 0) (s.1.getD (t * b + t) 0)
          have hwa := d_colsAdd a b (t + 1 + n) t cx cu cv (-(s.1.getD (t * b + (t + 1 + n)) 0 / s.1.getD (t * b + t) 0)) s o4 ha hb hna htb (by omega) (div_num nn)
          cases hob : col3 a b (t + 1 + n) t (-(s.1.getD (t * b + (t + 1 + n)) 0 / s.1.getD (t * b + t) 0)) s with
          | none =>
            rw [hob] at hwa hgo'
            ((repeat' (first | (refine awpL_step TT rfl rfl rfl sd ?_) | (refine awpL_nil ?_) | (refine awpL_skip rfl rfl ?_) | (refine awpQ_step TT rfl rfl rfl rfl sd ?_) | (refine awpQ_nil ?_) | (refine awpQ_skip rfl rfl ?_) | (refine awp_seq ?_) | (refine awp_region ?_) | (first | refine awpL_ret (hd) rfl rfl rfl rfl rfl rfl rfl rfl ft rfl rfl ?_ | refine awpQ_ret (hd) rfl rfl rfl rfl rfl rfl rfl rfl ft rfl rfl ?_ | refine awpHop_ret _ (hd) rfl rfl rfl rfl rfl rfl rfl rfl rfl ft rfl rfl sb rfl ?_) | (first | refine awpL_ret (hd2) rfl rfl rfl rfl rfl rfl rfl rfl ft rfl rfl ?_ | refine awpQ_ret (hd2) rfl rfl rfl rfl rfl rfl rfl rfl ft rfl rfl ?_ | refine awpHop_ret _ (hd2) rfl rfl rfl rfl rfl rfl rfl rfl rfl ft rfl rfl sb rfl ?_) | (first | refine awpL_ret (hdf) rfl rfl rfl rfl rfl rfl rfl rfl ft rfl rfl ?_ | refine awpQ_ret (hdf) rfl rfl rfl rfl rfl rfl rfl rfl ft rfl rfl ?_ | refine awpHop_ret _ (hdf) rfl rfl rfl rfl rfl rfl rfl rfl rfl ft rfl rfl sb rfl ?_) | (refine awpL_callM [(3, 6), (5, 7)] hwa rfl rfl rfl rfl rfl rfl rfl ft rfl ?_; rintro v Hout n1 ⟨rfl, rfl, rfl⟩) | (refine awp_block ?_) | (refine awp_exit ?_) | (refine awp_skip ?_) | (refine awp_ret ?_) | (refine awp_cond_t rfl ?_) | (refine awp_cond_f rfl ?_) | (refine awp_quiet TM rfl (by kernel_rfl) ?_) | ((first | refine awpL_split rfl rfl rfl (fun hc => ?_) (fun hc => ?_) | refine awpQ_split rfl rfl rfl (fun hc => ?_) (fun hc => ?_) | refine awp_cond rfl (fun hc => ?_) (fun hc => ?_)) <;> ((try simp at hc) <;> try contradiction)))) <;> try (exfalso; omega))
            all_goals exact ⟨[(6, 8), (7, 9)], (n + 1, s, true, cx, cv), ⟨hna, .inr ⟨rfl, rc_bad2 (by omega) hr0 hgo'⟩⟩, (by first | omega | (dsimp only; omega)), ⟨(by repeat' (first | exact trivial | refine ⟨rfl, ?_⟩ | refine ⟨congrArg some (congrArg vI (by first | omega | (simp; done) | (simp; omega))), ?_⟩ | refine ⟨sl_eqA (by first | omega | (simp; done) | (simp; omega)), ?_⟩)), (by repeat' (first | exact trivial | refine ⟨rfl, ?_⟩)), rfl⟩⟩
          | some y =>
            rw [hob] at hwa hgo'
            obtain ⟨o5, -, -⟩ := col3_cells o4 hna htb hob
            have hu5 : y.2.1 = s.2.1 := by
              unfold col3 at hob
              split at hob
              · cases hob; rfl
              · cases hob
            ((repeat' (first | (refine awpL_step TT rfl rfl rfl sd ?_) | (refine awpL_nil ?_) | (refine awpL_skip rfl rfl ?_) | (refine awpQ_step TT rfl rfl rfl rfl sd ?_) | (refine awpQ_nil ?_) | (refine awpQ_skip rfl rfl ?_) | (refine awp_seq ?_) | (refine awp_region ?_) | (first | refine awpL_ret (hd) rfl rfl rfl rfl rfl rfl rfl rfl ft rfl rfl ?_ | refine awpQ_ret (hd) rfl rfl rfl rfl rfl rfl rfl rfl ft rfl rfl ?_ | refine awpHop_ret _ (hd) rfl rfl rfl rfl rfl rfl rfl rfl rfl ft rfl rfl sb rfl ?_) | (first | refine awpL_ret (hd2) rfl rfl rfl rfl rfl rfl rfl rfl ft rfl rfl ?_ | refine awpQ_ret (hd2) rfl rfl rfl rfl rfl rfl rfl rfl ft rfl rfl ?_ | refine awpHop_ret _ (hd2) rfl rfl rfl rfl rfl rfl rfl rfl rfl ft rfl rfl sb rfl ?_) | (first | refine awpL_ret (hdf) rfl rfl rfl rfl rfl rfl rfl rfl ft rfl rfl ?_ | refine awpQ_ret (hdf) rfl rfl rfl rfl rfl rfl rfl rfl ft rfl rfl ?_ | refine awpHop_ret _ (hdf) rfl rfl rfl rfl rfl rfl rfl rfl rfl ft rfl rfl sb rfl ?_) | (refine awpL_callM [(3, 6), (5, 7)] hwa rfl rfl rfl rfl rfl rfl rfl ft rfl ?_; rintro v Hout n1 ⟨rfl, rfl, rfl⟩) | (refine awp_block ?_) | (refine awp_exit ?_) | (refine awp_skip ?_) | (refine awp_ret ?_) | (refine awp_cond_t rfl ?_) | (refine awp_cond_f rfl ?_) | (refine awp_quiet TM rfl (by kernel_rfl) ?_) | ((first | refine awpL_split rfl rfl rfl (fun hc => ?_) (fun hc => ?_) | refine awpQ_split rfl rfl rfl (fun hc => ?_) (fun hc => ?_) | refine awp_cond rfl (fun hc => ?_) (fun hc => ?_)) <;> ((try simp at hc) <;> try contradiction)))) <;> try (exfalso; omega))
            all_goals exact ⟨[(6, 8), (7, 9)], (n + 1, y, false, a * b, b * b), ⟨hna, .inl ⟨rfl, hr0, hgo', by dsimp only; rw [o5.x]; exact Nat.le_refl _⟩⟩, (by first | omega | (dsimp only; omega)), ⟨(by repeat' (first | exact trivial | refine ⟨rfl, ?_⟩ | refine ⟨congrArg some (congrArg vI (by first | omega | (simp; done) | (simp; omega))), ?_⟩ | refine ⟨sl_eqA (by first | omega | (simp; done) | (simp; omega)), ?_⟩)), ⟨rfl, own_ints hu5.symm, rfl, rfl, trivial⟩, rfl⟩⟩
      · have hnt : n = b - (t + 1) := by omega
        have htn : ((t + 1 + n : Nat) : Int) = b := by omega
        rw [hnt] at hr
        rw [htn]
        have hrc : rcTo a b t s2 = some s := by rw [rcTo, hr0, Option.bind_some, hr]
        ((repeat' (first | (refine awpL_step TT rfl rfl rfl sd ?_) | (refine awpL_nil ?_) | (refine awpL_skip rfl rfl ?_) | (refine awpQ_step TT rfl rfl rfl rfl sd ?_) | (refine awpQ_nil ?_) | (refine awpQ_skip rfl rfl ?_) | (refine awp_seq ?_) | (refine awp_region ?_) | (refine awp_block ?_) | (refine awp_exit ?_) | (refine awp_skip ?_) | (refine awp_ret ?_) | (refine awp_cond_t rfl ?_) | (refine awp_cond_f rfl ?_) | (refine awp_quiet TM rfl (by kernel_rfl) ?_) | ((first | refine awpL_split rfl rfl rfl (fun hc => ?_) (fun hc => ?_) | refine awpQ_split rfl rfl rfl (fun hc => ?_) (fun hc => ?_) | refine awp_cond rfl (fun hc => ?_) (fun hc => ?_)) <;> ((try simp at hc) <;> try contradiction)))) <;> try (exfalso; omega))
        all_goals exact ⟨[], (s, false, cx, cv), .inl ⟨rfl, hrc, hx3⟩, ⟨(by repeat' (first | exact trivial | refine ⟨rfl, ?_⟩ | refine ⟨congrArg some (congrArg vI (by first | omega | (simp; done) | (simp; omega))), ?_⟩ | refine ⟨sl_eqA (by first | omega | (simp; done) | (simp; omega)), ?_⟩)), (by repeat' (first | exact trivial | refine ⟨rfl, ?_⟩)), rfl⟩⟩
    · dsimp only [hR]
      ((repeat' (first | (refine awpL_step TT rfl rfl rfl sd ?_) | (refine awpL_nil ?_) | (refine awpL_skip rfl rfl ?_) | (refine awpQ_step TT rfl rfl rfl rfl sd ?_) | (refine awpQ_nil ?_) | (refine awpQ_skip rfl rfl ?_) | (refine awp_seq ?_) | (refine awp_region ?_) | (refine awp_block ?_) | (refine awp_exit ?_) | (refine awp_skip ?_) | (refine awp_ret ?_) | (refine awp_cond_t rfl ?_) | (refine awp_cond_f rfl ?_) | (refine awp_quiet TM rfl (by kernel_rfl) ?_) | ((first | refine awpL_split rfl rfl rfl (fun hc => ?_) (fun hc => ?_) | refine awpQ_split rfl rfl rfl (fun hc => ?_) (fun hc => ?_) | refine awp_cond rfl (fun hc => ?_) (fun hc => ?_)) <;> ((try simp at hc) <;> try contradiction)))) <;> try (exfalso; omega))
      all_goals exact ⟨[], (s, true, cx, cv), .inr ⟨rfl, hr⟩, ⟨(by repeat' (first | exact trivial | refine ⟨rfl, ?_⟩ | refine ⟨congrArg some (congrArg vI (by first | omega | (simp; done) | (simp; omega))), ?_⟩ | refine ⟨sl_eqA (by first | omega | (simp; done) | (simp; omega)), ?_⟩)), (by repeat' (first | exact trivial | refine ⟨rfl, ?_⟩)), rfl⟩⟩
  clear hmid hcx cx cv
  rintro ⟨s, bad, cx, cv⟩ hmid
  dsimp only at hmid ⊢
  unfold rndS
  rcases hmid with ⟨rfl, hrc, hcx⟩ | ⟨rfl, hrc⟩
  rotate_left
  · rw [hrc, Option.bind_none]
    dsimp only [hR]
    ((repeat' (first | (refine awpL_step TT rfl rfl rfl sd ?_) | (refine awpL_nil ?_) | (refine awpL_skip rfl rfl ?_) | (refine awpQ_step TT rfl rfl rfl rfl sd ?_) | (refine awpQ_nil ?_) | (refine awpQ_skip rfl rfl ?_) | (refine awp_seq ?_) | (refine awp_region ?_) | (refine awp_block ?_) | (refine awp_exit ?_) | (refine awp_skip ?_) | (refine awp_ret ?_) | (refine awp_cond_t rfl ?_) | (refine awp_cond_f rfl ?_) | (refine awp_quiet TM rfl (by kernel_rfl) ?_) | ((first | refine awpL_split rfl rfl rfl (fun hc => ?_) (fun hc => ?_) | refine awpQ_split rfl rfl rfl (fun hc => ?_) (fun hc => ?_) | refine awp_cond rfl (fun hc => ?_) (fun hc => ?_)) <;> ((try simp at hc) <;> try contradiction)))) <;> try (exfalso; omega))
    all_goals exact fin rfl (by repeat' (first | exact trivial | exact Nat.zero_lt_one | omega | refine ⟨?_, ?_⟩)) [] (vB false) [(2, .own 111 1 (.lit (workL 6 4 7 a b (a * b) cx cu cv true)))] 8 ⟨rfl, _, _, _, rfl, rfl⟩ rfl ⟨trivial, ⟨rfl, trivial⟩, rfl⟩ rfl
  rw [hrc, Option.bind_some]
  obtain ⟨o3, c1, -, -⟩ := rc_cells o2 hta htb hrc
  have hpv3 : s.1.getD (t * b + t) 0 ≠ 0 := by rw [c1]; exact hpv
  clear c1 hpv hrc o2 s2 s3 bad s1
  have k1 := o3.x
  have k2 := o3.u
  dsimp only [hR]
  ((repeat' (first | (refine awp_cut 21 hE (fun _ : Unit => True) (fun _ => [(0, vW), (1, vI t), (8, vB (!decide (zr s.1 b t (a - (t + 1)))))]) (fun _ => hR 3 111 a b cx cu cv s false) 8 ?_ ?_) | (refine awpL_step TT rfl rfl rfl sd ?_) | (refine awpL_nil ?_) | (refine awpL_skip rfl rfl ?_) | (refine awpQ_step TT rfl rfl rfl rfl sd ?_) | (refine awpQ_nil ?_) | (refine awpQ_skip rfl rfl ?_) | (refine awp_seq ?_) | (refine awp_region ?_) | (refine awp_block ?_) | (refine awp_exit ?_) | (refine awp_skip ?_) | (refine awp_ret ?_) | (refine awp_cond_t rfl ?_) | (refine awp_cond_f rfl ?_) | ((first | refine awpL_split rfl rfl rfl (fun hc => ?_) (fun hc => ?_) | refine awpQ_split rfl rfl rfl (fun hc => ?_) (fun hc => ?_) | refine awp_cond rfl (fun hc => ?_) (fun hc => ?_)) <;> ((try simp at hc) <;> try contradiction)))) <;> try (exfalso; omega))
  · refine awp_loop hE (fun n : Nat => t + 1 + n ≤ a) (fun n => a - (t + 1 + n))
      (fun n => [(0, vW), (1, vI t), (8, vB (!decide (zr s.1 b t n))), (17, vI ((t + 1 + n : Nat) : Int))]) (fun _ => hR 3 111 a b cx cu cv s false) 8 [] 0 (by omega) ⟨⟨rfl, rfl, congrArg some (congrArg vB (by rw [zr_zero]; rfl)), congrArg some (congrArg vI (by omega)), trivial⟩, ⟨rfl, rfl, rfl, rfl, trivial⟩, rfl⟩ ?_
    intro n hn
    dsimp only [hR]
    by_cases hna : t + 1 + n < a
    · have hkn : ¬ ((a : Int) ≤ ((t + 1 + n : Nat) : Int)) := by omega
      have hd := d_atN a b (t + 1 + n) t (a * b) cx s.1 k1.symm k1 ha hb hna htb
      have w1 : s.1[(t + 1 + n) * b + t]?.getD 0 = s.1.getD ((t + 1 + n) * b + t) 0 := by simp
      have hz := zr_dec (xs := s.1) (c := b) (t := t) (n := n)
      cases hzz : (!decide (zr s.1 b t n))
      · rw [hzz, Bool.false_or] at hz
        by_cases h0 : s.1.getD ((t + 1 + n) * b + t) 0 = 0
        · rw [decide_eq_true h0] at hz
          ((repeat' (first | (refine awpL_step TT rfl rfl rfl sd ?_) | (refine awpL_nil ?_) | (refine awpL_skip rfl rfl ?_) | (refine awpQ_step TT rfl rfl rfl rfl sd ?_) | (refine awpQ_nil ?_) | (refine awpQ_skip rfl rfl ?_) | (refine awp_seq ?_) | (refine awp_region ?_) | (first | refine awpL_ret (hd) rfl rfl rfl rfl rfl rfl rfl rfl ft rfl rfl ?_ | refine awpQ_ret (hd) rfl rfl rfl rfl rfl rfl rfl rfl ft rfl rfl ?_ | refine awpHop_ret _ (hd) rfl rfl rfl rfl rfl rfl rfl rfl rfl ft rfl rfl sb rfl ?_) | (refine awp_block ?_) | (refine awp_exit ?_) | (refine awp_skip ?_) | (refine awp_ret ?_) | (refine awp_cond_t rfl ?_) | (refine awp_cond_f rfl ?_) | (refine awp_quiet TM rfl (by kernel_rfl) ?_) | ((first | refine awpL_split rfl rfl rfl (fun hc => ?_) (fun hc => ?_) | refine awpQ_split rfl rfl rfl (fun hc => ?_) (fun hc => ?_) | refine awp_cond rfl (fun hc => ?_) (fun hc => ?_)) <;> ((try simp at hc) <;> try contradiction)))) <;> try (exfalso; omega))
          all_goals exact ⟨[], n + 1, hna, (by first | omega | (dsimp only; omega)), ⟨⟨rfl, rfl, congrArg some (congrArg vB (by first | (simp only [hz, h0]; done) | (simp only [hz, h0]; rfl) | (rw [hz, decide_eq_true h0]; rfl) | (rw [hz, decide_eq_false h0]; rfl) | (rw [hz]; simp [h0]))), congrArg some (congrArg vI (by omega)), trivial⟩, ⟨rfl, rfl, rfl, rfl, trivial⟩, rfl⟩⟩
        · rw [decide_eq_false h0] at hz
          ((repeat' (first | (refine awpL_step TT rfl rfl rfl sd ?_) | (refine awpL_nil ?_) | (refine awpL_skip rfl rfl ?_) | (refine awpQ_step TT rfl rfl rfl rfl sd ?_) | (refine awpQ_nil ?_) | (refine awpQ_skip rfl rfl ?_) | (refine awp_seq ?_) | (refine awp_region ?_) | (first | refine awpL_ret (hd) rfl rfl rfl rfl rfl rfl rfl rfl ft rfl rfl ?_ | refine awpQ_ret (hd) rfl rfl rfl rfl rfl rfl rfl rfl ft rfl rfl ?_ | refine awpHop_ret _ (hd) rfl rfl rfl rfl rfl rfl rfl rfl rfl ft rfl rfl sb rfl ?_) | (refine awp_block ?_) | (refine awp_exit ?_) | (refine awp_skip ?_) | (refine awp_ret ?_) | (refine awp_cond_t rfl ?_) | (refine awp_cond_f rfl ?_) | (refine awp_quiet TM rfl (by kernel_rfl) ?_) | ((first | refine awpL_split rfl rfl rfl (fun hc => ?_) (fun hc => ?_) | refine awpQ_split rfl rfl rfl (fun hc => ?_) (fun hc => ?_) | refine awp_cond rfl (fun hc => ?_) (fun hc => ?_)) <;> ((try simp at hc) <;> try contradiction)))) <;> try (exfalso; omega))
          all_goals exact ⟨[], n + 1, hna, (by first | omega | (dsimp only; omega)), ⟨⟨rfl, rfl, congrArg some (congrArg vB (by first | (simp only [hz, h0]; done) | (simp only [hz, h0]; rfl) | (rw [hz, decide_eq_true h0]; rfl) | (rw [hz, decide_eq_false h0]; rfl) | (rw [hz]; simp [h0]))), congrArg some (congrArg vI (by omega)), trivial⟩, ⟨rfl, rfl, rfl, rfl, trivial⟩, rfl⟩⟩
      · rw [hzz, Bool.true_or] at hz
        ((repeat' (first | (refine awpL_step TT rfl rfl rfl sd ?_) | (refine awpL_nil ?_) | (refine awpL_skip rfl rfl ?_) | (refine awpQ_step TT rfl rfl rfl rfl sd ?_) | (refine awpQ_nil ?_) | (refine awpQ_skip rfl rfl ?_) | (refine awp_seq ?_) | (refine awp_region ?_) | (first | refine awpL_ret (hd) rfl rfl rfl rfl rfl rfl rfl rfl ft rfl rfl ?_ | refine awpQ_ret (hd) rfl rfl rfl rfl rfl rfl rfl rfl ft rfl rfl ?_ | refine awpHop_ret _ (hd) rfl rfl rfl rfl rfl rfl rfl rfl rfl ft rfl rfl sb rfl ?_) | (refine awp_block ?_) | (refine awp_exit ?_) | (refine awp_skip ?_) | (refine awp_ret ?_) | (refine awp_cond_t rfl ?_) | (refine awp_cond_f rfl ?_) | (refine awp_quiet TM rfl (by kernel_rfl) ?_) | ((first | refine awpL_split rfl rfl rfl (fun hc => ?_) (fun hc => ?_) | refine awpQ_split rfl rfl rfl (fun hc => ?_) (fun hc => ?_) | refine awp_cond rfl (fun hc => ?_) (fun hc => ?_)) <;> ((try simp at hc) <;> try contradiction)))) <;> try (exfalso; omega))
        all_goals exact ⟨[], n + 1, hna, (by first | omega | (dsimp only; omega)), ⟨⟨rfl, rfl, congrArg some (congrArg vB (by first | (simp only [hz]; done) | (simp only [hz]; rfl) | (rw [hz]; simp))), congrArg some (congrArg vI (by omega)), trivial⟩, ⟨rfl, rfl, rfl, rfl, trivial⟩, rfl⟩⟩
    · have hnt : n = a - (t + 1) := by omega
      have htn : ((t + 1 + n : Nat) : Int) = a := by omega
      rw [htn, hnt]
      ((repeat' (first | (refine awpL_step TT rfl rfl rfl sd ?_) | (refine awpL_nil ?_) | (refine awpL_skip rfl rfl ?_) | (refine awpQ_step TT rfl rfl rfl rfl sd ?_) | (refine awpQ_nil ?_) | (refine awpQ_skip rfl rfl ?_) | (refine awp_seq ?_) | (refine awp_region ?_) | (refine awp_block ?_) | (refine awp_exit ?_) | (refine awp_skip ?_) | (refine awp_ret ?_) | (refine awp_cond_t rfl ?_) | (refine awp_cond_f rfl ?_) | (refine awp_quiet TM rfl (by kernel_rfl) ?_) | ((first | refine awpL_split rfl rfl rfl (fun hc => ?_) (fun hc => ?_) | refine awpQ_split rfl rfl rfl (fun hc => ?_) (fun hc => ?_) | refine awp_cond rfl (fun hc => ?_) (fun hc => ?_)) <;> ((try simp at hc) <;> try contradiction)))) <;> try (exfalso; omega))
      all_goals exact ⟨[], (), trivial, ⟨(by repeat' (first | exact trivial | refine ⟨rfl, ?_⟩ | refine ⟨congrArg some (congrArg vI (by first | omega | (simp; done) | (simp; omega))), ?_⟩ | refine ⟨sl_eqA (by first | omega | (simp; done) | (simp; omega)), ?_⟩)), (by repeat' (first | exact trivial | refine ⟨rfl, ?_⟩)), rfl⟩⟩
  rintro ⟨⟩ -
  dsimp only [hR]
  ((repeat' (first | (refine awp_cut 25 hE (fun _ : Unit => True) (fun _ => [(0, vW), (1, vI t), (8, vB (!decide (zr s.1 b t (a - (t + 1))) || !decide (zc s.1 b t (b - (t + 1)))))]) (fun _ => hR 3 111 a b cx cu cv s false) 8 ?_ ?_) | (refine awpL_step TT rfl rfl rfl sd ?_) | (refine awpL_nil ?_) | (refine awpL_skip rfl rfl ?_) | (refine awpQ_step TT rfl rfl rfl rfl sd ?_) | (refine awpQ_nil ?_) | (refine awpQ_skip rfl rfl ?_) | (refine awp_seq ?_) | (refine awp_region ?_) | (refine awp_block ?_) | (refine awp_exit ?_) | (refine awp_skip ?_) | (refine awp_ret ?_) | (refine awp_cond_t rfl ?_) | (refine awp_cond_f rfl ?_) | ((first | refine awpL_split rfl rfl rfl (fun hc => ?_) (fun hc => ?_) | refine awpQ_split rfl rfl rfl (fun hc => ?_) (fun hc => ?_) | refine awp_cond rfl (fun hc => ?_) (fun hc => ?_)) <;> ((try simp at hc) <;> try contradiction)))) <;> try (exfalso; omega))
  · refine awp_loop hE (fun n : Nat => t + 1 + n ≤ b) (fun n => b - (t + 1 + n))
      (fun n => [(0, vW), (1, vI t), (8, vB (!decide (zr s.1 b t (a - (t + 1))) || !decide (zc s.1 b t n))), (18, vI ((t + 1 + n : Nat) : Int))]) (fun _ => hR 3 111 a b cx cu cv s false) 8 [] 0 (by omega) ⟨⟨rfl, rfl, congrArg some (congrArg vB (by rw [zc_zero]; simp)), congrArg some (congrArg vI (by omega)), trivial⟩, ⟨rfl, rfl, rfl, rfl, trivial⟩, rfl⟩ ?_
    intro n hn
    dsimp only [hR]
    by_cases hna : t + 1 + n < b
    · have hkn : ¬ ((b : Int) ≤ ((t + 1 + n : Nat) : Int)) := by omega
      have hd := d_atN a b t (t + 1 + n) (a * b) cx s.1 k1.symm k1 ha hb hta hna
      have w1 : s.1[t * b + (t + 1 + n)]?.getD 0 = s.1.getD (t * b + (t + 1 + n)) 0 := by simp
      have hz : (!decide (zr s.1 b t (a - (t + 1))) || !decide (zc s.1 b t (n + 1))) = ((!decide (zr s.1 b t (a - (t + 1))) || !decide (zc s.1 b t n)) || !decide (s.1.getD (t * b + (t + 1 + n)) 0 = 0)) := by rw [zc_dec, Bool.or_assoc]
      cases hzz : (!decide (zr s.1 b t (a - (t + 1))) || !decide (zc s.1 b t n))
      · rw [hzz, Bool.false_or] at hz
        by_cases h0 : s.1.getD (t * b + (t + 1 + n)) 0 = 0
        · rw [decide_eq_true h0] at hz
          ((repeat' (first | (refine awpL_step TT rfl rfl rfl sd ?_) | (refine awpL_nil ?_) | (refine awpL_skip rfl rfl ?_) | (refine awpQ_step TT rfl rfl rfl rfl sd ?_) | (refine awpQ_nil ?_) | (refine awpQ_skip rfl rfl ?_) | (refine awp_seq ?_) | (refine awp_region ?_) | (first | refine awpL_ret (hd) rfl rfl rfl rfl rfl rfl rfl rfl ft rfl rfl ?_ | refine awpQ_ret (hd) rfl rfl rfl rfl rfl rfl rfl rfl ft rfl rfl ?_ | refine awpHop_ret _ (hd) rfl rfl rfl rfl rfl rfl rfl rfl rfl ft rfl rfl sb rfl ?_) | (refine awp_block ?_) | (refine awp_exit ?_) | (refine awp_skip ?_) | (refine awp_ret ?_) | (refine awp_cond_t rfl ?_) | (refine awp_cond_f rfl ?_) | (refine awp_quiet TM rfl (by kernel_rfl) ?_) | ((first | refine awpL_split rfl rfl rfl (fun hc => ?_) (fun hc => ?_) | refine awpQ_split rfl rfl rfl (fun hc => ?_) (fun hc => ?_) | refine awp_cond rfl (fun hc => ?_) (fun hc => ?_)) <;> ((try simp at hc) <;> try contradiction)))) <;> try (exfalso; omega))
          all_goals exact ⟨[], n + 1, hna, (by first | omega | (dsimp only; omega)), ⟨⟨rfl, rfl, congrArg some (congrArg vB (by first | (simp only [hz, h0]; done) | (simp only [hz, h0]; rfl) | (rw [hz, decide_eq_true h0]; rfl) | (rw [hz, decide_eq_false h0]; rfl) | (rw [hz]; simp [h0]))), congrArg some (congrArg vI (by omega)), trivial⟩, ⟨rfl, rfl, rfl, rfl, trivial⟩, rfl⟩⟩
        · rw [decide_eq_false h0] at hz
          ((repeat' (first | (refine awpL_step TT rfl rfl rfl sd ?_) | (refine awpL_nil ?_) | (refine awpL_skip rfl rfl ?_) | (refine awpQ_step TT rfl rfl rfl rfl sd ?_) | (refine awpQ_nil ?_) | (refine awpQ_skip rfl rfl ?_) | (refine awp_seq ?_) | (refine awp_region ?_) | (first | refine awpL_ret (hd) rfl rfl rfl rfl rfl rfl rfl rfl ft rfl rfl ?_ | refine awpQ_ret (hd) rfl rfl rfl rfl rfl rfl rfl rfl ft rfl rfl ?_ | refine awpHop_ret _ (hd) rfl rfl rfl rfl rfl rfl rfl rfl rfl ft rfl rfl sb rfl ?_) | (refine awp_block ?_) | (refine awp_exit ?_) | (refine awp_skip ?_) | (refine awp_ret ?_) | (refine awp_cond_t rfl ?_) | (refine awp_cond_f rfl ?_) | (refine awp_quiet TM rfl (by kernel_rfl) ?_) | ((first | refine awpL_split rfl rfl rfl (fun hc => ?_) (fun hc => ?_) | refine awpQ_split rfl rfl rfl (fun hc => ?_) (fun hc => ?_) | refine awp_cond rfl (fun hc => ?_) (fun hc => ?_)) <;> ((try simp at hc) <;> try contradiction)))) <;> try (exfalso; omega))
          all_goals exact ⟨[], n + 1, hna, (by first | omega | (dsimp only; omega)), ⟨⟨rfl, rfl, congrArg some (congrArg vB (by first | (simp only [hz, h0]; done) | (simp only [hz, h0]; rfl) | (rw [hz, decide_eq_true h0]; rfl) | (rw [hz, decide_eq_false h0]; rfl) | (rw [hz]; simp [h0]))), congrArg some (congrArg vI (by omega)), trivial⟩, ⟨rfl, rfl, rfl, rfl, trivial⟩, rfl⟩⟩
      · rw [hzz, Bool.true_or] at hz
        ((repeat' (first | (refine awpL_step TT rfl rfl rfl sd ?_) | (refine awpL_nil ?_) | (refine awpL_skip rfl rfl ?_) | (refine awpQ_step TT rfl rfl rfl rfl sd ?_) | (refine awpQ_nil ?_) | (refine awpQ_skip rfl rfl ?_) | (refine awp_seq ?_) | (refine awp_region ?_) | (first | refine awpL_ret (hd) rfl rfl rfl rfl rfl rfl rfl rfl ft rfl rfl ?_ | refine awpQ_ret (hd) rfl rfl rfl rfl rfl rfl rfl rfl ft rfl rfl ?_ | refine awpHop_ret _ (hd) rfl rfl rfl rfl rfl rfl rfl rfl rfl ft rfl rfl sb rfl ?_) | (refine awp_block ?_) | (refine awp_exit ?_) | (refine awp_skip ?_) | (refine awp_ret ?_) | (refine awp_cond_t rfl ?_) | (refine awp_cond_f rfl ?_) | (refine awp_quiet TM rfl (by kernel_rfl) ?_) | ((first | refine awpL_split rfl rfl rfl (fun hc => ?_) (fun hc => ?_) | refine awpQ_split rfl rfl rfl (fun hc => ?_) (fun hc => ?_) | refine awp_cond rfl (fun hc => ?_) (fun hc => ?_)) <;> ((try simp at hc) <;> try contradiction)))) <;> try (exfalso; omega))
        all_goals exact ⟨[], n + 1, hna, (by first | omega | (dsimp only; omega)), ⟨⟨rfl, rfl, congrArg some (congrArg vB (by first | (simp only [hz]; done) | (simp only [hz]; rfl) | (rw [hz]; simp))), congrArg some (congrArg vI (by omega)), trivial⟩, ⟨rfl, rfl, rfl, rfl, trivial⟩, rfl⟩⟩
    · have hnt : n = b - (t + 1) := by omega
      have htn : ((t + 1 + n : Nat) : Int) = b := by omega
      rw [htn, hnt]
      ((repeat' (first | (refine awpL_step TT rfl rfl rfl sd ?_) | (refine awpL_nil ?_) | (refine awpL_skip rfl rfl ?_) | (refine awpQ_step TT rfl rfl rfl rfl sd ?_) | (refine awpQ_nil ?_) | (refine awpQ_skip rfl rfl ?_) | (refine awp_seq ?_) | (refine awp_region ?_) | (refine awp_block ?_) | (refine awp_exit ?_) | (refine awp_skip ?_) | (refine awp_ret ?_) | (refine awp_cond_t rfl ?_) | (refine awp_cond_f rfl ?_) | (refine awp_quiet TM rfl (by kernel_rfl) ?_) | ((first | refine awpL_split rfl rfl rfl (fun hc => ?_) (fun hc => ?_) | refine awpQ_split rfl rfl rfl (fun hc => ?_) (fun hc => ?_) | refine awp_cond rfl (fun hc => ?_) (fun hc => ?_)) <;> ((try simp at hc) <;> try contradiction)))) <;> try (exfalso; omega))
      all_goals exact ⟨[], (), trivial, ⟨(by repeat' (first | exact trivial | refine ⟨rfl, ?_⟩ | refine ⟨congrArg some (congrArg vI (by first | omega | (simp; done) | (simp; omega))), ?_⟩ | refine ⟨sl_eqA (by first | omega | (simp; done) | (simp; omega)), ?_⟩)), (by repeat' (first | exact trivial | refine ⟨rfl, ?_⟩)), rfl⟩⟩
  rintro ⟨⟩ -
  dsimp only [hR]
  by_cases hcl : zr s.1 b t (a - (t + 1)) ∧ zc s.1 b t (b - (t + 1))
  rotate_left
  · have hend : endR a b t s = some (s, true) := if_neg hcl
    have hb : (!decide (zr s.1 b t (a - (t + 1))) || !decide (zc s.1 b t (b - (t + 1)))) = true := by
      by_cases h1 : zr s.1 b t (a - (t + 1))
      · rw [decide_eq_false fun h2 => hcl ⟨h1, h2⟩]; simp
      · rw [decide_eq_false h1]; simp
    rw [hend, hb]
    ((repeat' (first | (refine awpL_step TT rfl rfl rfl sd ?_) | (refine awpL_nil ?_) | (refine awpL_skip rfl rfl ?_) | (refine awpQ_step TT rfl rfl rfl rfl sd ?_) | (refine awpQ_nil ?_) | (refine awpQ_skip rfl rfl ?_) | (refine awp_seq ?_) | (refine awp_region ?_) | (refine awp_block ?_) | (refine awp_exit ?_) | (refine awp_skip ?_) | (refine awp_ret ?_) | (refine awp_cond_t rfl ?_) | (refine awp_cond_f rfl ?_) | (refine awp_quiet TM rfl (by kernel_rfl) ?_) | ((first | refine awpL_split rfl rfl rfl (fun hc => ?_) (fun hc => ?_) | refine awpQ_split rfl rfl rfl (fun hc => ?_) (fun hc => ?_) | refine awp_cond rfl (fun hc => ?_) (fun hc => ?_)) <;> ((try simp at hc) <;> try contradiction)))) <;> try (exfalso; omega))
    all_goals exact fin rfl (by repeat' (first | exact trivial | exact Nat.zero_lt_one | omega | refine ⟨?_, ?_⟩)) [] (vB true) [(2, .own 111 1 (.lit (workL 6 4 7 a b (a * b) cx cu cv false))), (4, .own 3 cu (.ints s.2.1)), (6, .own 3 cx (.ints s.1)), (7, .own 3 cv (.ints s.2.2))] 8 ⟨rfl, _, _, hcx, rfl, rfl⟩ rfl ⟨trivial, ⟨rfl, rfl, rfl, rfl, trivial⟩, rfl⟩ rfl
  · have hbb : (!decide (zr s.1 b t (a - (t + 1))) || !decide (zc s.1 b t (b - (t + 1)))) = false := by rw [decide_eq_true hcl.1, decide_eq_true hcl.2]; rfl
    rw [hbb]
    have hend : endR a b t s = match ndTo s.1 b t (s.1.getD (t * b + t) 0) (b - (t + 1)) (a - (t + 1)) with | none => some (s, false) | some i => (row3 a b t i 1 s).map fun x => (x, true) := if_pos hcl
    have hd2 := d_atN a b t t (a * b) cx s.1 k1.symm k1 ha hb hta htb
    have np := num_getD o3.nx (t * b + t)
    have wp : s.1[t * b + t]?.getD 0 = s.1.getD (t * b + t) 0 := by simp
    ((repeat' (first | (refine awpL_step TT rfl rfl rfl sd ?_) | (refine awpL_nil ?_) | (refine awpL_skip rfl rfl ?_) | (refine awpQ_step TT rfl rfl rfl rfl sd ?_) | (refine awpQ_nil ?_) | (refine awpQ_skip rfl rfl ?_) | (refine awp_seq ?_) | (refine awp_region ?_) | (refine awp_block ?_) | (refine awp_exit ?_) | (refine awp_skip ?_) | (refine awp_ret ?_) | (refine awp_cond_t rfl ?_) | (refine awp_cond_f rfl ?_) | ((first | refine awpL_split rfl rfl rfl (fun hc => ?_) (fun hc => ?_) | refine awpQ_split rfl rfl rfl (fun hc => ?_) (fun hc => ?_) | refine awp_cond rfl (fun hc => ?_) (fun hc => ?_)) <;> ((try simp at hc) <;> try contradiction)))) <;> try (exfalso; omega))
    refine awp_loop hE (fun n : Nat => t + 1 + n ≤ a ∧ ndTo s.1 b t (s.1.getD (t * b + t) 0) (b - (t + 1)) n = none) (fun n => a - (t + 1 + n))
      (fun n => [(0, vW), (1, vI t), (19, vI ((t + 1 + n : Nat) : Int))]) (fun _ => hR 3 111 a b cx cu cv s false) 8 [] 0 ⟨by omega, rfl⟩ ⟨(by repeat' (first | exact trivial | refine ⟨rfl, ?_⟩ | refine ⟨congrArg some (congrArg vI (by first | omega | (simp; done) | (simp; omega))), ?_⟩ | refine ⟨sl_eqA (by first | omega | (simp; done) | (simp; omega)), ?_⟩)), (by repeat' (first | exact trivial | refine ⟨rfl, ?_⟩)), rfl⟩ ?_
    rintro n ⟨hn, hnd⟩
    dsimp only [hR]
    by_cases hna : t + 1 + n < a
    · have hkn : ¬ ((a : Int) ≤ ((t + 1 + n : Nat) : Int)) := by omega
      ((repeat' (first | (refine awpL_step TT rfl rfl rfl sd ?_) | (refine awpL_nil ?_) | (refine awpL_skip rfl rfl ?_) | (refine awpQ_step TT rfl rfl rfl rfl sd ?_) | (refine awpQ_nil ?_) | (refine awpQ_skip rfl rfl ?_) | (refine awp_seq ?_) | (refine awp_region ?_) | (refine awp_block ?_) | (refine awp_exit ?_) | (refine awp_skip ?_) | (refine awp_ret ?_) | (refine awp_cond_t rfl ?_) | (refine awp_cond_f rfl ?_) | (refine awp_quiet TM rfl (by kernel_rfl) ?_) | ((first | refine awpL_split rfl rfl rfl (fun hc => ?_) (fun hc => ?_) | refine awpQ_split rfl rfl rfl (fun hc => ?_) (fun hc => ?_) | refine awp_cond rfl (fun hc => ?_) (fun hc => ?_)) <;> ((try simp at hc) <;> try contradiction)))) <;> try (exfalso; omega))
      refine awp_loop hE (fun m : Nat => t + 1 + m ≤ b ∧ dv s.1 b t (s.1.getD (t * b + t) 0) (t + 1 + n) m) (fun m => b - (t + 1 + m))
        (fun m => [(0, vW), (1, vI t), (19, vI ((t + 1 + n : Nat) : Int)), (20, vI ((t + 1 + m : Nat) : Int))]) (fun _ => hR 3 111 a b cx cu cv s false) 8 [] 0 ⟨by omega, fun j hj => by omega⟩ ⟨(by repeat' (first | exact trivial | refine ⟨rfl, ?_⟩ | refine ⟨congrArg some (congrArg vI (by first | omega | (simp; done) | (simp; omega))), ?_⟩ | refine ⟨sl_eqA (by first | omega | (simp; done) | (simp; omega)), ?_⟩)), (by repeat' (first | exact trivial | refine ⟨rfl, ?_⟩)), rfl⟩ ?_
      rintro m ⟨hm, hdv⟩
      dsimp only [hR]
      by_cases hmb : t + 1 + m < b
      · have hkm : ¬ ((b : Int) ≤ ((t + 1 + m : Nat) : Int)) := by omega
        have hd := d_atN a b (t + 1 + n) (t + 1 + m) (a * b) cx s.1 k1.symm k1 ha hb hna hmb
        have nb := num_getD o3.nx ((t + 1 + n) * b + (t + 1 + m))
        have w1 : s.1[(t + 1 + n) * b + (t + 1 + m)]?.getD 0 = s.1.getD ((t + 1 + n) * b + (t + 1 + m)) 0 := by simp
        by_cases h0 : Int.tmod (s.1.getD ((t + 1 + n) * b + (t + 1 + m)) 0) (s.1.getD (t * b + t) 0) = 0
        · have hdv' := dv_next hdv h0
          ((repeat' (first | (refine awpL_step TT rfl rfl rfl sd ?_) | (refine awpL_nil ?_) | (refine awpL_skip rfl rfl ?_) | (refine awpQ_step TT rfl rfl rfl rfl sd ?_) | (refine awpQ_nil ?_) | (refine awpQ_skip rfl rfl ?_) | (refine awp_seq ?_) | (refine awp_region ?_) | (first | refine awpL_ret (hd) rfl rfl rfl rfl rfl rfl rfl rfl ft rfl rfl ?_ | refine awpQ_ret (hd) rfl rfl rfl rfl rfl rfl rfl rfl ft rfl rfl ?_ | refine awpHop_ret _ (hd) rfl rfl rfl rfl rfl rfl rfl rfl rfl ft rfl rfl sb rfl ?_) | (first | refine awpL_ret (hd2) rfl rfl rfl rfl rfl rfl rfl rfl ft rfl rfl ?_ | refine awpQ_ret (hd2) rfl rfl rfl rfl rfl rfl rfl rfl ft rfl rfl ?_ | refine awpHop_ret _ (hd2) rfl rfl rfl rfl rfl rfl rfl rfl rfl ft rfl rfl sb rfl ?_) | (refine awp_block ?_) | (refine awp_exit ?_) | (refine awp_skip ?_) | (refine awp_ret ?_) | (refine awp_cond_t rfl ?_) | (refine awp_cond_f rfl ?_) | (refine awp_quiet TM rfl (by kernel_rfl) ?_) | ((first | refine awpL_split rfl rfl rfl (fun hc => ?_) (fun hc => ?_) | refine awpQ_split rfl rfl rfl (fun hc => ?_) (fun hc => ?_) | refine awp_cond rfl (fun hc => ?_) (fun hc => ?_)) <;> ((try simp at hc) <;> try contradiction)))) <;> try (exfalso; omega))
          all_goals exact ⟨[], m + 1, ⟨hmb, hdv'⟩, (by first | omega | (dsimp only; omega)), ⟨(by repeat' (first | exact trivial | refine ⟨rfl, ?_⟩ | refine ⟨congrArg some (congrArg vI (by first | omega | (simp; done) | (simp; omega))), ?_⟩ | refine ⟨sl_eqA (by first | omega | (simp; done) | (simp; omega)), ?_⟩)), (by repeat' (first | exact trivial | refine ⟨rfl, ?_⟩)), rfl⟩⟩
        · have hnd' : ndTo s.1 b t (s.1.getD (t * b + t) 0) (b - (t + 1)) (a - (t + 1)) = some (t + 1 + n) := nd_found (by omega) hnd (by omega) h0
          rw [hnd'] at hend
          have hwa := d_wadd a b t (t + 1 + n) (a * b) cx cu cv 1 s.1 s.2.1 o3.row k1.symm ha hb hta hna (by omega) (by decide) hcx (by omega)
          cases hob : addS b a t (t + 1 + n) 1 (s.1, s.2.1) with
          | none =>
            rw [hob] at hwa
            have he2 : endR a b t s = none := hend.trans (by show (row3 a b t (t + 1 + n) 1 s).map (fun x => (x, true)) = none; rw [row3, hob]; rfl)
            rw [he2]
            ((repeat' (first | (refine awpL_step TT rfl rfl rfl sd ?_) | (refine awpL_nil ?_) | (refine awpL_skip rfl rfl ?_) | (refine awpQ_step TT rfl rfl rfl rfl sd ?_) | (refine awpQ_nil ?_) | (refine awpQ_skip rfl rfl ?_) | (refine awp_seq ?_) | (refine awp_region ?_) | (first | refine awpL_ret (hd) rfl rfl rfl rfl rfl rfl rfl rfl ft rfl rfl ?_ | refine awpQ_ret (hd) rfl rfl rfl rfl rfl rfl rfl rfl ft rfl rfl ?_ | refine awpHop_ret _ (hd) rfl rfl rfl rfl rfl rfl rfl rfl rfl ft rfl rfl sb rfl ?_) | (first | refine awpL_ret (hd2) rfl rfl rfl rfl rfl rfl rfl rfl ft rfl rfl ?_ | refine awpQ_ret (hd2) rfl rfl rfl rfl rfl rfl rfl rfl ft rfl rfl ?_ | refine awpHop_ret _ (hd2) rfl rfl rfl rfl rfl rfl rfl rfl rfl ft rfl rfl sb rfl ?_) | (refine awpL_callM [(3, 6), (5, 7)] hwa rfl rfl rfl rfl rfl rfl rfl ft rfl ?_; rintro v Hout n1 ⟨rfl, rfl, ys, zs, rfl⟩) | (refine awp_block ?_) | (refine awp_exit ?_) | (refine awp_skip ?_) | (refine awp_ret ?_) | (refine awp_cond_t rfl ?_) | (refine awp_cond_f rfl ?_) | (refine awp_quiet TM rfl (by kernel_rfl) ?_) | ((first | refine awpL_split rfl rfl rfl (fun hc => ?_) (fun hc => ?_) | refine awpQ_split rfl rfl rfl (fun hc => ?_) (fun hc => ?_) | refine awp_cond rfl (fun hc => ?_) (fun hc => ?_)) <;> ((try simp at hc) <;> try contradiction)))) <;> try (exfalso; omega))
            all_goals exact fin rfl (by repeat' (first | exact trivial | exact Nat.zero_lt_one | omega | refine ⟨?_, ?_⟩)) [] (vB true) [(2, .own 111 1 (.lit (workL 6 4 7 a b (a * b) cx cu cv true)))] 8 ⟨rfl, _, _, _, rfl, rfl⟩ rfl ⟨trivial, ⟨rfl, trivial⟩, rfl⟩ rfl
          | some y =>
            rw [hob] at hwa
            have he2 : endR a b t s = some ((y.1, y.2, s.2.2), true) := hend.trans (by show (row3 a b t (t + 1 + n) 1 s).map (fun x => (x, true)) = _; rw [row3, hob]; rfl)
            rw [he2]
            have hy : y.1.length ≤ cx := by rw [(addS_ok o3.row hob).1, ← k1]; exact hcx
            ((repeat' (first | (refine awpL_step TT rfl rfl rfl sd ?_) | (refine awpL_nil ?_) | (refine awpL_skip rfl rfl ?_) | (refine awpQ_step TT rfl rfl rfl rfl sd ?_) | (refine awpQ_nil ?_) | (refine awpQ_skip rfl rfl ?_) | (refine awp_seq ?_) | (refine awp_region ?_) | (first | refine awpL_ret (hd) rfl rfl rfl rfl rfl rfl rfl rfl ft rfl rfl ?_ | refine awpQ_ret (hd) rfl rfl rfl rfl rfl rfl rfl rfl ft rfl rfl ?_ | refine awpHop_ret _ (hd) rfl rfl rfl rfl rfl rfl rfl rfl rfl ft rfl rfl sb rfl ?_) | (first | refine awpL_ret (hd2) rfl rfl rfl rfl rfl rfl rfl rfl ft rfl rfl ?_ | refine awpQ_ret (hd2) rfl rfl rfl rfl rfl rfl rfl rfl ft rfl rfl ?_ | refine awpHop_ret _ (hd2) rfl rfl rfl rfl rfl rfl rfl rfl rfl ft rfl rfl sb rfl ?_) | (refine awpL_callM [(3, 6), (5, 7)] hwa rfl rfl rfl rfl rfl rfl rfl ft rfl ?_; rintro v Hout n1 ⟨rfl, rfl, rfl⟩) | (refine awp_block ?_) | (refine awp_exit ?_) | (refine awp_skip ?_) | (refine awp_ret ?_) | (refine awp_cond_t rfl ?_) | (refine awp_cond_f rfl ?_) | (refine awp_quiet TM rfl (by kernel_rfl) ?_) | ((first | refine awpL_split rfl rfl rfl (fun hc => ?_) (fun hc => ?_) | refine awpQ_split rfl rfl rfl (fun hc => ?_) (fun hc => ?_) | refine awp_cond rfl (fun hc => ?_) (fun hc => ?_)) <;> ((try simp at hc) <;> try contradiction)))) <;> try (exfalso; omega))
            all_goals exact fin rfl (by repeat' (first | exact trivial | exact Nat.zero_lt_one | omega | refine ⟨?_, ?_⟩)) [] (vB true) [(2, .own 111 1 (.lit (workL 6 4 7 a b (a * b) cx cu cv false))), (4, .own 3 cu (.ints y.2)), (6, .own 3 cx (.ints y.1)), (7, .own 3 cv (.ints s.2.2))] 8 ⟨rfl, _, _, hy, rfl, rfl⟩ rfl ⟨trivial, ⟨rfl, rfl, rfl, rfl, trivial⟩, rfl⟩ rfl
      · have hmt : m = b - (t + 1) := by omega
        have htm : ((t + 1 + m : Nat) : Int) = b := by omega
        rw [hmt] at hdv
        have hnd' : ndTo s.1 b t (s.1.getD (t * b + t) 0) (b - (t + 1)) (n + 1) = none := by rw [ndTo, hnd]; exact if_pos hdv
        rw [htm]
        ((repeat' (first | (refine awpL_step TT rfl rfl rfl sd ?_) | (refine awpL_nil ?_) | (refine awpL_skip rfl rfl ?_) | (refine awpQ_step TT rfl rfl rfl rfl sd ?_) | (refine awpQ_nil ?_) | (refine awpQ_skip rfl rfl ?_) | (refine awp_seq ?_) | (refine awp_region ?_) | (refine awp_block ?_) | (refine awp_exit ?_) | (refine awp_skip ?_) | (refine awp_ret ?_) | (refine awp_cond_t rfl ?_) | (refine awp_cond_f rfl ?_) | (refine awp_quiet TM rfl (by kernel_rfl) ?_) | ((first | refine awpL_split rfl rfl rfl (fun hc => ?_) (fun hc => ?_) | refine awpQ_split rfl rfl rfl (fun hc => ?_) (fun hc => ?_) | refine awp_cond rfl (fun hc => ?_) (fun hc => ?_)) <;> ((try simp at hc) <;> try contradiction)))) <;> try (exfalso; omega))
        all_goals exact ⟨[], n + 1, ⟨hna, hnd'⟩, (by first | omega | (dsimp only; omega)), ⟨(by repeat' (first | exact trivial | refine ⟨rfl, ?_⟩ | refine ⟨congrArg some (congrArg vI (by first | omega | (simp; done) | (simp; omega))), ?_⟩ | refine ⟨sl_eqA (by first | omega | (simp; done) | (simp; omega)), ?_⟩)), (by repeat' (first | exact trivial | refine ⟨rfl, ?_⟩)), rfl⟩⟩
    · have hnt : n = a - (t + 1) := by omega
      have htn : ((t + 1 + n : Nat) : Int) = a := by omega
      rw [hnt] at hnd
      rw [hnd] at hend
      have he2 : endR a b t s = some (s, false) := hend
      rw [htn, he2]
      ((repeat' (first | (refine awpL_step TT rfl rfl rfl sd ?_) | (refine awpL_nil ?_) | (refine awpL_skip rfl rfl ?_) | (refine awpQ_step TT rfl rfl rfl rfl sd ?_) | (refine awpQ_nil ?_) | (refine awpQ_skip rfl rfl ?_) | (refine awp_seq ?_) | (refine awp_region ?_) | (refine awp_block ?_) | (refine awp_exit ?_) | (refine awp_skip ?_) | (refine awp_ret ?_) | (refine awp_cond_t rfl ?_) | (refine awp_cond_f rfl ?_) | (refine awp_quiet TM rfl (by kernel_rfl) ?_) | ((first | refine awpL_split rfl rfl rfl (fun hc => ?_) (fun hc => ?_) | refine awpQ_split rfl rfl rfl (fun hc => ?_) (fun hc => ?_) | refine awp_cond rfl (fun hc => ?_) (fun hc => ?_)) <;> ((try simp at hc) <;> try contradiction)))) <;> try (exfalso; omega))
      all_goals exact fin rfl (by repeat' (first | exact trivial | exact Nat.zero_lt_one | omega | refine ⟨?_, ?_⟩)) [] (vB false) [(2, .own 111 1 (.lit (workL 6 4 7 a b (a * b) cx cu cv false))), (4, .own 3 cu (.ints s.2.1)), (6, .own 3 cx (.ints s.1)), (7, .own 3 cv (.ints s.2.2))] 8 ⟨rfl, _, _, hcx, rfl, rfl⟩ rfl ⟨trivial, ⟨rfl, rfl, rfl, rfl, trivial⟩, rfl⟩ rfl
end Go.Proofs.Ytmkoifmokdmebaa
