/-
  CONTRACTS: a round of the Smith form of the reference.
-/
import Derived.Test.YtmkoifmokdmebaabSmS
import Derived.Test.YtmkoifmokdmebaabSmC
set_option linter.unusedVariables false
set_option linter.unusedSimpArgs false
namespace Go.Proofs.Ytmkoifmokdmebaa
open Go.RowKit

/-- the rows are done, and n columns -/
def rcN (r c t : Nat) (s : S3) (n : Nat) : Option S3 := (rTo r c t s (r - (t + 1))).bind fun x => cTo r c t x n
theorem rcN_full {r c t : Nat} {s : S3} : rcN r c t s (c - (t + 1)) = rcTo r c t s := rfl
theorem rcN_zero {r c t : Nat} {s : S3} : rcN r c t s 0 = rTo r c t s (r - (t + 1)) := by unfold rcN; cases rTo r c t s (r - (t + 1)) <;> rfl
/-- what the end of a round leaves: the numbers, and whether nothing is left to do -/
def Fin3 (r c : Nat) (o : Option (S3 × Bool)) (s : S3) (g : Bool) : Prop := Sp3 r c (o.map (·.1)) s ∧ ∀ x h, o = some (x, h) → g = !h
def RndT (t : TypeId) (a b cx : Nat) (o : Option (S3 × Bool)) (v : AV) (Hout : List (Nat × Blk)) (n1 : Nat) : Prop := ∃ (s : S3) (g : Bool), Fin3 a b o s g ∧ v = vB g ∧ Hout = [(1, .own t cx (.ints s.1)), (2, .own t (a * a) (.ints s.2.1)), (3, .own t (b * b) (.ints s.2.2))] ∧ n1 = 4
abbrev hT (tm t : TypeId) (a b nx cx : Nat) (s : S3) : List (Nat × Blk) := [(1, .own t cx (.ints s.1)), (2, .own t (a * a) (.ints s.2.1)), (3, .own t (b * b) (.ints s.2.2)), (4, .own tm 1 (.lit [.int a, .int b, .sl 1 1 0 nx cx])), (5, .own tm 1 (.lit [.int a, .int a, .sl 2 1 0 (a * a) (a * a)])), (6, .own tm 1 (.lit [.int b, .int b, .sl 3 1 0 (b * b) (b * b)]))]
abbrev fT (t p : Int) (g : Bool) : List (Nat × AV) := [(3, vI t), (4, .one (.ptr 4 3 0 0)), (5, .one (.ptr 5 3 0 0)), (6, .one (.ptr 6 3 0 0)), (9, vI p), (10, vB g)]
set_option maxRecDepth 100000 in
set_option maxHeartbeats 16000000 in
theorem d_roundS (a b t nx cx : Nat) (s0 : S3) (o0 : OK3 a b s0) (ha : a ≤ 24) (hb : b ≤ 24) (hta : t < a) (htb : t < b) (hnx : nx = s0.1.length) (hp0 : s0.1.getD (t * b + t) 0 ≠ 0) :
    Does Try.prog 166 [vM a b 1 nx cx, vM a a 2 (a * a) (a * a), vM b b 3 (b * b) (b * b), vI t] [(1, .own 3 cx (.ints s0.1)), (2, .own 3 (a * a) (.ints s0.2.1)), (3, .own 3 (b * b) (.ints s0.2.2))] 4 (RndT 3 a b cx (rndS a b t s0)) := by
  refine Does.intro TT Try.func166 rfl (by kernel_rfl) rfl rfl fun E hE => ?_
  have hab : a * b ≤ 24 * 24 := Nat.mul_le_mul ha hb
  have hx0 := o0.x
  have hdp := d_cellH a b t t nx cx s0.1 hnx o0.x ha hb hta htb
  have pb := num_getD o0.nx (t * b + t)
  have pn := num_at o0.nx (t * b + t)
  obtain ⟨p, hp⟩ : ∃ p, p = s0.1.getD (t * b + t) 0 := ⟨_, rfl⟩
  have wp : s0.1[t * b + t]?.getD 0 = p := by rw [hp]; simp
  rw [← hp] at hdp pb pn hp0
  have hpg : GB p := .inl pb
  ((repeat' (first | (refine awp_cut 3 hE (fun s : S3 => Sp3 a b (rTo a b t s0 (a - (t + 1))) s) (fun _ => fT t p true) (fun s => hT 27 3 a b nx cx s) 7 ?_ ?_) | (refine awpL_step TT rfl rfl rfl sd ?_) | (refine awpL_nil ?_) | (refine awpL_skip rfl rfl ?_) | (refine awpQ_step TT rfl rfl rfl rfl sd ?_) | (refine awpQ_nil ?_) | (refine awpQ_skip rfl rfl ?_) | (refine awp_seq ?_) | (refine awp_region ?_) | (first | refine awpL_ret (hdp) rfl rfl rfl rfl rfl rfl rfl rfl ft rfl rfl ?_ | refine awpQ_ret (hdp) rfl rfl rfl rfl rfl rfl rfl rfl ft rfl rfl ?_ | refine awpHop_ret _ (hdp) rfl rfl rfl rfl rfl rfl rfl rfl rfl ft rfl rfl sb rfl ?_) | (refine awp_block ?_) | (refine awp_exit ?_) | (refine awp_skip ?_) | (refine awp_ret ?_) | (refine awp_cond_t rfl ?_) | (refine awp_cond_f rfl ?_) | ((first | refine awpL_split rfl rfl rfl (fun hc => ?_) (fun hc => ?_) | refine awpQ_split rfl rfl rfl (fun hc => ?_) (fun hc => ?_) | refine awp_cond rfl (fun hc => ?_) (fun hc => ?_)) <;> ((try simp at hc) <;> try contradiction)))) <;> try (exfalso; omega))
  · refine awp_loop hE (fun x : Nat × S3 => t + 1 + x.1 ≤ a ∧ Sp3 a b (rTo a b t s0 x.1) x.2) (fun x => a - (t + 1 + x.1))
      (fun x => fT t p true ++ [(11, vI ((t + 1 + x.1 : Nat) : Int))]) (fun x => hT 27 3 a b nx cx x.2) 7 [] (0, s0) ⟨by omega, Sp3.of o0⟩ ⟨(by repeat' (first | exact trivial | refine ⟨rfl, ?_⟩ | refine ⟨congrArg some (congrArg vI (by first | omega | (simp; done) | (simp; omega))), ?_⟩ | refine ⟨sl_eqA (by first | omega | (simp; done) | (simp; omega)), ?_⟩)), (by repeat' (first | exact trivial | refine ⟨rfl, ?_⟩)), rfl⟩ ?_
    rintro ⟨n, s⟩ ⟨hn, hinv⟩
    dsimp only at hn hinv ⊢
    have k1 : s.1.length = nx := hinv.x.trans (hx0.symm.trans hnx.symm)
    have k2 := hinv.u
    by_cases hna : t + 1 + n < a
    · have hkn : ¬ ((a : Int) ≤ ((t + 1 + n : Nat) : Int)) := by omega
      obtain ⟨hskip, hdo⟩ := Sp3.rAt o0 htb hp.symm hp0 hna hinv
      have hd := d_cellH a b (t + 1 + n) t nx cx s.1 k1.symm hinv.x ha hb hna htb
      have w1 : s.1[(t + 1 + n) * b + t]?.getD 0 = s.1.getD ((t + 1 + n) * b + t) 0 := by simp
      have nb := (hinv.gx ((t + 1 + n) * b + t)).rng
      by_cases hz : s.1.getD ((t + 1 + n) * b + t) 0 = 0
      · have hnx2 := hskip hz
        ((repeat' (first | (refine awpL_step TT rfl rfl rfl sd ?_) | (refine awpL_nil ?_) | (refine awpL_skip rfl rfl ?_) | (refine awpQ_step TT rfl rfl rfl rfl sd ?_) | (refine awpQ_nil ?_) | (refine awpQ_skip rfl rfl ?_) | (refine awp_seq ?_) | (refine awp_region ?_) | (first | refine awpL_ret (hd) rfl rfl rfl rfl rfl rfl rfl rfl ft rfl rfl ?_ | refine awpQ_ret (hd) rfl rfl rfl rfl rfl rfl rfl rfl ft rfl rfl ?_ | refine awpHop_ret _ (hd) rfl rfl rfl rfl rfl rfl rfl rfl rfl ft rfl rfl sb rfl ?_) | (refine awp_block ?_) | (refine awp_exit ?_) | (refine awp_skip ?_) | (refine awp_ret ?_) | (refine awp_cond_t rfl ?_) | (refine awp_cond_f rfl ?_) | (refine awp_quiet TM rfl (by kernel_rfl) ?_) | ((first | refine awpL_split rfl rfl rfl (fun hc => ?_) (fun hc => ?_) | refine awpQ_split rfl rfl rfl (fun hc => ?_) (fun hc => ?_) | refine awp_cond rfl (fun hc => ?_) (fun hc => ?_)) <;> ((try simp at hc) <;> try contradiction)))) <;> try (exfalso; omega))
        all_goals exact ⟨[], (n + 1, s), ⟨hna, hnx2⟩, (by first | omega | (dsimp only; omega)), ⟨(by repeat' (first | exact trivial | refine ⟨rfl, ?_⟩ | refine ⟨congrArg some (congrArg vI (by first | omega | (simp; done) | (simp; omega))), ?_⟩ | refine ⟨sl_eqA (by first | omega | (simp; done) | (simp; omega)), ?_⟩)), (by repeat' (first | exact trivial | refine ⟨rfl, ?_⟩)), rfl⟩⟩
      · have hnx2 := hdo hz
        have hdf := d_dfS _ p (hinv.gx ((t + 1 + n) * b + t)) hpg
        have hqb := dfQ_gb (s.1.getD ((t + 1 + n) * b + t) 0) p
        unfold dfV at hdf
        have hwa := d_opsAdd a b (t + 1 + n) t nx cx (-dfQ (s.1.getD ((t + 1 + n) * b + t) 0) p) s.1 s.2.1 k1.symm hinv.x k2 ha hb hna hta (by omega) hinv.gx hinv.gu (.inl (by omega))
        ((repeat' (first | (refine awpL_step TT rfl rfl rfl sd ?_) | (refine awpL_nil ?_) | (refine awpL_skip rfl rfl ?_) | (refine awpQ_step TT rfl rfl rfl rfl sd ?_) | (refine awpQ_nil ?_) | (refine awpQ_skip rfl rfl ?_) | (refine awp_seq ?_) | (refine awp_region ?_) | (first | refine awpL_ret (hd) rfl rfl rfl rfl rfl rfl rfl rfl ft rfl rfl ?_ | refine awpQ_ret (hd) rfl rfl rfl rfl rfl rfl rfl rfl ft rfl rfl ?_ | refine awpHop_ret _ (hd) rfl rfl rfl rfl rfl rfl rfl rfl rfl ft rfl rfl sb rfl ?_) | (first | refine awpL_ret (hdf) rfl rfl rfl rfl rfl rfl rfl rfl ft rfl rfl ?_ | refine awpQ_ret (hdf) rfl rfl rfl rfl rfl rfl rfl rfl ft rfl rfl ?_ | refine awpHop_ret _ (hdf) rfl rfl rfl rfl rfl rfl rfl rfl rfl ft rfl rfl sb rfl ?_) | ((refine awpL_call (hwa) rfl rfl rfl rfl rfl rfl rfl ft rfl ?_); rintro v Hout n1 ⟨rfl, rfl, rfl⟩) | (refine awp_block ?_) | (refine awp_exit ?_) | (refine awp_skip ?_) | (refine awp_ret ?_) | (refine awp_cond_t rfl ?_) | (refine awp_cond_f rfl ?_) | (refine awp_quiet TM rfl (by kernel_rfl) ?_) | ((first | refine awpL_split rfl rfl rfl (fun hc => ?_) (fun hc => ?_) | refine awpQ_split rfl rfl rfl (fun hc => ?_) (fun hc => ?_) | refine awp_cond rfl (fun hc => ?_) (fun hc => ?_)) <;> ((try simp at hc) <;> try contradiction)))) <;> try (exfalso; omega))
        all_goals exact ⟨[], (n + 1, (doX s.1 b (t + 1 + n) t (-dfQ (s.1.getD ((t + 1 + n) * b + t) 0) p), doX s.2.1 a (t + 1 + n) t (-dfQ (s.1.getD ((t + 1 + n) * b + t) 0) p), s.2.2)), ⟨hna, hnx2⟩, (by first | omega | (dsimp only; omega)), ⟨(by repeat' (first | exact trivial | refine ⟨rfl, ?_⟩ | refine ⟨congrArg some (congrArg vI (by first | omega | (simp; done) | (simp; omega))), ?_⟩ | refine ⟨sl_eqA (by first | omega | (simp; done) | (simp; omega)), ?_⟩)), (by repeat' (first | exact trivial | refine ⟨rfl, ?_⟩)), rfl⟩⟩
    · have hnt : n = a - (t + 1) := by omega
      have htn : ((t + 1 + n : Nat) : Int) = a := by omega
      rw [hnt] at hinv
      rw [htn]
      ((repeat' (first | (refine awpL_step TT rfl rfl rfl sd ?_) | (refine awpL_nil ?_) | (refine awpL_skip rfl rfl ?_) | (refine awpQ_step TT rfl rfl rfl rfl sd ?_) | (refine awpQ_nil ?_) | (refine awpQ_skip rfl rfl ?_) | (refine awp_seq ?_) | (refine awp_region ?_) | (refine awp_block ?_) | (refine awp_exit ?_) | (refine awp_skip ?_) | (refine awp_ret ?_) | (refine awp_cond_t rfl ?_) | (refine awp_cond_f rfl ?_) | (refine awp_quiet TM rfl (by kernel_rfl) ?_) | ((first | refine awpL_split rfl rfl rfl (fun hc => ?_) (fun hc => ?_) | refine awpQ_split rfl rfl rfl (fun hc => ?_) (fun hc => ?_) | refine awp_cond rfl (fun hc => ?_) (fun hc => ?_)) <;> ((try simp at hc) <;> try contradiction)))) <;> try (exfalso; omega))
      all_goals exact ⟨[], s, hinv, ⟨(by repeat' (first | exact trivial | refine ⟨rfl, ?_⟩ | refine ⟨congrArg some (congrArg vI (by first | omega | (simp; done) | (simp; omega))), ?_⟩ | refine ⟨sl_eqA (by first | omega | (simp; done) | (simp; omega)), ?_⟩)), (by repeat' (first | exact trivial | refine ⟨rfl, ?_⟩)), rfl⟩⟩
  intro s3 h3
  ((repeat' (first | (refine awp_cut 9 hE (fun s : S3 => Sp3 a b (rcTo a b t s0) s) (fun _ => fT t p true) (fun s => hT 27 3 a b nx cx s) 7 ?_ ?_) | (refine awpL_step TT rfl rfl rfl sd ?_) | (refine awpL_nil ?_) | (refine awpL_skip rfl rfl ?_) | (refine awpQ_step TT rfl rfl rfl rfl sd ?_) | (refine awpQ_nil ?_) | (refine awpQ_skip rfl rfl ?_) | (refine awp_seq ?_) | (refine awp_region ?_) | (refine awp_block ?_) | (refine awp_exit ?_) | (refine awp_skip ?_) | (refine awp_ret ?_) | (refine awp_cond_t rfl ?_) | (refine awp_cond_f rfl ?_) | ((first | refine awpL_split rfl rfl rfl (fun hc => ?_) (fun hc => ?_) | refine awpQ_split rfl rfl rfl (fun hc => ?_) (fun hc => ?_) | refine awp_cond rfl (fun hc => ?_) (fun hc => ?_)) <;> ((try simp at hc) <;> try contradiction)))) <;> try (exfalso; omega))
  · refine awp_loop hE (fun x : Nat × S3 => t + 1 + x.1 ≤ b ∧ Sp3 a b (rcN a b t s0 x.1) x.2) (fun x => b - (t + 1 + x.1))
      (fun x => fT t p true ++ [(15, vI ((t + 1 + x.1 : Nat) : Int))]) (fun x => hT 27 3 a b nx cx x.2) 7 [] (0, s3) ⟨by omega, by rw [rcN_zero]; exact h3⟩ ⟨(by repeat' (first | exact trivial | refine ⟨rfl, ?_⟩ | refine ⟨congrArg some (congrArg vI (by first | omega | (simp; done) | (simp; omega))), ?_⟩ | refine ⟨sl_eqA (by first | omega | (simp; done) | (simp; omega)), ?_⟩)), (by repeat' (first | exact trivial | refine ⟨rfl, ?_⟩)), rfl⟩ ?_
    clear h3
    rintro ⟨n, s⟩ ⟨hn, hinv⟩
    dsimp only at hn hinv ⊢
    have k1 : s.1.length = nx := hinv.x.trans (hx0.symm.trans hnx.symm)
    have k3 := hinv.v
    by_cases hna : t + 1 + n < b
    · have hkn : ¬ ((b : Int) ≤ ((t + 1 + n : Nat) : Int)) := by omega
      obtain ⟨hskip, hdo⟩ := Sp3.cAt o0 hta htb hp.symm hp0 hna hinv
      have hd := d_cellH a b t (t + 1 + n) nx cx s.1 k1.symm hinv.x ha hb hta hna
      have w1 : s.1[t * b + (t + 1 + n)]?.getD 0 = s.1.getD (t * b + (t + 1 + n)) 0 := by simp
      have nb := (hinv.gx (t * b + (t + 1 + n))).rng
      by_cases hz : s.1.getD (t * b + (t + 1 + n)) 0 = 0
      · have hnx2 := hskip (.inl hz)
        ((repeat' (first | (refine awpL_step TT rfl rfl rfl sd ?_) | (refine awpL_nil ?_) | (refine awpL_skip rfl rfl ?_) | (refine awpQ_step TT rfl rfl rfl rfl sd ?_) | (refine awpQ_nil ?_) | (refine awpQ_skip rfl rfl ?_) | (refine awp_seq ?_) | (refine awp_region ?_) | (first | refine awpL_ret (hd) rfl rfl rfl rfl rfl rfl rfl rfl ft rfl rfl ?_ | refine awpQ_ret (hd) rfl rfl rfl rfl rfl rfl rfl rfl ft rfl rfl ?_ | refine awpHop_ret _ (hd) rfl rfl rfl rfl rfl rfl rfl rfl rfl ft rfl rfl sb rfl ?_) | (refine awp_block ?_) | (refine awp_exit ?_) | (refine awp_skip ?_) | (refine awp_ret ?_) | (refine awp_cond_t rfl ?_) | (refine awp_cond_f rfl ?_) | (refine awp_quiet TM rfl (by kernel_rfl) ?_) | ((first | refine awpL_split rfl rfl rfl (fun hc => ?_) (fun hc => ?_) | refine awpQ_split rfl rfl rfl (fun hc => ?_) (fun hc => ?_) | refine awp_cond rfl (fun hc => ?_) (fun hc => ?_)) <;> ((try simp at hc) <;> try contradiction)))) <;> try (exfalso; omega))
        all_goals exact ⟨[], (n + 1, s), ⟨hna, hnx2⟩, (by first | omega | (dsimp only; omega)), ⟨(by repeat' (first | exact trivial | refine ⟨rfl, ?_⟩ | refine ⟨congrArg some (congrArg vI (by first | omega | (simp; done) | (simp; omega))), ?_⟩ | refine ⟨sl_eqA (by first | omega | (simp; done) | (simp; omega)), ?_⟩)), (by repeat' (first | exact trivial | refine ⟨rfl, ?_⟩)), rfl⟩⟩
      · by_cases hz2 : s.1.getD (t * b + (t + 1 + n)) 0 = -4611686018427387904
        · have hnx2 := hskip (.inr hz2)
          ((repeat' (first | (refine awpL_step TT rfl rfl rfl sd ?_) | (refine awpL_nil ?_) | (refine awpL_skip rfl rfl ?_) | (refine awpQ_step TT rfl rfl rfl rfl sd ?_) | (refine awpQ_nil ?_) | (refine awpQ_skip rfl rfl ?_) | (refine awp_seq ?_) | (refine awp_region ?_) | (first | refine awpL_ret (hd) rfl rfl rfl rfl rfl rfl rfl rfl ft rfl rfl ?_ | refine awpQ_ret (hd) rfl rfl rfl rfl rfl rfl rfl rfl ft rfl rfl ?_ | refine awpHop_ret _ (hd) rfl rfl rfl rfl rfl rfl rfl rfl rfl ft rfl rfl sb rfl ?_) | (refine awp_block ?_) | (refine awp_exit ?_) | (refine awp_skip ?_) | (refine awp_ret ?_) | (refine awp_cond_t rfl ?_) | (refine awp_cond_f rfl ?_) | (refine awp_quiet TM rfl (by kernel_rfl) ?_) | ((first | refine awpL_split rfl rfl rfl (fun hc => ?_) (fun hc => ?_) | refine awpQ_split rfl rfl rfl (fun hc => ?_) (fun hc => ?_) | refine awp_cond rfl (fun hc => ?_) (fun hc => ?_)) <;> ((try simp at hc) <;> try contradiction)))) <;> try (exfalso; omega))
          all_goals exact ⟨[], (n + 1, s), ⟨hna, hnx2⟩, (by first | omega | (dsimp only; omega)), ⟨(by repeat' (first | exact trivial | refine ⟨rfl, ?_⟩ | refine ⟨congrArg some (congrArg vI (by first | omega | (simp; done) | (simp; omega))), ?_⟩ | refine ⟨sl_eqA (by first | omega | (simp; done) | (simp; omega)), ?_⟩)), (by repeat' (first | exact trivial | refine ⟨rfl, ?_⟩)), rfl⟩⟩
        · have hnx2 := hdo hz
          have hdf := d_dfS _ p (hinv.gx (t * b + (t + 1 + n))) hpg
          have hqb := dfQ_gb (s.1.getD (t * b + (t + 1 + n)) 0) p
          unfold dfV at hdf
          have hw1 := d_colSA a b (t + 1 + n) t nx cx cx (-dfQ (s.1.getD (t * b + (t + 1 + n)) 0) p) s.1 k1.symm hinv.x ha hb hna htb (by omega) hinv.gx (.inl (by omega))
          have hw2 := d_colSA b b (t + 1 + n) t (b * b) (b * b) (b * b) (-dfQ (s.1.getD (t * b + (t + 1 + n)) 0) p) s.2.2 k3.symm hinv.v hb hb hna htb (by omega) hinv.gv (.inl (by omega))
          ((repeat' (first | (refine awpL_step TT rfl rfl rfl sd ?_) | (refine awpL_nil ?_) | (refine awpL_skip rfl rfl ?_) | (refine awpQ_step TT rfl rfl rfl rfl sd ?_) | (refine awpQ_nil ?_) | (refine awpQ_skip rfl rfl ?_) | (refine awp_seq ?_) | (refine awp_region ?_) | (first | refine awpL_ret (hd) rfl rfl rfl rfl rfl rfl rfl rfl ft rfl rfl ?_ | refine awpQ_ret (hd) rfl rfl rfl rfl rfl rfl rfl rfl ft rfl rfl ?_ | refine awpHop_ret _ (hd) rfl rfl rfl rfl rfl rfl rfl rfl rfl ft rfl rfl sb rfl ?_) | (first | refine awpL_ret (hdf) rfl rfl rfl rfl rfl rfl rfl rfl ft rfl rfl ?_ | refine awpQ_ret (hdf) rfl rfl rfl rfl rfl rfl rfl rfl ft rfl rfl ?_ | refine awpHop_ret _ (hdf) rfl rfl rfl rfl rfl rfl rfl rfl rfl ft rfl rfl sb rfl ?_) | ((refine awpL_call (hw1) rfl rfl rfl rfl rfl rfl rfl ft rfl ?_); rintro v Hout n1 ⟨rfl, rfl, rfl⟩) | ((refine awpL_call (hw2) rfl rfl rfl rfl rfl rfl rfl ft rfl ?_); rintro v Hout n1 ⟨rfl, rfl, rfl⟩) | (refine awp_block ?_) | (refine awp_exit ?_) | (refine awp_skip ?_) | (refine awp_ret ?_) | (refine awp_cond_t rfl ?_) | (refine awp_cond_f rfl ?_) | (refine awp_quiet TM rfl (by kernel_rfl) ?_) | ((first | refine awpL_split rfl rfl rfl (fun hc => ?_) (fun hc => ?_) | refine awpQ_split rfl rfl rfl (fun hc => ?_) (fun hc => ?_) | refine awp_cond rfl (fun hc => ?_) (fun hc => ?_)) <;> ((try simp at hc) <;> try contradiction)))) <;> try (exfalso; omega))
          all_goals exact ⟨[], (n + 1, (dcX s.1 a b (t + 1 + n) t (-dfQ (s.1.getD (t * b + (t + 1 + n)) 0) p), s.2.1, dcX s.2.2 b b (t + 1 + n) t (-dfQ (s.1.getD (t * b + (t + 1 + n)) 0) p))), ⟨hna, hnx2⟩, (by first | omega | (dsimp only; omega)), ⟨(by repeat' (first | exact trivial | refine ⟨rfl, ?_⟩ | refine ⟨congrArg some (congrArg vI (by first | omega | (simp; done) | (simp; omega))), ?_⟩ | refine ⟨sl_eqA (by first | omega | (simp; done) | (simp; omega)), ?_⟩)), (by repeat' (first | exact trivial | refine ⟨rfl, ?_⟩)), rfl⟩⟩
    · have hnt : n = b - (t + 1) := by omega
      have htn : ((t + 1 + n : Nat) : Int) = b := by omega
      rw [hnt, rcN_full] at hinv
      rw [htn]
      ((repeat' (first | (refine awpL_step TT rfl rfl rfl sd ?_) | (refine awpL_nil ?_) | (refine awpL_skip rfl rfl ?_) | (refine awpQ_step TT rfl rfl rfl rfl sd ?_) | (refine awpQ_nil ?_) | (refine awpQ_skip rfl rfl ?_) | (refine awp_seq ?_) | (refine awp_region ?_) | (refine awp_block ?_) | (refine awp_exit ?_) | (refine awp_skip ?_) | (refine awp_ret ?_) | (refine awp_cond_t rfl ?_) | (refine awp_cond_f rfl ?_) | (refine awp_quiet TM rfl (by kernel_rfl) ?_) | ((first | refine awpL_split rfl rfl rfl (fun hc => ?_) (fun hc => ?_) | refine awpQ_split rfl rfl rfl (fun hc => ?_) (fun hc => ?_) | refine awp_cond rfl (fun hc => ?_) (fun hc => ?_)) <;> ((try simp at hc) <;> try contradiction)))) <;> try (exfalso; omega))
      all_goals exact ⟨[], s, hinv, ⟨(by repeat' (first | exact trivial | refine ⟨rfl, ?_⟩ | refine ⟨congrArg some (congrArg vI (by first | omega | (simp; done) | (simp; omega))), ?_⟩ | refine ⟨sl_eqA (by first | omega | (simp; done) | (simp; omega)), ?_⟩)), (by repeat' (first | exact trivial | refine ⟨rfl, ?_⟩)), rfl⟩⟩
  clear h3 s3
  intro s h3
  have k1 : s.1.length = nx := h3.x.trans (hx0.symm.trans hnx.symm)
  ((repeat' (first | (refine awp_cut 17 hE (fun _ : Unit => True) (fun _ => fT t p (decide (zr s.1 b t (a - (t + 1))))) (fun _ => hT 27 3 a b nx cx s) 7 ?_ ?_) | (refine awpL_step TT rfl rfl rfl sd ?_) | (refine awpL_nil ?_) | (refine awpL_skip rfl rfl ?_) | (refine awpQ_step TT rfl rfl rfl rfl sd ?_) | (refine awpQ_nil ?_) | (refine awpQ_skip rfl rfl ?_) | (refine awp_seq ?_) | (refine awp_region ?_) | (refine awp_block ?_) | (refine awp_exit ?_) | (refine awp_skip ?_) | (refine awp_ret ?_) | (refine awp_cond_t rfl ?_) | (refine awp_cond_f rfl ?_) | ((first | refine awpL_split rfl rfl rfl (fun hc => ?_) (fun hc => ?_) | refine awpQ_split rfl rfl rfl (fun hc => ?_) (fun hc => ?_) | refine awp_cond rfl (fun hc => ?_) (fun hc => ?_)) <;> ((try simp at hc) <;> try contradiction)))) <;> try (exfalso; omega))
  · refine awp_loop hE (fun n : Nat => t + 1 + n ≤ a) (fun n => a - (t + 1 + n))
      (fun n => fT t p (decide (zr s.1 b t n)) ++ [(20, vI ((t + 1 + n : Nat) : Int))]) (fun _ => hT 27 3 a b nx cx s) 7 [] 0 (by omega) ⟨by exact ⟨rfl, rfl, rfl, rfl, rfl, congrArg some (congrArg vB (by rw [zr_zero])), congrArg some (congrArg vI (by omega)), trivial⟩, by exact ⟨rfl, rfl, rfl, rfl, rfl, rfl, trivial⟩, rfl⟩ ?_
    intro n hn
    by_cases hna : t + 1 + n < a
    · have hkn : ¬ ((a : Int) ≤ ((t + 1 + n : Nat) : Int)) := by omega
      have hd := d_cellH a b (t + 1 + n) t nx cx s.1 k1.symm h3.x ha hb hna htb
      have w1 : s.1[(t + 1 + n) * b + t]?.getD 0 = s.1.getD ((t + 1 + n) * b + t) 0 := by simp
      have hz := zr_dec (xs := s.1) (c := b) (t := t) (n := n)
      rw [← Bool.not_and, Bool.not_inj_iff] at hz
      cases hzz : decide (zr s.1 b t n)
      · rw [hzz, Bool.false_and] at hz
        ((repeat' (first | (refine awpL_step TT rfl rfl rfl sd ?_) | (refine awpL_nil ?_) | (refine awpL_skip rfl rfl ?_) | (refine awpQ_step TT rfl rfl rfl rfl sd ?_) | (refine awpQ_nil ?_) | (refine awpQ_skip rfl rfl ?_) | (refine awp_seq ?_) | (refine awp_region ?_) | (first | refine awpL_ret (hd) rfl rfl rfl rfl rfl rfl rfl rfl ft rfl rfl ?_ | refine awpQ_ret (hd) rfl rfl rfl rfl rfl rfl rfl rfl ft rfl rfl ?_ | refine awpHop_ret _ (hd) rfl rfl rfl rfl rfl rfl rfl rfl rfl ft rfl rfl sb rfl ?_) | (refine awp_block ?_) | (refine awp_exit ?_) | (refine awp_skip ?_) | (refine awp_ret ?_) | (refine awp_cond_t rfl ?_) | (refine awp_cond_f rfl ?_) | (refine awp_quiet TM rfl (by kernel_rfl) ?_) | ((first | refine awpL_split rfl rfl rfl (fun hc => ?_) (fun hc => ?_) | refine awpQ_split rfl rfl rfl (fun hc => ?_) (fun hc => ?_) | refine awp_cond rfl (fun hc => ?_) (fun hc => ?_)) <;> ((try simp at hc) <;> try contradiction)))) <;> try (exfalso; omega))
        all_goals exact ⟨[], n + 1, hna, (by first | omega | (dsimp only; omega)), ⟨⟨rfl, rfl, rfl, rfl, rfl, congrArg some (congrArg vB (by first | (simp only [hz]; done) | (simp only [hz]; rfl) | (rw [hz]; simp))), congrArg some (congrArg vI (by omega)), trivial⟩, ⟨rfl, rfl, rfl, rfl, rfl, rfl, trivial⟩, rfl⟩⟩
      · rw [hzz, Bool.true_and] at hz
        by_cases h0 : s.1.getD ((t + 1 + n) * b + t) 0 = 0
        · rw [decide_eq_true h0] at hz
          ((repeat' (first | (refine awpL_step TT rfl rfl rfl sd ?_) | (refine awpL_nil ?_) | (refine awpL_skip rfl rfl ?_) | (refine awpQ_step TT rfl rfl rfl rfl sd ?_) | (refine awpQ_nil ?_) | (refine awpQ_skip rfl rfl ?_) | (refine awp_seq ?_) | (refine awp_region ?_) | (first | refine awpL_ret (hd) rfl rfl rfl rfl rfl rfl rfl rfl ft rfl rfl ?_ | refine awpQ_ret (hd) rfl rfl rfl rfl rfl rfl rfl rfl ft rfl rfl ?_ | refine awpHop_ret _ (hd) rfl rfl rfl rfl rfl rfl rfl rfl rfl ft rfl rfl sb rfl ?_) | (refine awp_block ?_) | (refine awp_exit ?_) | (refine awp_skip ?_) | (refine awp_ret ?_) | (refine awp_cond_t rfl ?_) | (refine awp_cond_f rfl ?_) | (refine awp_quiet TM rfl (by kernel_rfl) ?_) | ((first | refine awpL_split rfl rfl rfl (fun hc => ?_) (fun hc => ?_) | refine awpQ_split rfl rfl rfl (fun hc => ?_) (fun hc => ?_) | refine awp_cond rfl (fun hc => ?_) (fun hc => ?_)) <;> ((try simp at hc) <;> try contradiction)))) <;> try (exfalso; omega))
          all_goals exact ⟨[], n + 1, hna, (by first | omega | (dsimp only; omega)), ⟨⟨rfl, rfl, rfl, rfl, rfl, congrArg some (congrArg vB (by first | (simp only [hz, h0]; done) | (simp only [hz, h0]; rfl) | (rw [hz, decide_eq_true h0]; rfl) | (rw [hz, decide_eq_false h0]; rfl) | (rw [hz]; simp [h0]))), congrArg some (congrArg vI (by omega)), trivial⟩, ⟨rfl, rfl, rfl, rfl, rfl, rfl, trivial⟩, rfl⟩⟩
        · rw [decide_eq_false h0] at hz
          ((repeat' (first | (refine awpL_step TT rfl rfl rfl sd ?_) | (refine awpL_nil ?_) | (refine awpL_skip rfl rfl ?_) | (refine awpQ_step TT rfl rfl rfl rfl sd ?_) | (refine awpQ_nil ?_) | (refine awpQ_skip rfl rfl ?_) | (refine awp_seq ?_) | (refine awp_region ?_) | (first | refine awpL_ret (hd) rfl rfl rfl rfl rfl rfl rfl rfl ft rfl rfl ?_ | refine awpQ_ret (hd) rfl rfl rfl rfl rfl rfl rfl rfl ft rfl rfl ?_ | refine awpHop_ret _ (hd) rfl rfl rfl rfl rfl rfl rfl rfl rfl ft rfl rfl sb rfl ?_) | (refine awp_block ?_) | (refine awp_exit ?_) | (refine awp_skip ?_) | (refine awp_ret ?_) | (refine awp_cond_t rfl ?_) | (refine awp_cond_f rfl ?_) | (refine awp_quiet TM rfl (by kernel_rfl) ?_) | ((first | refine awpL_split rfl rfl rfl (fun hc => ?_) (fun hc => ?_) | refine awpQ_split rfl rfl rfl (fun hc => ?_) (fun hc => ?_) | refine awp_cond rfl (fun hc => ?_) (fun hc => ?_)) <;> ((try simp at hc) <;> try contradiction)))) <;> try (exfalso; omega))
          all_goals exact ⟨[], n + 1, hna, (by first | omega | (dsimp only; omega)), ⟨⟨rfl, rfl, rfl, rfl, rfl, congrArg some (congrArg vB (by first | (simp only [hz, h0]; done) | (simp only [hz, h0]; rfl) | (rw [hz, decide_eq_true h0]; rfl) | (rw [hz, decide_eq_false h0]; rfl) | (rw [hz]; simp [h0]))), congrArg some (congrArg vI (by omega)), trivial⟩, ⟨rfl, rfl, rfl, rfl, rfl, rfl, trivial⟩, rfl⟩⟩
    · have hnt : n = a - (t + 1) := by omega
      have htn : ((t + 1 + n : Nat) : Int) = a := by omega
      rw [htn, hnt]
      ((repeat' (first | (refine awpL_step TT rfl rfl rfl sd ?_) | (refine awpL_nil ?_) | (refine awpL_skip rfl rfl ?_) | (refine awpQ_step TT rfl rfl rfl rfl sd ?_) | (refine awpQ_nil ?_) | (refine awpQ_skip rfl rfl ?_) | (refine awp_seq ?_) | (refine awp_region ?_) | (refine awp_block ?_) | (refine awp_exit ?_) | (refine awp_skip ?_) | (refine awp_ret ?_) | (refine awp_cond_t rfl ?_) | (refine awp_cond_f rfl ?_) | (refine awp_quiet TM rfl (by kernel_rfl) ?_) | ((first | refine awpL_split rfl rfl rfl (fun hc => ?_) (fun hc => ?_) | refine awpQ_split rfl rfl rfl (fun hc => ?_) (fun hc => ?_) | refine awp_cond rfl (fun hc => ?_) (fun hc => ?_)) <;> ((try simp at hc) <;> try contradiction)))) <;> try (exfalso; omega))
      all_goals exact ⟨[], (), trivial, ⟨(by repeat' (first | exact trivial | refine ⟨rfl, ?_⟩ | refine ⟨congrArg some (congrArg vI (by first | omega | (simp; done) | (simp; omega))), ?_⟩ | refine ⟨sl_eqA (by first | omega | (simp; done) | (simp; omega)), ?_⟩)), (by repeat' (first | exact trivial | refine ⟨rfl, ?_⟩)), rfl⟩⟩
  rintro ⟨⟩ -
  ((repeat' (first | (refine awp_cut 21 hE (fun _ : Unit => True) (fun _ => fT t p (decide (zr s.1 b t (a - (t + 1))) && decide (zc s.1 b t (b - (t + 1))))) (fun _ => hT 27 3 a b nx cx s) 7 ?_ ?_) | (refine awpL_step TT rfl rfl rfl sd ?_) | (refine awpL_nil ?_) | (refine awpL_skip rfl rfl ?_) | (refine awpQ_step TT rfl rfl rfl rfl sd ?_) | (refine awpQ_nil ?_) | (refine awpQ_skip rfl rfl ?_) | (refine awp_seq ?_) | (refine awp_region ?_) | (refine awp_block ?_) | (refine awp_exit ?_) | (refine awp_skip ?_) | (refine awp_ret ?_) | (refine awp_cond_t rfl ?_) | (refine awp_cond_f rfl ?_) | ((first | refine awpL_split rfl rfl rfl (fun hc => ?_) (fun hc => ?_) | refine awpQ_split rfl rfl rfl (fun hc => ?_) (fun hc => ?_) | refine awp_cond rfl (fun hc => ?_) (fun hc => ?_)) <;> ((try simp at hc) <;> try contradiction)))) <;> try (exfalso; omega))
  · refine awp_loop hE (fun n : Nat => t + 1 + n ≤ b) (fun n => b - (t + 1 + n))
      (fun n => fT t p (decide (zr s.1 b t (a - (t + 1))) && decide (zc s.1 b t n)) ++ [(21, vI ((t + 1 + n : Nat) : Int))]) (fun _ => hT 27 3 a b nx cx s) 7 [] 0 (by omega) ⟨by exact ⟨rfl, rfl, rfl, rfl, rfl, congrArg some (congrArg vB (by rw [zc_zero]; simp)), congrArg some (congrArg vI (by omega)), trivial⟩, by exact ⟨rfl, rfl, rfl, rfl, rfl, rfl, trivial⟩, rfl⟩ ?_
    intro n hn
    by_cases hna : t + 1 + n < b
    · have hkn : ¬ ((b : Int) ≤ ((t + 1 + n : Nat) : Int)) := by omega
      have hd := d_cellH a b t (t + 1 + n) nx cx s.1 k1.symm h3.x ha hb hta hna
      have w1 : s.1[t * b + (t + 1 + n)]?.getD 0 = s.1.getD (t * b + (t + 1 + n)) 0 := by simp
      have hz0 := zc_dec (xs := s.1) (c := b) (t := t) (n := n)
      rw [← Bool.not_and, Bool.not_inj_iff] at hz0
      have hz : (decide (zr s.1 b t (a - (t + 1))) && decide (zc s.1 b t (n + 1))) = ((decide (zr s.1 b t (a - (t + 1))) && decide (zc s.1 b t n)) && decide (s.1.getD (t * b + (t + 1 + n)) 0 = 0)) := by rw [hz0, Bool.and_assoc]
      cases hzz : (decide (zr s.1 b t (a - (t + 1))) && decide (zc s.1 b t n))
      · rw [hzz, Bool.false_and] at hz
        ((repeat' (first | (refine awpL_step TT rfl rfl rfl sd ?_) | (refine awpL_nil ?_) | (refine awpL_skip rfl rfl ?_) | (refine awpQ_step TT rfl rfl rfl rfl sd ?_) | (refine awpQ_nil ?_) | (refine awpQ_skip rfl rfl ?_) | (refine awp_seq ?_) | (refine awp_region ?_) | (first | refine awpL_ret (hd) rfl rfl rfl rfl rfl rfl rfl rfl ft rfl rfl ?_ | refine awpQ_ret (hd) rfl rfl rfl rfl rfl rfl rfl rfl ft rfl rfl ?_ | refine awpHop_ret _ (hd) rfl rfl rfl rfl rfl rfl rfl rfl rfl ft rfl rfl sb rfl ?_) | (refine awp_block ?_) | (refine awp_exit ?_) | (refine awp_skip ?_) | (refine awp_ret ?_) | (refine awp_cond_t rfl ?_) | (refine awp_cond_f rfl ?_) | (refine awp_quiet TM rfl (by kernel_rfl) ?_) | ((first | refine awpL_split rfl rfl rfl (fun hc => ?_) (fun hc => ?_) | refine awpQ_split rfl rfl rfl (fun hc => ?_) (fun hc => ?_) | refine awp_cond rfl (fun hc => ?_) (fun hc => ?_)) <;> ((try simp at hc) <;> try contradiction)))) <;> try (exfalso; omega))
        all_goals exact ⟨[], n + 1, hna, (by first | omega | (dsimp only; omega)), ⟨⟨rfl, rfl, rfl, rfl, rfl, congrArg some (congrArg vB (by first | (simp only [hz]; done) | (simp only [hz]; rfl) | (rw [hz]; simp))), congrArg some (congrArg vI (by omega)), trivial⟩, ⟨rfl, rfl, rfl, rfl, rfl, rfl, trivial⟩, rfl⟩⟩
      · rw [hzz, Bool.true_and] at hz
        by_cases h0 : s.1.getD (t * b + (t + 1 + n)) 0 = 0
        · rw [decide_eq_true h0] at hz
          ((repeat' (first | (refine awpL_step TT rfl rfl rfl sd ?_) | (refine awpL_nil ?_) | (refine awpL_skip rfl rfl ?_) | (refine awpQ_step TT rfl rfl rfl rfl sd ?_) | (refine awpQ_nil ?_) | (refine awpQ_skip rfl rfl ?_) | (refine awp_seq ?_) | (refine awp_region ?_) | (first | refine awpL_ret (hd) rfl rfl rfl rfl rfl rfl rfl rfl ft rfl rfl ?_ | refine awpQ_ret (hd) rfl rfl rfl rfl rfl rfl rfl rfl ft rfl rfl ?_ | refine awpHop_ret _ (hd) rfl rfl rfl rfl rfl rfl rfl rfl rfl ft rfl rfl sb rfl ?_) | (refine awp_block ?_) | (refine awp_exit ?_) | (refine awp_skip ?_) | (refine awp_ret ?_) | (refine awp_cond_t rfl ?_) | (refine awp_cond_f rfl ?_) | (refine awp_quiet TM rfl (by kernel_rfl) ?_) | ((first | refine awpL_split rfl rfl rfl (fun hc => ?_) (fun hc => ?_) | refine awpQ_split rfl rfl rfl (fun hc => ?_) (fun hc => ?_) | refine awp_cond rfl (fun hc => ?_) (fun hc => ?_)) <;> ((try simp at hc) <;> try contradiction)))) <;> try (exfalso; omega))
          all_goals exact ⟨[], n + 1, hna, (by first | omega | (dsimp only; omega)), ⟨⟨rfl, rfl, rfl, rfl, rfl, congrArg some (congrArg vB (by first | (simp only [hz, h0]; done) | (simp only [hz, h0]; rfl) | (rw [hz, decide_eq_true h0]; rfl) | (rw [hz, decide_eq_false h0]; rfl) | (rw [hz]; simp [h0]))), congrArg some (congrArg vI (by omega)), trivial⟩, ⟨rfl, rfl, rfl, rfl, rfl, rfl, trivial⟩, rfl⟩⟩
        · rw [decide_eq_false h0] at hz
          ((repeat' (first | (refine awpL_step TT rfl rfl rfl sd ?_) | (refine awpL_nil ?_) | (refine awpL_skip rfl rfl ?_) | (refine awpQ_step TT rfl rfl rfl rfl sd ?_) | (refine awpQ_nil ?_) | (refine awpQ_skip rfl rfl ?_) | (refine awp_seq ?_) | (refine awp_region ?_) | (first | refine awpL_ret (hd) rfl rfl rfl rfl rfl rfl rfl rfl ft rfl rfl ?_ | refine awpQ_ret (hd) rfl rfl rfl rfl rfl rfl rfl rfl ft rfl rfl ?_ | refine awpHop_ret _ (hd) rfl rfl rfl rfl rfl rfl rfl rfl rfl ft rfl rfl sb rfl ?_) | (refine awp_block ?_) | (refine awp_exit ?_) | (refine awp_skip ?_) | (refine awp_ret ?_) | (refine awp_cond_t rfl ?_) | (refine awp_cond_f rfl ?_) | (refine awp_quiet TM rfl (by kernel_rfl) ?_) | ((first | refine awpL_split rfl rfl rfl (fun hc => ?_) (fun hc => ?_) | refine awpQ_split rfl rfl rfl (fun hc => ?_) (fun hc => ?_) | refine awp_cond rfl (fun hc => ?_) (fun hc => ?_)) <;> ((try simp at hc) <;> try contradiction)))) <;> try (exfalso; omega))
          all_goals exact ⟨[], n + 1, hna, (by first | omega | (dsimp only; omega)), ⟨⟨rfl, rfl, rfl, rfl, rfl, congrArg some (congrArg vB (by first | (simp only [hz, h0]; done) | (simp only [hz, h0]; rfl) | (rw [hz, decide_eq_true h0]; rfl) | (rw [hz, decide_eq_false h0]; rfl) | (rw [hz]; simp [h0]))), congrArg some (congrArg vI (by omega)), trivial⟩, ⟨rfl, rfl, rfl, rfl, rfl, rfl, trivial⟩, rfl⟩⟩
    · have hnt : n = b - (t + 1) := by omega
      have htn : ((t + 1 + n : Nat) : Int) = b := by omega
      rw [htn, hnt]
      ((repeat' (first | (refine awpL_step TT rfl rfl rfl sd ?_) | (refine awpL_nil ?_) | (refine awpL_skip rfl rfl ?_) | (refine awpQ_step TT rfl rfl rfl rfl sd ?_) | (refine awpQ_nil ?_) | (refine awpQ_skip rfl rfl ?_) | (refine awp_seq ?_) | (refine awp_region ?_) | (refine awp_block ?_) | (refine awp_exit ?_) | (refine awp_skip ?_) | (refine awp_ret ?_) | (refine awp_cond_t rfl ?_) | (refine awp_cond_f rfl ?_) | (refine awp_quiet TM rfl (by kernel_rfl) ?_) | ((first | refine awpL_split rfl rfl rfl (fun hc => ?_) (fun hc => ?_) | refine awpQ_split rfl rfl rfl (fun hc => ?_) (fun hc => ?_) | refine awp_cond rfl (fun hc => ?_) (fun hc => ?_)) <;> ((try simp at hc) <;> try contradiction)))) <;> try (exfalso; omega))
      all_goals exact ⟨[], (), trivial, ⟨(by repeat' (first | exact trivial | refine ⟨rfl, ?_⟩ | refine ⟨congrArg some (congrArg vI (by first | omega | (simp; done) | (simp; omega))), ?_⟩ | refine ⟨sl_eqA (by first | omega | (simp; done) | (simp; omega)), ?_⟩)), (by repeat' (first | exact trivial | refine ⟨rfl, ?_⟩)), rfl⟩⟩
  rintro ⟨⟩ -
  generalize hcl : (decide (zr s.1 b t (a - (t + 1))) && decide (zc s.1 b t (b - (t + 1)))) = cl
  have hrn : rndS a b t s0 = (rcTo a b t s0).bind (endR a b t) := rfl
  rw [hrn]
  have hpy : ∀ y, rcTo a b t s0 = some y → y.1.getD (t * b + t) 0 = p := fun y hy => by rw [hp]; exact (rc_cells o0 hta htb hy).2.1
  generalize rcTo a b t s0 = o2 at h3 hpy ⊢
  have hdirty : cl = false → Fin3 a b (o2.bind (endR a b t)) s false := fun hc => by
    subst hc
    cases o2 with
    | none => exact ⟨h3, fun x h e => by cases e⟩
    | some y =>
      obtain ⟨rfl, oy⟩ := h3.m
      have hne : ¬ (zr s.1 b t (a - (t + 1)) ∧ zc s.1 b t (b - (t + 1))) := fun ⟨h1, h2⟩ => by rw [decide_eq_true h1, decide_eq_true h2] at hcl; cases hcl
      have he : endR a b t s = some (s, true) := if_neg hne
      rw [Option.bind_some, he]
      exact ⟨Sp3.of oy, fun x h e => by cases e; rfl⟩
  have hclean : cl = true → ∀ y, o2 = some y → s = y ∧ OK3 a b s ∧ endR a b t y = match ndTo y.1 b t p (b - (t + 1)) (a - (t + 1)) with | none => some (y, false) | some i => (row3 a b t i 1 y).map fun x => (x, true) := fun hc y hy => by
    subst hc hy
    obtain ⟨rfl, oy⟩ := h3.m
    have hz : zr s.1 b t (a - (t + 1)) ∧ zc s.1 b t (b - (t + 1)) := by simpa [Bool.and_eq_true] using hcl
    have h1 := hpy s rfl
    have he : endR a b t s = match ndTo s.1 b t (s.1.getD (t * b + t) 0) (b - (t + 1)) (a - (t + 1)) with | none => some (s, false) | some i => (row3 a b t i 1 s).map fun x => (x, true) := if_pos hz
    rw [h1] at he
    exact ⟨rfl, oy, he⟩
  clear hcl hpy hp wp hdp o0 hrn hx0 hnx
  ((repeat' (first | (refine awpL_step TT rfl rfl rfl sd ?_) | (refine awpL_nil ?_) | (refine awpL_skip rfl rfl ?_) | (refine awpQ_step TT rfl rfl rfl rfl sd ?_) | (refine awpQ_nil ?_) | (refine awpQ_skip rfl rfl ?_) | (refine awp_seq ?_) | (refine awp_region ?_) | (refine awp_block ?_) | (refine awp_exit ?_) | (refine awp_skip ?_) | (refine awp_ret ?_) | (refine awp_cond_t rfl ?_) | (refine awp_cond_f rfl ?_) | ((first | refine awpL_split rfl rfl rfl (fun hc => ?_) (fun hc => ?_) | refine awpQ_split rfl rfl rfl (fun hc => ?_) (fun hc => ?_) | refine awp_cond rfl (fun hc => ?_) (fun hc => ?_)) <;> ((try simp at hc) <;> try contradiction)))) <;> try (exfalso; omega))
  refine awp_loop hE (fun x : Nat × S3 × Bool => t + 1 + x.1 ≤ a ∧ (x.2.2 = true ∧ x.2.1 = s ∧ cl = true ∧ (∀ y, o2 = some y → ndTo s.1 b t p (b - (t + 1)) x.1 = none) ∨ x.2.2 = false ∧ Fin3 a b (o2.bind (endR a b t)) x.2.1 false)) (fun x => a - (t + 1 + x.1))
    (fun x => fT t p x.2.2 ++ [(22, vI ((t + 1 + x.1 : Nat) : Int))]) (fun x => hT 27 3 a b nx cx x.2.1) 7 [] (0, s, cl) ⟨by omega, by
      cases hc : cl
      · exact .inr ⟨rfl, hdirty hc⟩
      · exact .inl ⟨rfl, rfl, rfl, fun _ _ => rfl⟩⟩ ⟨(by repeat' (first | exact trivial | refine ⟨rfl, ?_⟩ | refine ⟨congrArg some (congrArg vI (by first | omega | (simp; done) | (simp; omega))), ?_⟩ | refine ⟨sl_eqA (by first | omega | (simp; done) | (simp; omega)), ?_⟩)), (by repeat' (first | exact trivial | refine ⟨rfl, ?_⟩)), rfl⟩ ?_
  rintro ⟨n, s', g⟩ ⟨hn, hinv⟩
  dsimp only at hn hinv ⊢
  rcases hinv with ⟨rfl, rfl, hq1, hnd⟩ | ⟨rfl, hf⟩
  · by_cases hna : t + 1 + n < a
    · have hkn : ¬ ((a : Int) ≤ ((t + 1 + n : Nat) : Int)) := by omega
      ((repeat' (first | (refine awpL_step TT rfl rfl rfl sd ?_) | (refine awpL_nil ?_) | (refine awpL_skip rfl rfl ?_) | (refine awpQ_step TT rfl rfl rfl rfl sd ?_) | (refine awpQ_nil ?_) | (refine awpQ_skip rfl rfl ?_) | (refine awp_seq ?_) | (refine awp_region ?_) | (refine awp_block ?_) | (refine awp_exit ?_) | (refine awp_skip ?_) | (refine awp_ret ?_) | (refine awp_cond_t rfl ?_) | (refine awp_cond_f rfl ?_) | (refine awp_quiet TM rfl (by kernel_rfl) ?_) | ((first | refine awpL_split rfl rfl rfl (fun hc => ?_) (fun hc => ?_) | refine awpQ_split rfl rfl rfl (fun hc => ?_) (fun hc => ?_) | refine awp_cond rfl (fun hc => ?_) (fun hc => ?_)) <;> ((try simp at hc) <;> try contradiction)))) <;> try (exfalso; omega))
      refine awp_loop hE (fun x : Nat × S3 × Bool => t + 1 + x.1 ≤ b ∧ (x.2.2 = true ∧ x.2.1 = s' ∧ (∀ y, o2 = some y → dv s'.1 b t p (t + 1 + n) x.1) ∨ x.2.2 = false ∧ Fin3 a b (o2.bind (endR a b t)) x.2.1 false)) (fun x => b - (t + 1 + x.1))
        (fun x => fT t p x.2.2 ++ [(22, vI ((t + 1 + n : Nat) : Int)), (23, vI ((t + 1 + x.1 : Nat) : Int))]) (fun x => hT 27 3 a b nx cx x.2.1) 7 [] (0, s', true) ⟨by omega, .inl ⟨rfl, rfl, fun _ _ j hj => by omega⟩⟩ ⟨(by repeat' (first | exact trivial | refine ⟨rfl, ?_⟩ | refine ⟨congrArg some (congrArg vI (by first | omega | (simp; done) | (simp; omega))), ?_⟩ | refine ⟨sl_eqA (by first | omega | (simp; done) | (simp; omega)), ?_⟩)), (by repeat' (first | exact trivial | refine ⟨rfl, ?_⟩)), rfl⟩ ?_
      rintro ⟨m, s, g⟩ ⟨hm, hinv⟩
      dsimp only at hm hinv ⊢
      rcases hinv with ⟨rfl, rfl, hdv⟩ | ⟨rfl, hf⟩
      · by_cases hmb : t + 1 + m < b
        · have hkm : ¬ ((b : Int) ≤ ((t + 1 + m : Nat) : Int)) := by omega
          have hd := d_cellH a b (t + 1 + n) (t + 1 + m) nx cx s.1 k1.symm h3.x ha hb hna hmb
          have w1 : s.1[(t + 1 + n) * b + (t + 1 + m)]?.getD 0 = s.1.getD ((t + 1 + n) * b + (t + 1 + m)) 0 := by simp
          have nb := (h3.gx ((t + 1 + n) * b + (t + 1 + m))).rng
          by_cases hz2 : s.1.getD ((t + 1 + n) * b + (t + 1 + m)) 0 = -4611686018427387904
          · have hv : ∀ y, o2 = some y → dv s.1 b t p (t + 1 + n) (m + 1) := fun y hy => by
              obtain ⟨-, oy, -⟩ := hclean hq1 y hy
              exact absurd hz2 (num_ne (num_at oy.nx _))
            ((repeat' (first | (refine awpL_step TT rfl rfl rfl sd ?_) | (refine awpL_nil ?_) | (refine awpL_skip rfl rfl ?_) | (refine awpQ_step TT rfl rfl rfl rfl sd ?_) | (refine awpQ_nil ?_) | (refine awpQ_skip rfl rfl ?_) | (refine awp_seq ?_) | (refine awp_region ?_) | (first | refine awpL_ret (hd) rfl rfl rfl rfl rfl rfl rfl rfl ft rfl rfl ?_ | refine awpQ_ret (hd) rfl rfl rfl rfl rfl rfl rfl rfl ft rfl rfl ?_ | refine awpHop_ret _ (hd) rfl rfl rfl rfl rfl rfl rfl rfl rfl ft rfl rfl sb rfl ?_) | (refine awp_block ?_) | (refine awp_exit ?_) | (refine awp_skip ?_) | (refine awp_ret ?_) | (refine awp_cond_t rfl ?_) | (refine awp_cond_f rfl ?_) | (refine awp_quiet TM rfl (by kernel_rfl) ?_) | ((first | refine awpL_split rfl rfl rfl (fun hc => ?_) (fun hc => ?_) | refine awpQ_split rfl rfl rfl (fun hc => ?_) (fun hc => ?_) | refine awp_cond rfl (fun hc => ?_) (fun hc => ?_)) <;> ((try simp at hc) <;> try contradiction)))) <;> try (exfalso; omega))
            all_goals exact ⟨[], (m + 1, s, true), ⟨hmb, .inl ⟨rfl, rfl, hv⟩⟩, (by first | omega | (dsimp only; omega)), ⟨(by repeat' (first | exact trivial | refine ⟨rfl, ?_⟩ | refine ⟨congrArg some (congrArg vI (by first | omega | (simp; done) | (simp; omega))), ?_⟩ | refine ⟨sl_eqA (by first | omega | (simp; done) | (simp; omega)), ?_⟩)), (by repeat' (first | exact trivial | refine ⟨rfl, ?_⟩)), rfl⟩⟩
          · by_cases h0 : Int.tmod (s.1.getD ((t + 1 + n) * b + (t + 1 + m)) 0) p = 0
            · have hv : ∀ y, o2 = some y → dv s.1 b t p (t + 1 + n) (m + 1) := fun y hy => dv_next (hdv y hy) h0
              ((repeat' (first | (refine awpL_step TT rfl rfl rfl sd ?_) | (refine awpL_nil ?_) | (refine awpL_skip rfl rfl ?_) | (refine awpQ_step TT rfl rfl rfl rfl sd ?_) | (refine awpQ_nil ?_) | (refine awpQ_skip rfl rfl ?_) | (refine awp_seq ?_) | (refine awp_region ?_) | (first | refine awpL_ret (hd) rfl rfl rfl rfl rfl rfl rfl rfl ft rfl rfl ?_ | refine awpQ_ret (hd) rfl rfl rfl rfl rfl rfl rfl rfl ft rfl rfl ?_ | refine awpHop_ret _ (hd) rfl rfl rfl rfl rfl rfl rfl rfl rfl ft rfl rfl sb rfl ?_) | (refine awp_block ?_) | (refine awp_exit ?_) | (refine awp_skip ?_) | (refine awp_ret ?_) | (refine awp_cond_t rfl ?_) | (refine awp_cond_f rfl ?_) | (refine awp_quiet TM rfl (by kernel_rfl) ?_) | ((first | refine awpL_split rfl rfl rfl (fun hc => ?_) (fun hc => ?_) | refine awpQ_split rfl rfl rfl (fun hc => ?_) (fun hc => ?_) | refine awp_cond rfl (fun hc => ?_) (fun hc => ?_)) <;> ((try simp at hc) <;> try contradiction)))) <;> try (exfalso; omega))
              all_goals exact ⟨[], (m + 1, s, true), ⟨hmb, .inl ⟨rfl, rfl, hv⟩⟩, (by first | omega | (dsimp only; omega)), ⟨(by repeat' (first | exact trivial | refine ⟨rfl, ?_⟩ | refine ⟨congrArg some (congrArg vI (by first | omega | (simp; done) | (simp; omega))), ?_⟩ | refine ⟨sl_eqA (by first | omega | (simp; done) | (simp; omega)), ?_⟩)), (by repeat' (first | exact trivial | refine ⟨rfl, ?_⟩)), rfl⟩⟩
            · have hwa := d_opsAdd a b t (t + 1 + n) nx cx 1 s.1 s.2.1 k1.symm h3.x h3.u ha hb hta hna (by omega) h3.gx h3.gu (.inl (by omega))
              have hF : Fin3 a b (o2.bind (endR a b t)) (doX s.1 b t (t + 1 + n) 1, doX s.2.1 a t (t + 1 + n) 1, s.2.2) false := by
                cases o2 with
                | none => exact ⟨Sp3.row (o := none) h3 hta (by decide), fun x h e => by cases e⟩
                | some y =>
                  obtain ⟨rfl, oy, he⟩ := hclean hq1 y rfl
                  rw [nd_found (by omega) (hnd _ rfl) (by omega) h0] at he
                  rw [Option.bind_some, he]
                  refine ⟨?_, fun x h e => ?_⟩
                  · have := Sp3.row (o := some s) (i := t) (j := t + 1 + n) (q := 1) h3 hta (by decide)
                    rw [Option.bind_some] at this
                    dsimp only
                    rw [Option.map_map]
                    have e2 : ((fun x : S3 × Bool => x.1) ∘ fun x : S3 => (x, true)) = id := rfl
                    rw [e2, Option.map_id]
                    exact this
                  · dsimp only at e
                    obtain ⟨z, -, hz⟩ := Option.map_eq_some_iff.1 e
                    cases hz; rfl
              ((repeat' (first | (refine awpL_step TT rfl rfl rfl sd ?_) | (refine awpL_nil ?_) | (refine awpL_skip rfl rfl ?_) | (refine awpQ_step TT rfl rfl rfl rfl sd ?_) | (refine awpQ_nil ?_) | (refine awpQ_skip rfl rfl ?_) | (refine awp_seq ?_) | (refine awp_region ?_) | (first | refine awpL_ret (hd) rfl rfl rfl rfl rfl rfl rfl rfl ft rfl rfl ?_ | refine awpQ_ret (hd) rfl rfl rfl rfl rfl rfl rfl rfl ft rfl rfl ?_ | refine awpHop_ret _ (hd) rfl rfl rfl rfl rfl rfl rfl rfl rfl ft rfl rfl sb rfl ?_) | ((refine awpL_call (hwa) rfl rfl rfl rfl rfl rfl rfl ft rfl ?_); rintro v Hout n1 ⟨rfl, rfl, rfl⟩) | (refine awp_block ?_) | (refine awp_exit ?_) | (refine awp_skip ?_) | (refine awp_ret ?_) | (refine awp_cond_t rfl ?_) | (refine awp_cond_f rfl ?_) | (refine awp_quiet TM rfl (by kernel_rfl) ?_) | ((first | refine awpL_split rfl rfl rfl (fun hc => ?_) (fun hc => ?_) | refine awpQ_split rfl rfl rfl (fun hc => ?_) (fun hc => ?_) | refine awp_cond rfl (fun hc => ?_) (fun hc => ?_)) <;> ((try simp at hc) <;> try contradiction)))) <;> try (exfalso; omega))
              all_goals exact ⟨[], (m + 1, (doX s.1 b t (t + 1 + n) 1, doX s.2.1 a t (t + 1 + n) 1, s.2.2), false), ⟨hmb, .inr ⟨rfl, hF⟩⟩, (by first | omega | (dsimp only; omega)), ⟨(by repeat' (first | exact trivial | refine ⟨rfl, ?_⟩ | refine ⟨congrArg some (congrArg vI (by first | omega | (simp; done) | (simp; omega))), ?_⟩ | refine ⟨sl_eqA (by first | omega | (simp; done) | (simp; omega)), ?_⟩)), (by repeat' (first | exact trivial | refine ⟨rfl, ?_⟩)), rfl⟩⟩
        · have hmt : m = b - (t + 1) := by omega
          have htm : ((t + 1 + m : Nat) : Int) = b := by omega
          rw [hmt] at hdv
          have hnd' : ∀ y, o2 = some y → ndTo s.1 b t p (b - (t + 1)) (n + 1) = none := fun y hy => by rw [ndTo, hnd y hy]; exact if_pos (hdv y hy)
          rw [htm]
          ((repeat' (first | (refine awpL_step TT rfl rfl rfl sd ?_) | (refine awpL_nil ?_) | (refine awpL_skip rfl rfl ?_) | (refine awpQ_step TT rfl rfl rfl rfl sd ?_) | (refine awpQ_nil ?_) | (refine awpQ_skip rfl rfl ?_) | (refine awp_seq ?_) | (refine awp_region ?_) | (refine awp_block ?_) | (refine awp_exit ?_) | (refine awp_skip ?_) | (refine awp_ret ?_) | (refine awp_cond_t rfl ?_) | (refine awp_cond_f rfl ?_) | (refine awp_quiet TM rfl (by kernel_rfl) ?_) | ((first | refine awpL_split rfl rfl rfl (fun hc => ?_) (fun hc => ?_) | refine awpQ_split rfl rfl rfl (fun hc => ?_) (fun hc => ?_) | refine awp_cond rfl (fun hc => ?_) (fun hc => ?_)) <;> ((try simp at hc) <;> try contradiction)))) <;> try (exfalso; omega))
          all_goals exact ⟨[], (n + 1, s, true), ⟨hna, .inl ⟨rfl, rfl, hq1, hnd'⟩⟩, (by first | omega | (dsimp only; omega)), ⟨(by repeat' (first | exact trivial | refine ⟨rfl, ?_⟩ | refine ⟨congrArg some (congrArg vI (by first | omega | (simp; done) | (simp; omega))), ?_⟩ | refine ⟨sl_eqA (by first | omega | (simp; done) | (simp; omega)), ?_⟩)), (by repeat' (first | exact trivial | refine ⟨rfl, ?_⟩)), rfl⟩⟩
      · ((repeat' (first | (refine awpL_step TT rfl rfl rfl sd ?_) | (refine awpL_nil ?_) | (refine awpL_skip rfl rfl ?_) | (refine awpQ_step TT rfl rfl rfl rfl sd ?_) | (refine awpQ_nil ?_) | (refine awpQ_skip rfl rfl ?_) | (refine awp_seq ?_) | (refine awp_region ?_) | (refine awp_block ?_) | (refine awp_exit ?_) | (refine awp_skip ?_) | (refine awp_ret ?_) | (refine awp_cond_t rfl ?_) | (refine awp_cond_f rfl ?_) | (refine awp_quiet TM rfl (by kernel_rfl) ?_) | ((first | refine awpL_split rfl rfl rfl (fun hc => ?_) (fun hc => ?_) | refine awpQ_split rfl rfl rfl (fun hc => ?_) (fun hc => ?_) | refine awp_cond rfl (fun hc => ?_) (fun hc => ?_)) <;> ((try simp at hc) <;> try contradiction)))) <;> try (exfalso; omega))
        all_goals exact ⟨[], (n + 1, s, false), ⟨hna, .inr ⟨rfl, hf⟩⟩, (by first | omega | (dsimp only; omega)), ⟨(by repeat' (first | exact trivial | refine ⟨rfl, ?_⟩ | refine ⟨congrArg some (congrArg vI (by first | omega | (simp; done) | (simp; omega))), ?_⟩ | refine ⟨sl_eqA (by first | omega | (simp; done) | (simp; omega)), ?_⟩)), (by repeat' (first | exact trivial | refine ⟨rfl, ?_⟩)), rfl⟩⟩
    · have hnt : n = a - (t + 1) := by omega
      have htn : ((t + 1 + n : Nat) : Int) = a := by omega
      rw [hnt] at hnd
      rw [htn]
      have hF : Fin3 a b (o2.bind (endR a b t)) s' true := by
        cases o2 with
        | none => exact ⟨h3, fun x h e => by cases e⟩
        | some y =>
          obtain ⟨rfl, oy, he⟩ := hclean hq1 y rfl
          rw [hnd _ rfl] at he
          rw [Option.bind_some, he]
          exact ⟨h3, fun x h e => by cases e; rfl⟩
      ((repeat' (first | (refine awpL_step TT rfl rfl rfl sd ?_) | (refine awpL_nil ?_) | (refine awpL_skip rfl rfl ?_) | (refine awpQ_step TT rfl rfl rfl rfl sd ?_) | (refine awpQ_nil ?_) | (refine awpQ_skip rfl rfl ?_) | (refine awp_seq ?_) | (refine awp_region ?_) | (refine awp_block ?_) | (refine awp_exit ?_) | (refine awp_skip ?_) | (refine awp_ret ?_) | (refine awp_cond_t rfl ?_) | (refine awp_cond_f rfl ?_) | (refine awp_quiet TM rfl (by kernel_rfl) ?_) | ((first | refine awpL_split rfl rfl rfl (fun hc => ?_) (fun hc => ?_) | refine awpQ_split rfl rfl rfl (fun hc => ?_) (fun hc => ?_) | refine awp_cond rfl (fun hc => ?_) (fun hc => ?_)) <;> ((try simp at hc) <;> try contradiction)))) <;> try (exfalso; omega))
      all_goals exact fin rfl (by repeat' (first | exact trivial | exact Nat.zero_lt_one | omega | refine ⟨?_, ?_⟩)) [] (vB true) [(1, .own 3 cx (.ints s'.1)), (2, .own 3 (a * a) (.ints s'.2.1)), (3, .own 3 (b * b) (.ints s'.2.2))] 4 ⟨s', true, hF, rfl, rfl, rfl⟩ rfl ⟨trivial, ⟨rfl, rfl, rfl, trivial⟩, rfl⟩ rfl
  · ((repeat' (first | (refine awpL_step TT rfl rfl rfl sd ?_) | (refine awpL_nil ?_) | (refine awpL_skip rfl rfl ?_) | (refine awpQ_step TT rfl rfl rfl rfl sd ?_) | (refine awpQ_nil ?_) | (refine awpQ_skip rfl rfl ?_) | (refine awp_seq ?_) | (refine awp_region ?_) | (refine awp_block ?_) | (refine awp_exit ?_) | (refine awp_skip ?_) | (refine awp_ret ?_) | (refine awp_cond_t rfl ?_) | (refine awp_cond_f rfl ?_) | (refine awp_quiet TM rfl (by kernel_rfl) ?_) | ((first | refine awpL_split rfl rfl rfl (fun hc => ?_) (fun hc => ?_) | refine awpQ_split rfl rfl rfl (fun hc => ?_) (fun hc => ?_) | refine awp_cond rfl (fun hc => ?_) (fun hc => ?_)) <;> ((try simp at hc) <;> try contradiction)))) <;> try (exfalso; omega))
    all_goals exact fin rfl (by repeat' (first | exact trivial | exact Nat.zero_lt_one | omega | refine ⟨?_, ?_⟩)) [] (vB false) [(1, .own 3 cx (.ints s'.1)), (2, .own 3 (a * a) (.ints s'.2.1)), (3, .own 3 (b * b) (.ints s'.2.2))] 4 ⟨s', false, hf, rfl, rfl, rfl⟩ rfl ⟨trivial, ⟨rfl, rfl, rfl, trivial⟩, rfl⟩ rfl
end Go.Proofs.Ytmkoifmokdmebaa
