/-
  TEXTS OF THE PROOF, put together: bRgT.
-/
import Derived.Test.YtekpamojojfplaaGreatB34
import Derived.Test.YtekpamojojfplaaGreatB35
set_option linter.unusedVariables false
set_option linter.unusedSimpArgs false
namespace Go.Proofs.YtekpamojojfplaaGreat
open Go.RowKit
theorem d_badF (n c : Nat) (xs : List Int) (b : Bool) (hl : xs.length = n * n) (hn : n ≤ 24) (hb : hasB xs ↔ b = true) : Does Tryz.prog 154 [vS 1 1 0 (n * n) c] [(1, .ro (.ints xs))] 2 (Ret (vB b) 2) := by
  have h1 : n * n ≤ 24 * 24 := Nat.mul_le_mul hn hn
  have h := d_bads xs c (by omega)
  have e : decide (badN ∈ xs) = b := by
    rw [hasB_mem] at hb
    cases b
    · exact decide_eq_false fun h => by cases hb.1 h
    · exact decide_eq_true (hb.2 rfl)
  rwa [e, hl] at h
abbrev fRg (k steps : Nat) : List (Nat × AV) := [(2, .one (.ptr 3 3 0 0)), (3, .one (.ptr 4 3 0 0)), (5, .one (.ptr 6 3 0 0)), (6, .one (.ptr 8 3 0 0)), (8, vI k), (9, vI steps)]
abbrev hRg (ti tm : TypeId) (n cx : Nat) (xs : List Int) (s : S3) : List (Nat × Blk) := [(1, .ro (.ints xs)), (3, .own tm 1 (.lit zeroM)), (4, .own tm 1 (.lit zeroM)), (5, .own ti cx (.ints s.1)), (6, .own tm 1 (.lit [.int n, .int n, .sl 5 1 0 (n * n) cx])), (7, .own ti (n * n) (.ints s.2.1)), (8, .own tm 1 (.lit [.int n, .int n, .sl 7 1 0 (n * n) (n * n)]))]
set_option maxRecDepth 100000 in
set_option maxHeartbeats 16000000 in
theorem d_redS (r c : Int) (xs : List Int) (ca : Nat) (hl : xs.length ≤ 1099511627776) : Does Tryz.prog 117 [vM r c 1 xs.length ca] [(1, .ro (.ints xs))] 2 (RedR 3 r (redO r c xs)) := by
 refine Does.intro TT Tryz.func117 rfl (by kernel_rfl) Zz Zz fun E hE => ?_
 have hde := d_defS r c xs ca hl
 cases hd : defB r c xs with
 | false =>
  have hR : redO r c xs = none := by rw [redO, hd]; rfl
  rw [hR]
  rw [hd] at hde
  ((repeat' (first | refine stx ?_ | refine zqc (hde) ?_ | (refine stq ?_ ?_ <;> (intro hc; ((try simp at hc) <;> try contradiction))) | fail)) <;> try (exfalso; omega))
  all_goals exact fin rfl w_3 [] (.tup [.agg zeroM, .agg zeroM, .one (.bool false)]) [] 2 ⟨rfl, rfl, rfl⟩ rfl ⟨trivial, trivial, rfl⟩ rfl
 | true =>
  rw [hd] at hde
  have hR0 : redO r c xs = redG r.toNat 200 (xs, idTo r.toNat r.toNat, idTo r.toNat r.toNat) 1 := by rw [redO, hd]; rfl
  obtain ⟨n, rfl, rfl, hn, hx, hnum, -⟩ := defB_dims hd
  have o0 := turnS0 hx hnum
  have hR : redO n n xs = redG n 200 (xs, idTo n n, idTo n n) 1 := by rw [hR0, Int.toNat_natCast]
  generalize hs0 : (xs, idTo n n, idTo n n) = s0 at o0 hR
  have hx0 : xs = s0.1 := by rw [← hs0]
  have hu0 : idTo n n = s0.2.1 := by rw [← hs0]
  have hn24 : n ≤ 24 := by omega
  have hn3 : n * n ≤ 36 := Nat.mul_le_mul hn hn
  have hcp := d_copyS n n xs ca hl
  rw [hR]
  generalize hRR : redG n 200 s0 1 = R
  ((repeat' (first | refine stx ?_ | refine zqc (hde) ?_ | ((refine zqe (hcp) ?_); rintro v Hout n1 ⟨cx0, hcx0, rfl, rfl, rfl⟩) | ((refine zqe (d_identSN n hn24) ?_); rintro v Hout n1 ⟨rfl, rfl, rfl⟩) | (refine stq ?_ ?_ <;> (intro hc; ((try simp at hc) <;> try contradiction))) | fail)) <;> try (exfalso; omega))
  refine w_G hE (fun x : Nat × Nat × S3 × Nat => x.1 ≤ 200 ∧ 1 ≤ x.2.1 ∧ TurnS n x.2.2.1 ∧ n * n ≤ x.2.2.2 ∧ redG n (200 - x.1) x.2.2.1 x.2.1 = R) (fun x => 200 - x.1)
   (fun x => fRg x.2.1 x.1) (fun x => hRg 3 26 n x.2.2.2 xs x.2.2.1) 9 [] (0, 1, s0, cx0) ⟨Nat.zero_le _, Nat.le_refl _, o0, by dsimp only; omega, hRR⟩ ⟨w_1, ⟨rfl, rfl, rfl, own_ints hx0, congrArg (fun m => some (Blk.own 26 1 (.lit [.int n, .int n, .sl 5 1 0 m cx0]))) hx, own_ints hu0, rfl, trivial⟩, rfl⟩ ?_
  rintro ⟨steps, k, s, cx⟩ ⟨hst, hk1, hT, hcx, hrg⟩
  dsimp only at hst hk1 hT hcx hrg ⊢
  have o1 := hT.1
  have k1 := o1.x
  have k2 := o1.u
  by_cases hkn : k < n
  ·have hkn2 : ¬ n ≤ k := by omega
   have hac := d_accS n s.1 cx (n * n) k1.symm k1 hn24
   cases ho : acTo s.1 n n with
   | none =>
    rw [ho] at hac
    have hRn : R = none := by
     rw [← hrg]
     cases h : 200 - steps with
     | zero => exact redG_out hkn
     | succ f => rw [redG_go hkn, redStep_in, ho]; rfl
    rw [hRn]
    ((repeat' (first | refine stx ?_ | ((refine zqe (hac) ?_); rintro v Hout n1 ⟨l, sq, c1, c2, rfl, rfl, rfl⟩) | (refine stq ?_ ?_ <;> (intro hc; ((try simp at hc) <;> try contradiction))) | fail)) <;> try (exfalso; omega))
    all_goals exact fin rfl w_3 [] (.tup [.agg zeroM, .agg zeroM, .one (.bool false)]) [] 2 ⟨rfl, rfl, rfl⟩ rfl ⟨trivial, trivial, rfl⟩ rfl
   | some st =>
    rw [ho] at hac
    obtain ⟨a1, a2, a3⟩ := acTo_len ho
    by_cases h200 : steps = 200
    ·have hRn : R = none := by
      rw [← hrg, h200]; exact redG_out hkn
     rw [hRn]
     have h200i : (200 : Int) ≤ steps := by omega
     have h200j : 200 ≤ steps := by omega
     ((repeat' (first | refine stx ?_ | ((refine zqe (hac) ?_); rintro v Hout n1 ⟨l, c1, c2, hps, rfl, rfl, rfl⟩) | (refine stq ?_ ?_ <;> (intro hc; ((try simp at hc) <;> try contradiction))) | fail)) <;> try (exfalso; omega))
     all_goals exact fin rfl w_3 [] (.tup [.agg zeroM, .agg zeroM, .one (.bool false)]) [] 2 ⟨rfl, rfl, rfl⟩ rfl ⟨trivial, trivial, rfl⟩ rfl
    ·have h200i : ¬ (200 : Int) ≤ steps := by omega
     have h200j : ¬ 200 ≤ steps := by omega
     have hgo : redG n (200 - steps) s k = (redStep n k s).bind fun x => redG n (200 - (steps + 1)) x.1 x.2 := by
      rw [show 200 - steps = (200 - (steps + 1)) + 1 by omega]; exact redG_go hkn
     rw [redStep_in, ho, Option.bind_some] at hgo
     have hbad : redIn n k s st = none → R = none := fun h => by rw [← hrg, hgo, h]; rfl
     have hgood : ∀ y, redIn n k s st = some y → redG n (200 - (steps + 1)) y.1 y.2 = R ∧ TurnS n y.1 ∧ 1 ≤ y.2 := fun y h => by
      have h2 := redStep_turn hT ⟨hk1, hkn⟩ (s' := y.1) (k' := y.2) (by rw [redStep_in, ho, Option.bind_some, h])
      exact ⟨by rw [← hrg, hgo, h]; rfl, h2.1, h2.2.1⟩
     clear hgo hrg hRR hR hR0 hde hcp
     have hbz : ∀ z : S3, TurnS n z → ∀ c, Does Tryz.prog 154 [vS 1 1 0 (n * n) c] [(1, .ro (.ints z.1))] 2 (Ret (vB false) 2) := fun z hz c => d_badF n c z.1 false hz.1.x hn24 ⟨fun h => (num_hasB hz.1.nx h).elim, fun h => by cases h⟩
     have hbu : ∀ z : S3, TurnS n z → ∀ c, Does Tryz.prog 154 [vS 1 1 0 (n * n) c] [(1, .ro (.ints z.2.1))] 2 (Ret (vB false) 2) := fun z hz c => d_badF n c z.2.1 false hz.1.u hn24 ⟨fun h => (num_hasB hz.1.nu h).elim, fun h => by cases h⟩
     ((repeat' (first | refine stx ?_ | ((refine zqe (hac) ?_); rintro v Hout n1 ⟨l, c1, c2, hps, rfl, rfl, rfl⟩) | (refine stq ?_ ?_ <;> (intro hc; ((try simp at hc) <;> try contradiction))) | fail)) <;> try (exfalso; omega))
     have hll : l.length = n := by rw [← a1, ← hps, psX, List.length_map]
     have e0 : 0 + (k : Int).toNat = k := by omega
     have e1 : 0 + ((k : Int) - 1).toNat = k - 1 := by omega
     have ex : (l.getD (0 + (k : Int).toNat) rowD).ps = st.1.getD k [] := by
      rw [e0, ← hps, getD_in (show k < l.length by omega), getD_in (by rw [psX, List.length_map]; omega)]; simp [psX]
     have exl : (l.getD (0 + (k : Int).toNat) rowD).ps.length = k := by rw [ex]; exact a3 k hkn
     have exn : (l[k]?.getD rowD).ps.length = k := by rw [← List.getD_eq_getElem?_getD]; rwa [e0] at exl
     obtain ⟨row, hrow⟩ : ∃ row, row = st.1.getD k [] := ⟨_, rfl⟩
     refine w_G hE (fun m : Nat => m ≤ k ∧ rdJ row k = rdJ row m) (fun m => m)
      (fun m => [(2, .one (.ptr 3 3 0 0)), (3, .one (.ptr 4 3 0 0)), (5, .one (.ptr 6 3 0 0)), (6, .one (.ptr 8 3 0 0)), (8, vI k), (9, vI steps), (10, .one (.sl 9 1 0 l.length c1)), (11, .one (.sl 10 2 0 st.2.length c2)), (13, vI ((m : Int) - 1))])
      (fun _ => [(1, .ro (.ints xs)), (3, .own 26 1 (.lit zeroM)), (4, .own 26 1 (.lit zeroM)), (5, .own 3 cx (.ints s.1)), (6, .own 26 1 (.lit [.int n, .int n, .sl 5 1 0 (n * n) cx])), (7, .own 3 (n * n) (.ints s.2.1)), (8, .own 26 1 (.lit [.int n, .int n, .sl 7 1 0 (n * n) (n * n)])), (9, .own 124 c1 (.rows true true l)), (10, .own 129 c2 (.i2 st.2))]) 11 [] k ⟨Nat.le_refl _, rfl⟩ ⟨w_1, w_2, rfl⟩ ?_
     rintro m ⟨hm, hrd⟩
     cases m with
     | zero =>
      have hin : redIn n k s st = if ordC st.1 st.2 k = 2 then none else if ordC st.1 st.2 k = 0 ∨ ordC st.1 st.2 k = 1 then some (s, k + 1) else some (swC n n k (k - 1) (swR n n k (k - 1) s), max 1 (k - 1)) := by
       unfold redIn
       rw [← hrow, hrd]; rfl
      obtain ⟨c, hc⟩ : ∃ c, c = ordC st.1 st.2 k := ⟨_, rfl⟩
      have hio := d_goodS ((l.getD (0 + (k : Int).toNat) rowD).ps.getD (0 + ((k : Int) - 1).toNat) (0, 0)) (st.2.getD (0 + ((k : Int) - 1).toNat) (0, 0)) (st.2.getD (0 + (k : Int).toNat) (0, 0)) c (by rw [hc, ex, e0, e1]; rfl)
      rw [← hc] at hin
      rw [show (((0 : Nat) : Int) - 1) = -1 from rfl]
      by_cases g2 : c = 2
      ·rw [if_pos g2] at hin
       rw [decide_eq_true g2] at hio
       rw [hbad hin]
       ((repeat' (first | refine stp ?_ | (refine stq ?_ ?_ <;> (intro hc; ((try simp at hc) <;> try contradiction))) | fail)) <;> try (exfalso; omega))
       refine awp_held TM [(10, _)] sb rfl (fun ρs => ?_)
       refine zt0 ?_
       refine zt1 ?_
       refine zt2 ?_
       refine zt4 ?_
       refine zt5 ?_
       refine zt8 ?_
       refine zt9 ?_
       refine zt10 ?_
       refine zt11 ?_
       refine zt12 ?_
       refine zt13 ?_
       refine zt14 ?_
       refine zt15 ?_
       refine zt16 ?_
       refine w_u [3] kr rfl ⟨?_, trivial⟩
       first | (refine zho ?_) | refine zqb (hio) ?_
       refine zt6 ?_
       refine w_u [7] kr rfl ⟨?_, trivial⟩
       first | (refine zho ?_) | refine zqb (hio) ?_
       refine w_u [17] kr rfl ⟨?_, trivial⟩
       first | (refine zho ?_) | refine zqb (hio) ?_
       refine zt18 ?_
       refine zt19 ?_
       refine zt20 ?_
       refine zt21 ?_
       refine zt22 ?_
       refine w_v kr ?_
       rotate_left
       all_goals ((repeat' (first | refine stx ?_ | (refine stq ?_ ?_ <;> (intro hc; ((try simp at hc) <;> try contradiction))) | fail)) <;> try (exfalso; omega))
       all_goals exact fin rfl w_3 [] (.tup [.agg zeroM, .agg zeroM, .one (.bool false)]) [] 2 ⟨rfl, rfl, rfl⟩ rfl ⟨trivial, trivial, rfl⟩ rfl
      ·rw [if_neg g2] at hin
       rw [decide_eq_false g2] at hio
       by_cases g1 : c = 0 ∨ c = 1
       ·rw [if_pos g1] at hin
        rw [decide_eq_true g1] at hio
        obtain ⟨h1, h2, h3⟩ := hgood _ hin
        have hb1 := hbz s hT
        have hb2 := hbu s hT
        ((repeat' (first | refine stp ?_ | (refine stq ?_ ?_ <;> (intro hc; ((try simp at hc) <;> try contradiction))) | fail)) <;> try (exfalso; omega))
        refine awp_held TM [(10, _)] sb rfl (fun ρs => ?_)
        refine zt0 ?_
        refine zt1 ?_
        refine zt2 ?_
        refine zt4 ?_
        refine zt5 ?_
        refine zt8 ?_
        refine zt9 ?_
        refine zt10 ?_
        refine zt11 ?_
        refine zt12 ?_
        refine zt13 ?_
        refine zt14 ?_
        refine zt15 ?_
        refine zt16 ?_
        refine w_u [3] kr rfl ⟨?_, trivial⟩
        first | (refine zho ?_) | refine zqb (hio) ?_
        refine zt6 ?_
        refine w_u [7] kr rfl ⟨?_, trivial⟩
        first | (refine zho ?_) | refine zqb (hio) ?_
        refine w_u [17] kr rfl ⟨?_, trivial⟩
        first | (refine zho ?_) | refine zqb (hio) ?_
        refine zt18 ?_
        refine zt19 ?_
        refine zt20 ?_
        refine zt21 ?_
        refine zt22 ?_
        refine w_v kr ?_
        rotate_left
        all_goals ((repeat' (first | refine stx ?_ | refine zqc (hb1 cx) ?_ | refine zqc (hb2 (n * n)) ?_ | (refine stq ?_ ?_ <;> (intro hc; ((try simp at hc) <;> try contradiction))) | fail)) <;> try (exfalso; omega))
        all_goals exact ⟨[], (steps + 1, k + 1, s, cx), ⟨by dsimp only; omega, h3, h2, hcx, h1⟩, w_4, ⟨w_1, w_2, rfl⟩⟩
       ·rw [if_neg g1] at hin
        rw [decide_eq_false g1] at hio
        obtain ⟨h1, h2, h3⟩ := hgood _ hin
        dsimp only at h1 h2 h3
        have hsw := (swap_turn (i := k) (j := k - 1) hT (by omega)).2
        have hb := d_bothSS n k (k - 1) cx s.1 s.2.1 o1.row hn24 hkn (by omega) (by omega)
        rw [show ((k - 1 : Nat) : Int) = (k : Int) - 1 by omega] at hb
        generalize swC n n k (k - 1) (swR n n k (k - 1) s) = z at h1 h2 hsw
        have hb1 := hbz z h2
        have hb2 := hbu z h2
        have z1 : turnM (swapTo (turnM (swapTo s.1 (k * n) ((k - 1) * n) n) n n) (k * n) ((k - 1) * n) n) n n = z.1 := by rw [hsw]
        have z2 : swapTo s.2.1 (k * n) ((k - 1) * n) n = z.2.1 := by rw [hsw]
        rw [z1, z2] at hb
        ((repeat' (first | refine stp ?_ | (refine stq ?_ ?_ <;> (intro hc; ((try simp at hc) <;> try contradiction))) | fail)) <;> try (exfalso; omega))
        refine awp_held TM [(10, _)] sb rfl (fun ρs => ?_)
        refine zt0 ?_
        refine zt1 ?_
        refine zt2 ?_
        refine zt4 ?_
        refine zt5 ?_
        refine zt8 ?_
        refine zt9 ?_
        refine zt10 ?_
        refine zt11 ?_
        refine zt12 ?_
        refine zt13 ?_
        refine zt14 ?_
        refine zt15 ?_
        refine zt16 ?_
        refine w_u [3] kr rfl ⟨?_, trivial⟩
        first | (refine zho ?_) | refine zqb (hio) ?_
        refine zt6 ?_
        refine w_u [7] kr rfl ⟨?_, trivial⟩
        first | (refine zho ?_) | refine zqb (hio) ?_
        refine w_u [17] kr rfl ⟨?_, trivial⟩
        first | (refine zho ?_) | refine zqb (hio) ?_
        refine zt18 ?_
        refine zt19 ?_
        refine zt20 ?_
        refine zt21 ?_
        refine zt22 ?_
        refine w_v kr ?_
        rotate_left
        all_goals ((repeat' (first | refine stx ?_ | ((refine zqe (hb) ?_); rintro v Hout n1 ⟨rfl, rfl, rfl⟩) | refine zqc (hb1 cx) ?_ | refine zqc (hb2 (n * n)) ?_ | (refine stq ?_ ?_ <;> (intro hc; ((try simp at hc) <;> try contradiction))) | fail)) <;> try (exfalso; omega))
        all_goals exact ⟨[], (steps + 1, max 1 (k - 1), z, cx), ⟨by dsimp only; omega, h3, h2, hcx, h1⟩, w_4, ⟨⟨rfl, rfl, rfl, rfl, congrArg some (congrArg vI (by dsimp only; split <;> omega)), rfl, trivial⟩, ⟨rfl, rfl, rfl, rfl, rfl, rfl, rfl, trivial⟩, rfl⟩⟩
     | succ m =>
      rw [show (((m + 1 : Nat) : Int) - 1) = m by omega]
      obtain ⟨T, hT0⟩ : ∃ T, T = (l.getD (0 + (k : Int).toNat) rowD).ps.getD (0 + (m : Int).toNat) (0, 0) := ⟨_, rfl⟩
      have eT : T = row.getD m (0, 0) := by rw [hT0, ex, ← hrow, show 0 + (m : Int).toNat = m by omega]
      have h3 := rdJ_same hrd
      rw [← eT] at h3
      have hqb : -1000000000000 ≤ rndP2 T ∧ rndP2 T ≤ 1000000000000 := rnd_bd T
      have hqn : numB (-rndP2 T) = true := rnd_num T
      have hrt := d_ratioS T.1 T.2
      have hrn := d_rndRS T.1 T.2
      rw [show ratioB T.1 T.2 = ratP T from rfl] at hrt
      rw [show rndR T.1 T.2 = rndP2 T from rfl] at hrn
      generalize hq : rndP2 T = q at hrn hqb h3 hqn
      generalize hr : ratP T = b at hrt h3
      rw [hT0] at hrt hrn
      cases b with
      | false =>
       have hin : redIn n k s st = none := by
        unfold redIn
        rw [← hrow, h3]; rfl
       rw [hbad hin]
       ((repeat' (first | refine stx ?_ | refine zqc (hrt) ?_ | (refine stq ?_ ?_ <;> (intro hc; ((try simp at hc) <;> try contradiction))) | fail)) <;> try (exfalso; omega))
       all_goals exact fin rfl w_3 [] (.tup [.agg zeroM, .agg zeroM, .one (.bool false)]) [] 2 ⟨rfl, rfl, rfl⟩ rfl ⟨trivial, trivial, rfl⟩ rfl
      | true =>
       rw [if_pos rfl] at h3
       by_cases q0 : q = 0
       ·rw [if_pos q0] at h3
        ((repeat' (first | refine stx ?_ | refine zqc (hrt) ?_ | refine zqc (hrn) ?_ | (refine stq ?_ ?_ <;> (intro hc; ((try simp at hc) <;> try contradiction))) | fail)) <;> try (exfalso; omega))
        all_goals exact ⟨[], m, ⟨by omega, h3⟩, Nat.lt_succ_self m, ⟨w_1, w_2, rfl⟩⟩
       ·rw [if_neg q0] at h3
        have hin : redIn n k s st = (bothO n k m (-q) s).map fun s' => (s', k) := by
         unfold redIn
         rw [← hrow, h3]
         dsimp only
         rw [← eT, hq]
        have hqb2 : -q ≠ badN := num_ne hqn
        have hmk := both_marks hT (i := k) (j := m) hkn hqb2
        have hb := d_bothSA n k m cx (-q) s.1 s.2.1 k1 k2 hn24 hkn (by omega) (by omega) (GBs.num o1.nx) (GBs.num o1.nu) (.inl (by have := numB_true.1 hqn; omega))
        have l1 : (dcX (doX s.1 n k m (-q)) n n k m (-q)).length = n * n := dcX_len
        have l2 : (doX s.2.1 n k m (-q)).length = n * n := updTo_len.trans k2
        cases hbo : bothO n k m (-q) s with
        | none =>
         rw [hbo] at hin
         rw [hbad hin]
         have hor := hmk.1.1 hbo
         generalize dcX (doX s.1 n k m (-q)) n n k m (-q) = ya at hb l1 hor
         generalize doX s.2.1 n k m (-q) = yu at hb l2 hor
         by_cases hA : hasB ya
         ·have hb1 := d_badF n cx ya true l1 hn24 ⟨fun _ => rfl, fun _ => hA⟩
          ((repeat' (first | refine stp ?_ | refine zqc (hrt) ?_ | refine zqc (hrn) ?_ | (refine stq ?_ ?_ <;> (intro hc; ((try simp at hc) <;> try contradiction))) | fail)) <;> try (exfalso; omega))
          refine awp_held TM [(6, _), (8, _)] sb rfl (fun ρs => ?_)
          refine zt0 ?_
          refine zt1 ?_
          refine zt2 ?_
          refine zt3 ?_
          refine zt4 ?_
          refine zt5 ?_
          refine zt6 ?_
          refine zt8 ?_
          refine w_u [7] kr rfl ⟨?_, trivial⟩
          first | (refine zho ?_) | refine zqb (hrn) ?_ | (refine zqf (hb) ?_; rintro v Hout n1 ⟨rfl, rfl, rfl⟩; refine ⟨sb, ?_⟩)
          refine zt9 ?_
          refine w_u [10] kr rfl ⟨?_, trivial⟩
          first | (refine zho ?_) | refine zqb (hrn) ?_ | (refine zqf (hb) ?_; rintro v Hout n1 ⟨rfl, rfl, rfl⟩; refine ⟨sb, ?_⟩)
          refine w_u [11] kr rfl ⟨?_, trivial⟩
          first | (refine zho ?_) | refine zqb (hrn) ?_ | (refine zqf (hb) ?_; rintro v Hout n1 ⟨rfl, rfl, rfl⟩; refine ⟨sb, ?_⟩)
          refine zt12 ?_
          refine zt13 ?_
          refine w_u [14] kr rfl ⟨?_, trivial⟩
          first | (refine zho ?_) | refine zqb (hrn) ?_ | (refine zqf (hb) ?_; rintro v Hout n1 ⟨rfl, rfl, rfl⟩; refine ⟨sb, ?_⟩)
          refine w_v kr ?_
          rotate_left
          all_goals ((repeat' (first | refine stx ?_ | refine zqc (hb1) ?_ | (refine stq ?_ ?_ <;> (intro hc; ((try simp at hc) <;> try contradiction))) | fail)) <;> try (exfalso; omega))
          all_goals exact fin rfl w_3 [] (.tup [.agg zeroM, .agg zeroM, .one (.bool false)]) [] 2 ⟨rfl, rfl, rfl⟩ rfl ⟨trivial, trivial, rfl⟩ rfl
         ·have hb1 := d_badF n cx ya false l1 hn24 ⟨fun h => (hA h).elim, fun h => by cases h⟩
          have hb2 := d_badF n (n * n) yu true l2 hn24 ⟨fun _ => rfl, fun _ => hor.resolve_left hA⟩
          ((repeat' (first | refine stp ?_ | refine zqc (hrt) ?_ | refine zqc (hrn) ?_ | (refine stq ?_ ?_ <;> (intro hc; ((try simp at hc) <;> try contradiction))) | fail)) <;> try (exfalso; omega))
          refine awp_held TM [(6, _), (8, _)] sb rfl (fun ρs => ?_)
          refine zt0 ?_
          refine zt1 ?_
          refine zt2 ?_
          refine zt3 ?_
          refine zt4 ?_
          refine zt5 ?_
          refine zt6 ?_
          refine zt8 ?_
          refine w_u [7] kr rfl ⟨?_, trivial⟩
          first | (refine zho ?_) | refine zqb (hrn) ?_ | (refine zqf (hb) ?_; rintro v Hout n1 ⟨rfl, rfl, rfl⟩; refine ⟨sb, ?_⟩)
          refine zt9 ?_
          refine w_u [10] kr rfl ⟨?_, trivial⟩
          first | (refine zho ?_) | refine zqb (hrn) ?_ | (refine zqf (hb) ?_; rintro v Hout n1 ⟨rfl, rfl, rfl⟩; refine ⟨sb, ?_⟩)
          refine w_u [11] kr rfl ⟨?_, trivial⟩
          first | (refine zho ?_) | refine zqb (hrn) ?_ | (refine zqf (hb) ?_; rintro v Hout n1 ⟨rfl, rfl, rfl⟩; refine ⟨sb, ?_⟩)
          refine zt12 ?_
          refine zt13 ?_
          refine w_u [14] kr rfl ⟨?_, trivial⟩
          first | (refine zho ?_) | refine zqb (hrn) ?_ | (refine zqf (hb) ?_; rintro v Hout n1 ⟨rfl, rfl, rfl⟩; refine ⟨sb, ?_⟩)
          refine w_v kr ?_
          rotate_left
          all_goals ((repeat' (first | refine stx ?_ | refine zqc (hb1) ?_ | refine zqc (hb2) ?_ | (refine stq ?_ ?_ <;> (intro hc; ((try simp at hc) <;> try contradiction))) | fail)) <;> try (exfalso; omega))
          all_goals exact fin rfl w_3 [] (.tup [.agg zeroM, .agg zeroM, .one (.bool false)]) [] 2 ⟨rfl, rfl, rfl⟩ rfl ⟨trivial, trivial, rfl⟩ rfl
        | some z =>
         rw [hbo] at hin
         obtain ⟨h1, h2, h3'⟩ := hgood (z, k) hin
         dsimp only at h1 h2 h3'
         obtain ⟨ez, -⟩ := hmk.2 z hbo
         have z1 : dcX (doX s.1 n k m (-q)) n n k m (-q) = z.1 := by rw [ez]
         have z2 : doX s.2.1 n k m (-q) = z.2.1 := by rw [ez]
         rw [z1, z2] at hb
         have hb1 := hbz z h2
         have hb2 := hbu z h2
         ((repeat' (first | refine stp ?_ | refine zqc (hrt) ?_ | refine zqc (hrn) ?_ | (refine stq ?_ ?_ <;> (intro hc; ((try simp at hc) <;> try contradiction))) | fail)) <;> try (exfalso; omega))
         refine awp_held TM [(6, _), (8, _)] sb rfl (fun ρs => ?_)
         refine zt0 ?_
         refine zt1 ?_
         refine zt2 ?_
         refine zt3 ?_
         refine zt4 ?_
         refine zt5 ?_
         refine zt6 ?_
         refine zt8 ?_
         refine w_u [7] kr rfl ⟨?_, trivial⟩
         first | (refine zho ?_) | refine zqb (hrn) ?_ | (refine zqf (hb) ?_; rintro v Hout n1 ⟨rfl, rfl, rfl⟩; refine ⟨sb, ?_⟩)
         refine zt9 ?_
         refine w_u [10] kr rfl ⟨?_, trivial⟩
         first | (refine zho ?_) | refine zqb (hrn) ?_ | (refine zqf (hb) ?_; rintro v Hout n1 ⟨rfl, rfl, rfl⟩; refine ⟨sb, ?_⟩)
         refine w_u [11] kr rfl ⟨?_, trivial⟩
         first | (refine zho ?_) | refine zqb (hrn) ?_ | (refine zqf (hb) ?_; rintro v Hout n1 ⟨rfl, rfl, rfl⟩; refine ⟨sb, ?_⟩)
         refine zt12 ?_
         refine zt13 ?_
         refine w_u [14] kr rfl ⟨?_, trivial⟩
         first | (refine zho ?_) | refine zqb (hrn) ?_ | (refine zqf (hb) ?_; rintro v Hout n1 ⟨rfl, rfl, rfl⟩; refine ⟨sb, ?_⟩)
         refine w_v kr ?_
         rotate_left
         all_goals ((repeat' (first | refine stx ?_ | refine zqc (hb1 cx) ?_ | refine zqc (hb2 (n * n)) ?_ | (refine stq ?_ ?_ <;> (intro hc; ((try simp at hc) <;> try contradiction))) | fail)) <;> try (exfalso; omega))
         all_goals exact ⟨[], (steps + 1, k, z, cx), ⟨by dsimp only; omega, h3', h2, hcx, h1⟩, w_4, ⟨w_1, w_2, rfl⟩⟩
  ·rw [redG_end hkn] at hrg
   rw [← hrg]
   have hkn3 : n ≤ k := by omega
   ((repeat' (first | refine stx ?_ | (refine stq ?_ ?_ <;> (intro hc; ((try simp at hc) <;> try contradiction))) | fail)) <;> try (exfalso; omega))
   refine awp_held TM [(6, _), (8, _)] sb rfl (fun ρs => ?_)
   refine zt0 ?_
   refine zt1 ?_
   refine w_u [2] kr rfl ⟨?_, trivial⟩
   first | (refine zho ?_)
   refine w_u [3] kr rfl ⟨?_, trivial⟩
   first | (refine zho ?_)
   refine zt4 ?_
   refine w_v kr ?_
   rotate_left
   all_goals ((repeat' (first | refine stx ?_ | (refine stq ?_ ?_ <;> (intro hc; ((try simp at hc) <;> try contradiction))) | fail)) <;> try (exfalso; omega))
   all_goals exact fin rfl w_3 [(2, 5), (3, 7)] (.tup [.agg [.int n, .int n, .sl 2 1 0 (n * n) cx], .agg [.int n, .int n, .sl 3 1 0 (n * n) (n * n)], .one (.bool true)]) [(2, .own 3 cx (.ints s.1)), (3, .own 3 (n * n) (.ints s.2.1))] 4 ⟨cx, n * n, by omega, by omega, by rw [k1, k2], rfl, rfl⟩ rfl ⟨trivial, ⟨rfl, rfl, trivial⟩, rfl⟩ rfl
end Go.Proofs.YtekpamojojfplaaGreat
