/-
  CONTRACTS: the drawing of polygons.
-/
import Derived.Test.YtbgeooalhoaemaabUniM
import Derived.Test.YtbgeooalhoaemaabDrawM
import Derived.Test.YtbgeooalhoaemaabPoly
import Derived.Test.YtbgeooalhoaemaaAm11
import Derived.Test.YtbgeooalhoaemaaAm12
set_option linter.unusedVariables false
set_option linter.unusedSimpArgs false
namespace Go.Proofs.Ytbgeooalhoaemaa
open Go.RowKit

abbrev pg1 : List (Int × Int) := [(0, 0), (1, 0), (0, 1)]
abbrev pg2 : List (Int × Int) := [(0, 0), (2, 0), (2, 2), (0, 2)]
abbrev pg3 : List (Int × Int) := [(-1, -1), (2, 0), (1, 3), (-2, 2)]
abbrev pg4 : List (Int × Int) := [(0, 0), (3, 1), (2, 4)]
abbrev pg5 : List (Int × Int) := [(-2, 0), (0, -2), (2, 0), (0, 2)]
theorem pts_bd {ps : List (Int × Int)} (h : ps.all (fun q => decide ((-4 ≤ q.1 ∧ q.1 ≤ 4) ∧ -4 ≤ q.2 ∧ q.2 ≤ 4)) = true) (p : Nat) : (-4 ≤ (ps.getD p (0, 0)).1 ∧ (ps.getD p (0, 0)).1 ≤ 4) ∧ -4 ≤ (ps.getD p (0, 0)).2 ∧ (ps.getD p (0, 0)).2 ≤ 4 := by
  rw [List.getD_eq_getElem?_getD]
  cases he : ps[p]? with
  | none => simp
  | some q =>
    have := List.all_eq_true.1 h q (List.mem_of_getElem? he)
    simpa using this
/-- a drawn polygon: some points -/
def DrewP (t tc : TypeId) (nb c : Nat) (v : AV) (Hout : List (Nat × Blk)) (n1 : Nat) : Prop :=
  ∃ (ps : List (Int × Int)) (cap i : Nat) (h : Int), ps.length ≤ 100 ∧ ps.length ≤ cap ∧ v = vQ 3 ps.length cap ∧ Hout = [(2, .own tc 1 (.lit (curL c nb i h))), (3, .own t cap (.i2 ps))] ∧ n1 = 4
set_option maxRecDepth 100000 in
set_option maxHeartbeats 8000000 in
theorem d_l29P (bs : List Int) (c i : Nat) (h : Int) (hl : bs.length ≤ 1048576) : Does Try.prog 83 [vC] [(1, .ro (.bytes bs)), (2, .own 98 1 (.lit (curL c bs.length i h)))] 3 (DrewP 68 98 bs.length c) := by
  refine Does.intro TT Try.func83 rfl (by kernel_rfl) rfl rfl fun E hE => ?_
  ((repeat' (first | (refine awpL_step TT rfl rfl rfl sd ?_) | (refine awpL_nil ?_) | (refine awpL_skip rfl rfl ?_) | (refine awpQ_step TT rfl rfl rfl rfl sd ?_) | (refine awpQ_nil ?_) | (refine awpQ_skip rfl rfl ?_) | (refine awp_seq ?_) | (refine awp_region ?_) | (refine awp_block ?_) | (refine awp_exit ?_) | (refine awp_skip ?_) | (refine awp_ret ?_) | (refine awp_cond_t rfl ?_) | (refine awp_cond_f rfl ?_) | ((first | refine awpL_split rfl rfl rfl (fun hc => ?_) (fun hc => ?_) | refine awpQ_split rfl rfl rfl (fun hc => ?_) (fun hc => ?_) | refine awp_cond rfl (fun hc => ?_) (fun hc => ?_)) <;> ((try simp at hc) <;> try contradiction)))) <;> try (exfalso; omega))
  ((first | refine awpL_ghost (Ghost.newTok 68 true) ?_ | refine awp_ghost (Ghost.newTok 68 true) ?_ | refine awpH_ghost (Ghost.newTok 68 true) ?_ | refine awpHop_ghost (Ghost.newTok 68 true) ?_); rintro _ _ ⟨rfl, rfl⟩)
  ((first | refine awpL_ghost (Ghost.freezeP 3 8 rfl rfl) ?_ | refine awp_ghost (Ghost.freezeP 3 8 rfl rfl) ?_ | refine awpH_ghost (Ghost.freezeP 3 8 rfl rfl) ?_ | refine awpHop_ghost (Ghost.freezeP 3 8 rfl rfl) ?_); rintro _ _ ⟨a1, rfl, rfl⟩)
  ((first | refine awpL_ghost (Ghost.freezeP 4 8 rfl rfl) ?_ | refine awp_ghost (Ghost.freezeP 4 8 rfl rfl) ?_ | refine awpH_ghost (Ghost.freezeP 4 8 rfl rfl) ?_ | refine awpHop_ghost (Ghost.freezeP 4 8 rfl rfl) ?_); rintro _ _ ⟨a2, rfl, rfl⟩)
  ((first | refine awpL_ghost (Ghost.freezeP 5 8 rfl rfl) ?_ | refine awp_ghost (Ghost.freezeP 5 8 rfl rfl) ?_ | refine awpH_ghost (Ghost.freezeP 5 8 rfl rfl) ?_ | refine awpHop_ghost (Ghost.freezeP 5 8 rfl rfl) ?_); rintro _ _ ⟨a3, rfl, rfl⟩)
  ((first | refine awpL_ghost (Ghost.freezeP 6 8 rfl rfl) ?_ | refine awp_ghost (Ghost.freezeP 6 8 rfl rfl) ?_ | refine awpH_ghost (Ghost.freezeP 6 8 rfl rfl) ?_ | refine awpHop_ghost (Ghost.freezeP 6 8 rfl rfl) ?_); rintro _ _ ⟨a4, rfl, rfl⟩)
  ((first | refine awpL_ghost (Ghost.freezeP 7 8 rfl rfl) ?_ | refine awp_ghost (Ghost.freezeP 7 8 rfl rfl) ?_ | refine awpH_ghost (Ghost.freezeP 7 8 rfl rfl) ?_ | refine awpHop_ghost (Ghost.freezeP 7 8 rfl rfl) ?_); rintro _ _ ⟨a5, rfl, rfl⟩)
  ((repeat' (first | (refine awpL_step TT rfl rfl rfl sd ?_) | (refine awpL_nil ?_) | (refine awpL_skip rfl rfl ?_) | (refine awpQ_step TT rfl rfl rfl rfl sd ?_) | (refine awpQ_nil ?_) | (refine awpQ_skip rfl rfl ?_) | (refine awp_seq ?_) | (refine awp_region ?_) | ((refine awpL_call (d_l1Below bs c _ _ 5 hl) rfl rfl rfl rfl rfl rfl rfl ft rfl ?_); rintro v Hout n1 ⟨r, i1, h1, ⟨hr1, hr2⟩, rfl, rfl, rfl⟩; replace hr2 := hr2 (by omega)) | ((refine awpL_call (d_uni bs c _ 2 _ hl (by omega)) rfl rfl rfl rfl rfl rfl rfl ft rfl ?_); rintro v Hout n1 ⟨us, i2, h2, hu, hbu, rfl, rfl, rfl⟩) | (refine awp_block ?_) | (refine awp_exit ?_) | (refine awp_skip ?_) | (refine awp_ret ?_) | (refine awp_cond_t rfl ?_) | (refine awp_cond_f rfl ?_) | ((first | refine awpL_split rfl rfl rfl (fun hc => ?_) (fun hc => ?_) | refine awpQ_split rfl rfl rfl (fun hc => ?_) (fun hc => ?_) | refine awp_cond rfl (fun hc => ?_) (fun hc => ?_)) <;> ((try simp at hc) <;> try contradiction)))) <;> try (exfalso; omega))
  obtain ⟨R, hR, hR1, hR2⟩ : ∃ R : Row, [(⟨a1, 3, [], pg1⟩ : Row), ⟨a2, 4, [], pg2⟩, ⟨a3, 4, [], pg3⟩, ⟨a4, 3, [], pg4⟩, ⟨a5, 4, [], pg5⟩].getD (0 + r.toNat) rowD = R ∧ (3 ≤ R.ps.length ∧ R.ps.length ≤ 4) ∧ (∀ p : Nat, (-4 ≤ (R.ps.getD p (0, 0)).1 ∧ (R.ps.getD p (0, 0)).1 ≤ 4) ∧ -4 ≤ (R.ps.getD p (0, 0)).2 ∧ (R.ps.getD p (0, 0)).2 ≤ 4) := by
    have : r = 0 ∨ r = 1 ∨ r = 2 ∨ r = 3 ∨ r = 4 := by omega
    rcases this with rfl | rfl | rfl | rfl | rfl
    · exact ⟨⟨a1, 3, [], pg1⟩, rfl, (by show 3 ≤ pg1.length ∧ pg1.length ≤ 4; decide), pts_bd (ps := pg1) (by decide)⟩
    · exact ⟨⟨a2, 4, [], pg2⟩, rfl, (by show 3 ≤ pg2.length ∧ pg2.length ≤ 4; decide), pts_bd (ps := pg2) (by decide)⟩
    · exact ⟨⟨a3, 4, [], pg3⟩, rfl, (by show 3 ≤ pg3.length ∧ pg3.length ≤ 4; decide), pts_bd (ps := pg3) (by decide)⟩
    · exact ⟨⟨a4, 3, [], pg4⟩, rfl, (by show 3 ≤ pg4.length ∧ pg4.length ≤ 4; decide), pts_bd (ps := pg4) (by decide)⟩
    · exact ⟨⟨a5, 4, [], pg5⟩, rfl, (by show 3 ≤ pg5.length ∧ pg5.length ≤ 4; decide), pts_bd (ps := pg5) (by decide)⟩
  rw [hR]
  clear hR
  have hu' : us.length = 4 := hu
  have v0 := hbu (0 + (0 : Int).toNat)
  have v1 := hbu (0 + (1 : Int).toNat)
  have v2 := hbu (0 + (2 : Int).toNat)
  have v3 := hbu (0 + (3 : Int).toNat)
  refine awp_loop hE (fun x : List (Int × Int) × Nat => x.1.length ≤ R.ps.length ∧ x.1.length ≤ x.2) (fun x => R.ps.length - x.1.length)
    (fun x => [(0, vC), (3, vQ 5 R.ps.length R.cap), (4, .one (.ptr 4 3 0 0)), (5, vQ 6 x.1.length x.2), (6, vI x.1.length)])
    (fun x => [(1, .ro (.bytes bs)), (2, .own 98 1 (.lit (curL c bs.length i2 h2))), (3, .own 3 (2 * 2) (.ints us)), (4, .own 27 1 (.lit [.int 2, .int 2, .sl 3 1 0 (2 * 2) (2 * 2)])), (5, .al R.a (.i2 R.ps)), (6, .own 68 x.2 (.i2 x.1))]) 7 [(3, 11), (4, 12), (5, 10), (6, 13)] ([], 0) ⟨Nat.zero_le _, Nat.le_refl _⟩ ⟨(by repeat' (first | exact trivial | refine ⟨rfl, ?_⟩ | refine ⟨congrArg some (congrArg vI (by first | omega | (simp; done) | (simp; omega))), ?_⟩ | refine ⟨sl_eqA (by first | omega | (simp; done) | (simp; omega)), ?_⟩)), (by repeat' (first | exact trivial | refine ⟨rfl, ?_⟩)), rfl⟩ ?_
  rintro ⟨L, cap0⟩ ⟨hL, hc0⟩
  dsimp only at hL hc0 ⊢
  by_cases hgo : L.length < R.ps.length
  · have hkn : ¬ (R.ps.length ≤ L.length) := by omega
    have w := hR2 (0 + (L.length : Int).toNat)
    have p1 := prodAB (a := us.getD (0 + (0 : Int).toNat) 0) (b := (R.ps.getD (0 + (L.length : Int).toNat) (0, 0)).1) 243 4 v0.1 v0.2 w.1.1 w.1.2
    have p2 := prodAB (a := us.getD (0 + (1 : Int).toNat) 0) (b := (R.ps.getD (0 + (L.length : Int).toNat) (0, 0)).2) 243 4 v1.1 v1.2 w.2.1 w.2.2
    have p3 := prodAB (a := us.getD (0 + (2 : Int).toNat) 0) (b := (R.ps.getD (0 + (L.length : Int).toNat) (0, 0)).1) 243 4 v2.1 v2.2 w.1.1 w.1.2
    have p4 := prodAB (a := us.getD (0 + (3 : Int).toNat) 0) (b := (R.ps.getD (0 + (L.length : Int).toNat) (0, 0)).2) 243 4 v3.1 v3.2 w.2.1 w.2.2
    ((repeat' (first | (refine awpL_step TT rfl rfl rfl sd ?_) | (refine awpL_nil ?_) | (refine awpL_skip rfl rfl ?_) | (refine awpQ_step TT rfl rfl rfl rfl sd ?_) | (refine awpQ_nil ?_) | (refine awpQ_skip rfl rfl ?_) | (refine awp_seq ?_) | (refine awp_region ?_) | (first | (refine awpL_append TT rfl rfl rfl rfl rfl sd ?_; intro cap hcap) | (refine awpHop_append TT _ rfl rfl rfl rfl rfl rfl sd sb rfl rfl ?_; intro cap hcap)) | (refine awp_block ?_) | (refine awp_exit ?_) | (refine awp_skip ?_) | (refine awp_ret ?_) | (refine awp_cond_t rfl ?_) | (refine awp_cond_f rfl ?_) | (refine awp_quiet TM rfl (by kernel_rfl) ?_) | ((first | refine awpL_split rfl rfl rfl (fun hc => ?_) (fun hc => ?_) | refine awpQ_split rfl rfl rfl (fun hc => ?_) (fun hc => ?_) | refine awp_cond rfl (fun hc => ?_) (fun hc => ?_)) <;> ((try simp at hc) <;> try contradiction)))) <;> try (exfalso; omega))
    all_goals exact ⟨[(6, 8)], (L ++ [(us.getD (0 + (0 : Int).toNat) 0 * (R.ps.getD (0 + (L.length : Int).toNat) (0, 0)).1 + us.getD (0 + (1 : Int).toNat) 0 * (R.ps.getD (0 + (L.length : Int).toNat) (0, 0)).2, us.getD (0 + (2 : Int).toNat) 0 * (R.ps.getD (0 + (L.length : Int).toNat) (0, 0)).1 + us.getD (0 + (3 : Int).toNat) 0 * (R.ps.getD (0 + (L.length : Int).toNat) (0, 0)).2)], cap), ⟨by simp; omega, by simpa using hcap⟩, by (simp; omega), ⟨⟨rfl, rfl, rfl, sl_eqA (by simp), congrArg some (congrArg vI (by simp)), trivial⟩, ⟨rfl, rfl, rfl, rfl, rfl, rfl, trivial⟩, rfl⟩⟩
  · have hLe : L.length = R.ps.length := by omega
    have q1 := prodAB (a := us.getD (0 + (0 : Int).toNat) 0) (b := us.getD (0 + (3 : Int).toNat) 0) 243 243 v0.1 v0.2 v3.1 v3.2
    have q2 := prodAB (a := us.getD (0 + (1 : Int).toNat) 0) (b := us.getD (0 + (2 : Int).toNat) 0) 243 243 v1.1 v1.2 v2.1 v2.2
    rw [← hLe]
    ((repeat' (first | (refine awp_cut 10 hE (fun x : List (Int × Int) × Nat => 3 ≤ x.1.length ∧ x.1.length ≤ 4 ∧ x.1.length ≤ x.2) (fun x => [(0, vC), (5, vQ 3 x.1.length x.2)]) (fun x => [(1, .ro (.bytes bs)), (2, .own 98 1 (.lit (curL c bs.length i2 h2))), (3, .own 68 x.2 (.i2 x.1))]) 4 ?_ ?_) | (refine awpL_step TT rfl rfl rfl sd ?_) | (refine awpL_nil ?_) | (refine awpL_skip rfl rfl ?_) | (refine awpQ_step TT rfl rfl rfl rfl sd ?_) | (refine awpQ_nil ?_) | (refine awpQ_skip rfl rfl ?_) | (refine awp_seq ?_) | (refine awp_region ?_) | (refine awp_block ?_) | (refine awp_exit ?_) | (refine awp_skip ?_) | (refine awp_ret ?_) | (refine awp_cond_t rfl ?_) | (refine awp_cond_f rfl ?_) | (refine awp_quiet TM rfl (by kernel_rfl) ?_) | ((first | refine awpL_split rfl rfl rfl (fun hc => ?_) (fun hc => ?_) | refine awpQ_split rfl rfl rfl (fun hc => ?_) (fun hc => ?_) | refine awp_cond rfl (fun hc => ?_) (fun hc => ?_)) <;> ((try simp at hc) <;> try contradiction)))) <;> try (exfalso; omega))
    · refine awp_loop hE (fun x : List (Int × Int) × Nat => x.1.length ≤ L.length ∧ x.1.length ≤ x.2) (fun x => L.length - x.1.length)
        (fun x => [(0, vC), (5, vQ 3 L.length cap0), (9, vQ 4 x.1.length x.2), (10, vI ((L.length : Int) - 1 - x.1.length))])
        (fun x => [(1, .ro (.bytes bs)), (2, .own 98 1 (.lit (curL c bs.length i2 h2))), (3, .own 68 cap0 (.i2 L)), (4, .own 68 x.2 (.i2 x.1))]) 5 [(3, 6), (4, 7)] ([], 0) ⟨Nat.zero_le _, Nat.le_refl _⟩ ⟨(by repeat' (first | exact trivial | refine ⟨rfl, ?_⟩ | refine ⟨congrArg some (congrArg vI (by first | omega | (simp; done) | (simp; omega))), ?_⟩ | refine ⟨sl_eqA (by first | omega | (simp; done) | (simp; omega)), ?_⟩)), (by repeat' (first | exact trivial | refine ⟨rfl, ?_⟩)), rfl⟩ ?_
      rintro ⟨B, capB⟩ ⟨hB, hcB⟩
      dsimp only at hB hcB ⊢
      by_cases hgo2 : B.length < L.length
      · have hkn : ¬ ((L.length : Int) - 1 - B.length < 0) := by omega
        ((repeat' (first | (refine awpL_step TT rfl rfl rfl sd ?_) | (refine awpL_nil ?_) | (refine awpL_skip rfl rfl ?_) | (refine awpQ_step TT rfl rfl rfl rfl sd ?_) | (refine awpQ_nil ?_) | (refine awpQ_skip rfl rfl ?_) | (refine awp_seq ?_) | (refine awp_region ?_) | (first | (refine awpL_append TT rfl rfl rfl rfl rfl sd ?_; intro cap hcap) | (refine awpHop_append TT _ rfl rfl rfl rfl rfl rfl sd sb rfl rfl ?_; intro cap hcap)) | (refine awp_block ?_) | (refine awp_exit ?_) | (refine awp_skip ?_) | (refine awp_ret ?_) | (refine awp_cond_t rfl ?_) | (refine awp_cond_f rfl ?_) | (refine awp_quiet TM rfl (by kernel_rfl) ?_) | ((first | refine awpL_split rfl rfl rfl (fun hc => ?_) (fun hc => ?_) | refine awpQ_split rfl rfl rfl (fun hc => ?_) (fun hc => ?_) | refine awp_cond rfl (fun hc => ?_) (fun hc => ?_)) <;> ((try simp at hc) <;> try contradiction)))) <;> try (exfalso; omega))
        all_goals exact ⟨[(4, 6)], (B ++ [L.getD (0 + ((L.length : Int) - 1 - B.length).toNat) (0, 0)], cap), ⟨by simp; omega, by simpa using hcap⟩, by (simp; omega), ⟨⟨rfl, rfl, sl_eqA (by simp), congrArg some (congrArg vI (by simp; omega)), trivial⟩, ⟨rfl, rfl, rfl, rfl, trivial⟩, rfl⟩⟩
      · have hBe : B.length = L.length := by omega
        ((repeat' (first | (refine awpL_step TT rfl rfl rfl sd ?_) | (refine awpL_nil ?_) | (refine awpL_skip rfl rfl ?_) | (refine awpQ_step TT rfl rfl rfl rfl sd ?_) | (refine awpQ_nil ?_) | (refine awpQ_skip rfl rfl ?_) | (refine awp_seq ?_) | (refine awp_region ?_) | (refine awp_block ?_) | (refine awp_exit ?_) | (refine awp_skip ?_) | (refine awp_ret ?_) | (refine awp_cond_t rfl ?_) | (refine awp_cond_f rfl ?_) | (refine awp_quiet TM rfl (by kernel_rfl) ?_) | ((first | refine awpL_split rfl rfl rfl (fun hc => ?_) (fun hc => ?_) | refine awpQ_split rfl rfl rfl (fun hc => ?_) (fun hc => ?_) | refine awp_cond rfl (fun hc => ?_) (fun hc => ?_)) <;> ((try simp at hc) <;> try contradiction)))) <;> try (exfalso; omega))
        all_goals exact ⟨[(3, 4)], (B, capB), ⟨by dsimp only; omega, by dsimp only; omega, hcB⟩, ⟨(by repeat' (first | exact trivial | refine ⟨rfl, ?_⟩ | refine ⟨congrArg some (congrArg vI (by first | omega | (simp; done) | (simp; omega))), ?_⟩ | refine ⟨sl_eqA (by first | omega | (simp; done) | (simp; omega)), ?_⟩)), (by repeat' (first | exact trivial | refine ⟨rfl, ?_⟩)), rfl⟩⟩
    · exact ⟨[(3, 6)], (L, cap0), ⟨by dsimp only; omega, by dsimp only; omega, hc0⟩, ⟨(by repeat' (first | exact trivial | refine ⟨rfl, ?_⟩ | refine ⟨congrArg some (congrArg vI (by first | omega | (simp; done) | (simp; omega))), ?_⟩ | refine ⟨sl_eqA (by first | omega | (simp; done) | (simp; omega)), ?_⟩)), (by repeat' (first | exact trivial | refine ⟨rfl, ?_⟩)), rfl⟩⟩
    rintro ⟨B, capB⟩ ⟨hB3, hB4, hcB⟩
    dsimp only at hB3 hB4 hcB ⊢
    ((repeat' (first | (refine awpL_step TT rfl rfl rfl sd ?_) | (refine awpL_nil ?_) | (refine awpL_skip rfl rfl ?_) | (refine awpQ_step TT rfl rfl rfl rfl sd ?_) | (refine awpQ_nil ?_) | (refine awpQ_skip rfl rfl ?_) | (refine awp_seq ?_) | (refine awp_region ?_) | ((refine awpL_call (d_l1Once bs c _ _ 16 hl) rfl rfl rfl rfl rfl rfl rfl ft rfl ?_); rintro v Hout n1 ⟨b, i3, h3, rfl, rfl, rfl⟩; cases b) | (refine awp_block ?_) | (refine awp_exit ?_) | (refine awp_skip ?_) | (refine awp_ret ?_) | (refine awp_cond_t rfl ?_) | (refine awp_cond_f rfl ?_) | ((first | refine awpL_split rfl rfl rfl (fun hc => ?_) (fun hc => ?_) | refine awpQ_split rfl rfl rfl (fun hc => ?_) (fun hc => ?_) | refine awp_cond rfl (fun hc => ?_) (fun hc => ?_)) <;> ((try simp at hc) <;> try contradiction)))) <;> try (exfalso; omega))
    · exact fin rfl (by repeat' (first | exact trivial | exact Nat.zero_lt_one | omega | refine ⟨?_, ?_⟩)) [] (vQ 3 B.length capB) [(2, .own 98 1 (.lit (curL c bs.length i3 h3))), (3, .own 68 capB (.i2 B))] 4 ⟨B, capB, i3, h3, by omega, hcB, rfl, rfl, rfl⟩ rfl ⟨trivial, ⟨rfl, rfl, trivial⟩, rfl⟩ rfl
    · refine awp_held TM [] sb rfl (fun ρs => ?_)
      refine awpH_take TT 0 rfl kr kr kr nh rfl rfl rfl rfl sd ?_
      refine awpH_take TT 1 rfl kr kr kr nh rfl rfl rfl rfl sd ?_
      first | (refine awpH_take TT 2 rfl kr kr kr nh rfl rfl rfl rfl sd ?_) | (refine awpH_idx TT 2 rfl kr kr kr nh rfl rfl rfl rfl rfl sd ?_)
      refine awpH_take TT 5 rfl kr kr kr nh rfl rfl rfl rfl sd ?_
      refine awpH_all [3, 6] kr rfl ⟨?_, ?_, trivial⟩
      first | (refine awpHop_step TT 3 rfl rfl rfl rfl sd sb rfl ?_) | (refine awpHop_call _ (d_l1Num bs c _ _ 3 (by omega) hl) rfl rfl rfl rfl rfl rfl rfl rfl ft rfl rfl ?_; rintro v Hout n1 ⟨z, i4, h4, hz, rfl, rfl, rfl⟩; refine ⟨sb, ?_⟩)
      refine awpH_all [4, 6] kr rfl ⟨?_, ?_, trivial⟩
      first | (refine awpHop_step TT 4 rfl rfl rfl rfl sd sb rfl ?_) | (refine awpHop_call _ (d_l1Num bs c _ _ 3 (by omega) hl) rfl rfl rfl rfl rfl rfl rfl rfl ft rfl rfl ?_; rintro v Hout n1 ⟨z, i4, h4, hz, rfl, rfl, rfl⟩; refine ⟨sb, ?_⟩)
      refine awpH_all [6] kr rfl ⟨?_, trivial⟩
      first | (refine awpHop_step TT 6 rfl rfl rfl rfl sd sb rfl ?_) | (refine awpHop_call _ (d_l1Num bs c _ _ 3 (by omega) hl) rfl rfl rfl rfl rfl rfl rfl rfl ft rfl rfl ?_; rintro v Hout n1 ⟨z, i4, h4, hz, rfl, rfl, rfl⟩; refine ⟨sb, ?_⟩)
      refine awpH_wrap 7 rfl kr kr kr nh rfl rfl rfl rfl ?_
      first | (refine awpH_take TT 8 rfl kr kr kr nh rfl rfl rfl rfl sd ?_) | (refine awpH_idx TT 8 rfl kr kr kr nh rfl rfl rfl rfl rfl sd ?_)
      refine awpH_all [9] kr rfl ⟨?_, trivial⟩
      first | (refine awpHop_step TT 9 rfl rfl rfl rfl sd sb rfl ?_) | (refine awpHop_call _ (d_l1Num bs c _ _ 3 (by omega) hl) rfl rfl rfl rfl rfl rfl rfl rfl ft rfl rfl ?_; rintro v Hout n1 ⟨z, i4, h4, hz, rfl, rfl, rfl⟩; refine ⟨sb, ?_⟩)
      refine awpH_all [10] kr rfl ⟨?_, trivial⟩
      first | (refine awpHop_step TT 10 rfl rfl rfl rfl sd sb rfl ?_) | (refine awpHop_call _ (d_l1Num bs c _ _ 3 (by omega) hl) rfl rfl rfl rfl rfl rfl rfl rfl ft rfl rfl ?_; rintro v Hout n1 ⟨z, i4, h4, hz, rfl, rfl, rfl⟩; refine ⟨sb, ?_⟩)
      refine awpH_done kr ?_
      rotate_left
      first | (refine awpHop_step TT 6 rfl rfl rfl rfl sd sb rfl ?_) | (refine awpHop_call _ (d_l1Num bs c _ _ 3 (by omega) hl) rfl rfl rfl rfl rfl rfl rfl rfl ft rfl rfl ?_; rintro v Hout n1 ⟨z, i4, h4, hz, rfl, rfl, rfl⟩; refine ⟨sb, ?_⟩)
      refine awpH_all [4] kr rfl ⟨?_, trivial⟩
      first | (refine awpHop_step TT 4 rfl rfl rfl rfl sd sb rfl ?_) | (refine awpHop_call _ (d_l1Num bs c _ _ 3 (by omega) hl) rfl rfl rfl rfl rfl rfl rfl rfl ft rfl rfl ?_; rintro v Hout n1 ⟨z, i4, h4, hz, rfl, rfl, rfl⟩; refine ⟨sb, ?_⟩)
      refine awpH_wrap 7 rfl kr kr kr nh rfl rfl rfl rfl ?_
      first | (refine awpH_take TT 8 rfl kr kr kr nh rfl rfl rfl rfl sd ?_) | (refine awpH_idx TT 8 rfl kr kr kr nh rfl rfl rfl rfl rfl sd ?_)
      refine awpH_all [9] kr rfl ⟨?_, trivial⟩
      first | (refine awpHop_step TT 9 rfl rfl rfl rfl sd sb rfl ?_) | (refine awpHop_call _ (d_l1Num bs c _ _ 3 (by omega) hl) rfl rfl rfl rfl rfl rfl rfl rfl ft rfl rfl ?_; rintro v Hout n1 ⟨z, i4, h4, hz, rfl, rfl, rfl⟩; refine ⟨sb, ?_⟩)
      refine awpH_all [10] kr rfl ⟨?_, trivial⟩
      first | (refine awpHop_step TT 10 rfl rfl rfl rfl sd sb rfl ?_) | (refine awpHop_call _ (d_l1Num bs c _ _ 3 (by omega) hl) rfl rfl rfl rfl rfl rfl rfl rfl ft rfl rfl ?_; rintro v Hout n1 ⟨z, i4, h4, hz, rfl, rfl, rfl⟩; refine ⟨sb, ?_⟩)
      refine awpH_done kr ?_
      rotate_left
      first | (refine awpHop_step TT 6 rfl rfl rfl rfl sd sb rfl ?_) | (refine awpHop_call _ (d_l1Num bs c _ _ 3 (by omega) hl) rfl rfl rfl rfl rfl rfl rfl rfl ft rfl rfl ?_; rintro v Hout n1 ⟨z, i4, h4, hz, rfl, rfl, rfl⟩; refine ⟨sb, ?_⟩)
      refine awpH_all [3] kr rfl ⟨?_, trivial⟩
      first | (refine awpHop_step TT 3 rfl rfl rfl rfl sd sb rfl ?_) | (refine awpHop_call _ (d_l1Num bs c _ _ 3 (by omega) hl) rfl rfl rfl rfl rfl rfl rfl rfl ft rfl rfl ?_; rintro v Hout n1 ⟨z, i4, h4, hz, rfl, rfl, rfl⟩; refine ⟨sb, ?_⟩)
      refine awpH_all [4] kr rfl ⟨?_, trivial⟩
      first | (refine awpHop_step TT 4 rfl rfl rfl rfl sd sb rfl ?_) | (refine awpHop_call _ (d_l1Num bs c _ _ 3 (by omega) hl) rfl rfl rfl rfl rfl rfl rfl rfl ft rfl rfl ?_; rintro v Hout n1 ⟨z, i4, h4, hz, rfl, rfl, rfl⟩; refine ⟨sb, ?_⟩)
      refine awpH_wrap 7 rfl kr kr kr nh rfl rfl rfl rfl ?_
      first | (refine awpH_take TT 8 rfl kr kr kr nh rfl rfl rfl rfl sd ?_) | (refine awpH_idx TT 8 rfl kr kr kr nh rfl rfl rfl rfl rfl sd ?_)
      refine awpH_all [9] kr rfl ⟨?_, trivial⟩
      first | (refine awpHop_step TT 9 rfl rfl rfl rfl sd sb rfl ?_) | (refine awpHop_call _ (d_l1Num bs c _ _ 3 (by omega) hl) rfl rfl rfl rfl rfl rfl rfl rfl ft rfl rfl ?_; rintro v Hout n1 ⟨z, i4, h4, hz, rfl, rfl, rfl⟩; refine ⟨sb, ?_⟩)
      refine awpH_all [10] kr rfl ⟨?_, trivial⟩
      first | (refine awpHop_step TT 10 rfl rfl rfl rfl sd sb rfl ?_) | (refine awpHop_call _ (d_l1Num bs c _ _ 3 (by omega) hl) rfl rfl rfl rfl rfl rfl rfl rfl ft rfl rfl ?_; rintro v Hout n1 ⟨z, i4, h4, hz, rfl, rfl, rfl⟩; refine ⟨sb, ?_⟩)
      refine awpH_done kr ?_
      rotate_left
      all_goals ((repeat' (first | (refine awpL_step TT rfl rfl rfl sd ?_) | (refine awpL_nil ?_) | (refine awpL_skip rfl rfl ?_) | (refine awpQ_step TT rfl rfl rfl rfl sd ?_) | (refine awpQ_nil ?_) | (refine awpQ_skip rfl rfl ?_) | (refine awp_seq ?_) | (refine awp_region ?_) | (refine awp_block ?_) | (refine awp_exit ?_) | (refine awp_skip ?_) | (refine awp_ret ?_) | (refine awp_cond_t rfl ?_) | (refine awp_cond_f rfl ?_) | ((first | refine awpL_split rfl rfl rfl (fun hc => ?_) (fun hc => ?_) | refine awpQ_split rfl rfl rfl (fun hc => ?_) (fun hc => ?_) | refine awp_cond rfl (fun hc => ?_) (fun hc => ?_)) <;> ((try simp at hc) <;> try contradiction)))) <;> try (exfalso; omega))
      all_goals exact fin rfl (by repeat' (first | exact trivial | exact Nat.zero_lt_one | omega | refine ⟨?_, ?_⟩)) [] (vQ 3 B.length capB) [(2, .own 98 1 (.lit (curL c bs.length i4 h4))), (3, .own 68 capB (.i2 (B.set (0 + (0 : Int).toNat) (wrapV ((B.getD (0 + (0 : Int).toNat) (0, 0)).1 + z), (B.getD (0 + (0 : Int).toNat) (0, 0)).2))))] 4 ⟨_, capB, i4, h4, (by rw [List.length_set]; omega), (by rw [List.length_set]; exact hcB), (by rw [List.length_set]), rfl, rfl⟩ rfl ⟨trivial, ⟨rfl, rfl, trivial⟩, rfl⟩ rfl
def DrewDC (t : TypeId) (v : AV) (Hout : List (Nat × Blk)) (n1 : Nat) : Prop := ∃ (ps : List (Int × Int)) (cap : Nat) (k : Int), ps.length ≤ 100 ∧ ps.length ≤ cap ∧ (-1 ≤ k ∧ k ≤ 5) ∧ v = .tup [.one (.sl 2 2 0 ps.length cap), .one (.int k)] ∧ Hout = [(2, .own t cap (.i2 ps))] ∧ n1 = 3
theorem d_drawDC (bs : List Int) (c : Nat) (hl : bs.length ≤ 1048576) : Does Try.prog 54 [vS 1 1 0 bs.length c] [(1, .ro (.bytes bs))] 2 (DrewDC 68) := by
  refine Does.intro TT Try.func54 rfl (by kernel_rfl) rfl rfl fun E hE => ?_
  ((repeat' (first | (refine awpL_step TT rfl rfl rfl sd ?_) | (refine awpL_nil ?_) | (refine awpL_skip rfl rfl ?_) | (refine awpQ_step TT rfl rfl rfl rfl sd ?_) | (refine awpQ_nil ?_) | (refine awpQ_skip rfl rfl ?_) | (refine awp_seq ?_) | (refine awp_region ?_) | ((refine awpL_call (d_l1New bs c hl) rfl rfl rfl rfl rfl rfl rfl ft rfl ?_); rintro v Hout n1 ⟨i', h', rfl, rfl, rfl⟩) | ((refine awpL_call (d_l29P bs c _ _ hl) rfl rfl rfl rfl rfl rfl rfl ft rfl ?_); rintro v Hout n1 ⟨ps, cap, i2, h2, hp1, hp2, rfl, rfl, rfl⟩) | ((refine awpL_call (d_l1Below bs c _ _ 7 hl) rfl rfl rfl rfl rfl rfl rfl ft rfl ?_); rintro v Hout n1 ⟨r, i1, h1, ⟨hr1, hr2⟩, rfl, rfl, rfl⟩; replace hr2 := hr2 (by omega)) | (refine awp_block ?_) | (refine awp_exit ?_) | (refine awp_skip ?_) | (refine awp_ret ?_) | (refine awp_cond_t rfl ?_) | (refine awp_cond_f rfl ?_) | (refine awp_quiet TM rfl (by kernel_rfl) ?_) | ((first | refine awpL_split rfl rfl rfl (fun hc => ?_) (fun hc => ?_) | refine awpQ_split rfl rfl rfl (fun hc => ?_) (fun hc => ?_) | refine awp_cond rfl (fun hc => ?_) (fun hc => ?_)) <;> ((try simp at hc) <;> try contradiction)))) <;> try (exfalso; omega))
  all_goals exact fin rfl (by repeat' (first | exact trivial | exact Nat.zero_lt_one | omega | refine ⟨?_, ?_⟩)) [(2, 3)] (.tup [.one (.sl 2 2 0 ps.length cap), .one (.int (r - 1))]) [(2, .own 68 cap (.i2 ps))] 3 ⟨ps, cap, r - 1, hp1, hp2, by omega, rfl, rfl, rfl⟩ rfl ⟨trivial, ⟨rfl, trivial⟩, rfl⟩ rfl
end Go.Proofs.Ytbgeooalhoaemaa
