/-
  TEXTS OF THE PROOF, put together: bShRel, bEqM, bShLaw, Law.
-/
import Derived.Test.YtekpamojojfplaaGreatB33
import Derived.Test.YtekpamojojfplaaGreatB37
import Derived.Test.YtekpamojojfplaaGreatB11
import Derived.Test.YtekpamojojfplaaGreatRows
import Derived.Test.YtekpamojojfplaaGreatB09
import Derived.ProofKit
import Derived.Lib.SmallJoins
import Derived.OpenShut
set_option linter.unusedVariables false
set_option linter.unusedSimpArgs false
namespace Go.Proofs.YtekpamojojfplaaGreat
open Go.RowKit
def LsN (t : TypeId) (o : Option (List Int)) (k : Nat) (v : AV) (Hout : List (Nat × Blk)) (n1 : Nat) : Prop := match o with
  | none => LsB t [] false k v Hout n1 ∨ (v = .tup [.one (.sl 0 1 0 0 0), .one (.bool false)] ∧ Hout = [] ∧ n1 = k)
  | some zs => LsB t zs true k v Hout n1
theorem srO_no {v : List Int} (h : relsO v = none) : srO v = none := by unfold srO; rw [h]
theorem srO_0 {v : List Int} {s : List Int × Nat} (h : relsO v = some s) (h0 : s.2 = 0) : srO v = none := by unfold srO; rw [h]; dsimp only; rw [if_pos h0]
theorem srO_g {v : List Int} {s : List Int × Nat} (h : relsO v = some s) (h0 : s.2 ≠ 0) (hg : gramZ s.2 v.length s.1 = none) : srO v = none := by unfold srO; rw [h]; dsimp only; rw [if_neg h0, hg]
theorem srO_s {v : List Int} {s : List Int × Nat} {G : List Int} (h : relsO v = some s) (h0 : s.2 ≠ 0) (hg : gramZ s.2 v.length s.1 = some G) : srO v = firstO s.2 v.length s.1 (shstO s.2 s.2 G) := by unfold srO; rw [h]; dsimp only; rw [if_neg h0, hg]
theorem gram_len {r c : Int} {xs g : List Int} (h : gramZ r c xs = some g) : g.length ≤ 576 := isM_le (gramZ_some h).2
theorem shst_len {r c : Int} {g : List Int} {S : List (List Int)} (h : shstO r c g = some S) {v : List Int} (hv : v ∈ S) : (v.length : Int) = r ∧ v.all numB = true ∧ r ≤ 6 := by
  unfold shstO at h
  split at h
  · cases h
  · exact sh_len h hv
set_option maxRecDepth 100000 in
set_option maxHeartbeats 8000000 in
theorem d_srI (xs : List Int) (ca : Nat) (hl : xs.length ≤ 1099511627776) : Does Tryz.prog 36 [vS 1 1 0 xs.length ca] [(1, .ro (.ints xs))] 2 (LsO 3 (srO xs) 2) := by
 have hr := d_relI xs ca hl
 refine Does.intro TT Tryz.func36 rfl (by kernel_rfl) Zz Zz fun E hE => ?_
 cases hR : relsO xs with
 | none =>
  rw [hR] at hr
  rw [srO_no hR]
  ((repeat' (first | refine stx ?_ | ((refine zqe (hr) ?_); rintro v Hout n1 ⟨rfl, rfl, rfl⟩) | (refine stq ?_ ?_ <;> (intro hc; ((try simp at hc) <;> try contradiction))) | fail)) <;> try (exfalso; omega))
  all_goals exact fin rfl w_3 [(2, 3)] (.tup [.one (.sl 2 1 0 0 0), .one (.bool false)]) [(2, .own 3 0 (.ints []))] 3 ⟨0, Nat.zero_le _, rfl, rfl, rfl⟩ rfl ⟨trivial, ⟨rfl, trivial⟩, rfl⟩ rfl
 | some s =>
  rw [hR] at hr
  have hsl := relsO_len hR
  have hgr := fun cc => d_grI s.2 xs.length s.1 cc (by omega)
  by_cases h0 : s.2 = 0
  ·rw [srO_0 hR h0]
   ((repeat' (first | refine stx ?_ | ((refine zqe (hr) ?_); rintro v Hout n1 ⟨cw, hcw, rfl, rfl, rfl⟩) | (refine stq ?_ ?_ <;> (intro hc; ((try simp at hc) <;> try contradiction))) | fail)) <;> try (exfalso; omega))
   all_goals exact fin rfl w_3 [(2, 4)] (.tup [.one (.sl 2 1 0 0 0), .one (.bool false)]) [(2, .own 3 0 (.ints []))] 3 ⟨0, Nat.zero_le _, rfl, rfl, rfl⟩ rfl ⟨trivial, ⟨rfl, trivial⟩, rfl⟩ rfl
  ·cases hG : gramZ s.2 xs.length s.1 with
   | none =>
    rw [hG] at hgr
    rw [srO_g hR h0 hG]
    ((repeat' (first | refine stx ?_ | ((refine zqe (hr) ?_); rintro v Hout n1 ⟨cw, hcw, rfl, rfl, rfl⟩) | ((refine zqe (hgr _) ?_); rintro v Hout n1 ⟨rfl, rfl, rfl⟩) | (refine stq ?_ ?_ <;> (intro hc; ((try simp at hc) <;> try contradiction))) | fail)) <;> try (exfalso; omega))
    all_goals exact fin rfl w_3 [(2, 5)] (.tup [.one (.sl 2 1 0 0 0), .one (.bool false)]) [(2, .own 3 0 (.ints []))] 3 ⟨0, Nat.zero_le _, rfl, rfl, rfl⟩ rfl ⟨trivial, ⟨rfl, trivial⟩, rfl⟩ rfl
   | some G =>
    rw [hG] at hgr
    rw [srO_s hR h0 hG]
    have hGl := gram_len hG
    have hsh := fun cg (h : G.length ≤ cg) => d_shstI s.2 s.2 G cg (by omega) h
    cases hS : shstO s.2 s.2 G with
    | none =>
     rw [hS] at hsh
     ((repeat' (first | refine stx ?_ | ((refine zqe (hr) ?_); rintro v Hout n1 ⟨cw, hcw, rfl, rfl, rfl⟩) | ((refine zqe (hgr _) ?_); rintro v Hout n1 ⟨cg, hcg, rfl, rfl, rfl⟩) | ((refine zqe (hsh _ hcg) ?_); rintro v Hout n1 ⟨rfl, rfl, rfl⟩) | (refine stq ?_ ?_ <;> (intro hc; ((try simp at hc) <;> try contradiction))) | fail)) <;> try (exfalso; omega))
     all_goals exact fin rfl w_3 [(2, 7)] (.tup [.one (.sl 2 1 0 0 0), .one (.bool false)]) [(2, .own 3 0 (.ints []))] 3 ⟨0, Nat.zero_le _, rfl, rfl, rfl⟩ rfl ⟨trivial, ⟨rfl, trivial⟩, rfl⟩ rfl
    | some S =>
     rw [hS] at hsh
     cases S with
     | nil =>
      ((repeat' (first | refine stx ?_ | ((refine zqe (hr) ?_); rintro v Hout n1 ⟨cw, hcw, rfl, rfl, rfl⟩) | ((refine zqe (hgr _) ?_); rintro v Hout n1 ⟨cg, hcg, rfl, rfl, rfl⟩) | ((refine zqe (hsh _ hcg) ?_); rintro v Hout n1 ⟨l, cap, hlx, rfl, rfl, rfl⟩; obtain rfl : l = [] := by simpa [rowsX] using hlx) | (refine stq ?_ ?_ <;> (intro hc; ((try simp at hc) <;> try contradiction))) | fail)) <;> try (exfalso; omega))
      all_goals exact fin rfl w_3 [(2, 8)] (.tup [.one (.sl 2 1 0 0 0), .one (.bool false)]) [(2, .own 3 0 (.ints []))] 3 ⟨0, Nat.zero_le _, rfl, rfl, rfl⟩ rfl ⟨trivial, ⟨rfl, trivial⟩, rfl⟩ rfl
     | cons u S' =>
      obtain ⟨hul, hun, hu6⟩ := shst_len hS (v := u) (by simp)
      have hul2 : u.length = s.2 := by omega
      have hrow := fun cv => d_row u cv (by omega)
      have hmu := fun c1 c2 => d_mulI 1 u.length s.2 xs.length u s.1 c1 c2 (by omega) (by omega)
      have eS : firstO s.2 xs.length s.1 (some (u :: S')) = mulZ 1 u.length s.2 xs.length u s.1 := by rw [hul2]; rfl
      rw [eS]
      cases hM : mulZ 1 u.length s.2 xs.length u s.1 with
      | none =>
       rw [hM] at hmu
       ((repeat' (first | refine stp ?_ | ((refine zqe (hr) ?_); rintro v Hout n1 ⟨cw, hcw, rfl, rfl, rfl⟩) | ((refine zqe (hgr _) ?_); rintro v Hout n1 ⟨cg, hcg, rfl, rfl, rfl⟩) | ((refine zqe (hsh _ hcg) ?_); rintro v Hout n1 ⟨l, cap, hlx, rfl, rfl, rfl⟩; obtain ⟨hl0, hl1, hl2⟩ := row0 hlx; have hl3 : l ≠ [] := fun h => by rw [h] at hl0; simp at hl0) | (refine stq ?_ ?_ <;> (intro hc; ((try simp at hc) <;> try contradiction))) | fail)) <;> try (exfalso; omega))
       have hrow2 := fun m cv (hm : m = (l.getD (0 + (0 : Int).toNat) rowD).xs.length) => (by subst hm; rw [hl1]; exact hrow cv : Does Tryz.prog 77 [vS 1 1 0 m cv] [(1, .ro (.ints (l.getD (0 + (0 : Int).toNat) rowD).xs))] 2 (RowM 1 u.length 3 u))
       refine awp_held TM [(3, _), (7, _)] sb rfl (fun ρs => ?_)
       refine zt0 ?_
       refine zt1 ?_
       refine zt4 ?_
       refine w_u [2, 9] kr rfl ⟨?_, ?_, trivial⟩
       first | (refine zho ?_) | (refine zqf (hrow2 _ _ rfl) ?_; rintro v Hout n1 ⟨c3, hc3, rfl, rfl, rfl⟩; refine ⟨sb, ?_⟩) | (refine zqf (hmu _ _) ?_; rintro v Hout n1 ⟨rfl, rfl, rfl⟩; refine ⟨sb, ?_⟩)
       refine w_u [3, 9] kr rfl ⟨?_, ?_, trivial⟩
       first | (refine zho ?_) | (refine zqf (hrow2 _ _ rfl) ?_; rintro v Hout n1 ⟨c3, hc3, rfl, rfl, rfl⟩; refine ⟨sb, ?_⟩) | (refine zqf (hmu _ _) ?_; rintro v Hout n1 ⟨rfl, rfl, rfl⟩; refine ⟨sb, ?_⟩)
       refine w_u [5, 9] kr rfl ⟨?_, ?_, trivial⟩
       first | (refine zho ?_) | (refine zqf (hrow2 _ _ rfl) ?_; rintro v Hout n1 ⟨c3, hc3, rfl, rfl, rfl⟩; refine ⟨sb, ?_⟩) | (refine zqf (hmu _ _) ?_; rintro v Hout n1 ⟨rfl, rfl, rfl⟩; refine ⟨sb, ?_⟩)
       refine zt6 ?_
       refine zt7 ?_
       refine zt8 ?_
       refine w_u [9] kr rfl ⟨?_, trivial⟩
       first | (refine zho ?_) | (refine zqf (hrow2 _ _ rfl) ?_; rintro v Hout n1 ⟨c3, hc3, rfl, rfl, rfl⟩; refine ⟨sb, ?_⟩) | (refine zqf (hmu _ _) ?_; rintro v Hout n1 ⟨rfl, rfl, rfl⟩; refine ⟨sb, ?_⟩)
       refine w_u [10] kr rfl ⟨?_, trivial⟩
       first | (refine zho ?_) | (refine zqf (hrow2 _ _ rfl) ?_; rintro v Hout n1 ⟨c3, hc3, rfl, rfl, rfl⟩; refine ⟨sb, ?_⟩) | (refine zqf (hmu _ _) ?_; rintro v Hout n1 ⟨rfl, rfl, rfl⟩; refine ⟨sb, ?_⟩)
       refine zt11 ?_
       refine w_v kr ?_
       rotate_left
       first | (refine zho ?_) | (refine zqf (hrow2 _ _ rfl) ?_; rintro v Hout n1 ⟨c3, hc3, rfl, rfl, rfl⟩; refine ⟨sb, ?_⟩) | (refine zqf (hmu _ _) ?_; rintro v Hout n1 ⟨rfl, rfl, rfl⟩; refine ⟨sb, ?_⟩)
       refine w_u [5] kr rfl ⟨?_, trivial⟩
       first | (refine zho ?_) | (refine zqf (hrow2 _ _ rfl) ?_; rintro v Hout n1 ⟨c3, hc3, rfl, rfl, rfl⟩; refine ⟨sb, ?_⟩) | (refine zqf (hmu _ _) ?_; rintro v Hout n1 ⟨rfl, rfl, rfl⟩; refine ⟨sb, ?_⟩)
       refine zt6 ?_
       refine zt7 ?_
       refine zt8 ?_
       refine w_u [10] kr rfl ⟨?_, trivial⟩
       first | (refine zho ?_) | (refine zqf (hrow2 _ _ rfl) ?_; rintro v Hout n1 ⟨c3, hc3, rfl, rfl, rfl⟩; refine ⟨sb, ?_⟩) | (refine zqf (hmu _ _) ?_; rintro v Hout n1 ⟨rfl, rfl, rfl⟩; refine ⟨sb, ?_⟩)
       refine zt11 ?_
       refine w_v kr ?_
       rotate_left
       first | (refine zho ?_) | (refine zqf (hrow2 _ _ rfl) ?_; rintro v Hout n1 ⟨c3, hc3, rfl, rfl, rfl⟩; refine ⟨sb, ?_⟩) | (refine zqf (hmu _ _) ?_; rintro v Hout n1 ⟨rfl, rfl, rfl⟩; refine ⟨sb, ?_⟩)
       refine w_u [3] kr rfl ⟨?_, trivial⟩
       first | (refine zho ?_) | (refine zqf (hrow2 _ _ rfl) ?_; rintro v Hout n1 ⟨c3, hc3, rfl, rfl, rfl⟩; refine ⟨sb, ?_⟩) | (refine zqf (hmu _ _) ?_; rintro v Hout n1 ⟨rfl, rfl, rfl⟩; refine ⟨sb, ?_⟩)
       refine w_u [5] kr rfl ⟨?_, trivial⟩
       first | (refine zho ?_) | (refine zqf (hrow2 _ _ rfl) ?_; rintro v Hout n1 ⟨c3, hc3, rfl, rfl, rfl⟩; refine ⟨sb, ?_⟩) | (refine zqf (hmu _ _) ?_; rintro v Hout n1 ⟨rfl, rfl, rfl⟩; refine ⟨sb, ?_⟩)
       refine zt6 ?_
       refine zt7 ?_
       refine zt8 ?_
       refine w_u [10] kr rfl ⟨?_, trivial⟩
       first | (refine zho ?_) | (refine zqf (hrow2 _ _ rfl) ?_; rintro v Hout n1 ⟨c3, hc3, rfl, rfl, rfl⟩; refine ⟨sb, ?_⟩) | (refine zqf (hmu _ _) ?_; rintro v Hout n1 ⟨rfl, rfl, rfl⟩; refine ⟨sb, ?_⟩)
       refine zt11 ?_
       refine w_v kr ?_
       rotate_left
       first | (refine zho ?_) | (refine zqf (hrow2 _ _ rfl) ?_; rintro v Hout n1 ⟨c3, hc3, rfl, rfl, rfl⟩; refine ⟨sb, ?_⟩) | (refine zqf (hmu _ _) ?_; rintro v Hout n1 ⟨rfl, rfl, rfl⟩; refine ⟨sb, ?_⟩)
       refine w_u [2] kr rfl ⟨?_, trivial⟩
       first | (refine zho ?_) | (refine zqf (hrow2 _ _ rfl) ?_; rintro v Hout n1 ⟨c3, hc3, rfl, rfl, rfl⟩; refine ⟨sb, ?_⟩) | (refine zqf (hmu _ _) ?_; rintro v Hout n1 ⟨rfl, rfl, rfl⟩; refine ⟨sb, ?_⟩)
       refine w_u [3] kr rfl ⟨?_, trivial⟩
       first | (refine zho ?_) | (refine zqf (hrow2 _ _ rfl) ?_; rintro v Hout n1 ⟨c3, hc3, rfl, rfl, rfl⟩; refine ⟨sb, ?_⟩) | (refine zqf (hmu _ _) ?_; rintro v Hout n1 ⟨rfl, rfl, rfl⟩; refine ⟨sb, ?_⟩)
       refine w_u [5] kr rfl ⟨?_, trivial⟩
       first | (refine zho ?_) | (refine zqf (hrow2 _ _ rfl) ?_; rintro v Hout n1 ⟨c3, hc3, rfl, rfl, rfl⟩; refine ⟨sb, ?_⟩) | (refine zqf (hmu _ _) ?_; rintro v Hout n1 ⟨rfl, rfl, rfl⟩; refine ⟨sb, ?_⟩)
       refine zt6 ?_
       refine zt7 ?_
       refine zt8 ?_
       refine w_u [10] kr rfl ⟨?_, trivial⟩
       first | (refine zho ?_) | (refine zqf (hrow2 _ _ rfl) ?_; rintro v Hout n1 ⟨c3, hc3, rfl, rfl, rfl⟩; refine ⟨sb, ?_⟩) | (refine zqf (hmu _ _) ?_; rintro v Hout n1 ⟨rfl, rfl, rfl⟩; refine ⟨sb, ?_⟩)
       refine zt11 ?_
       refine w_v kr ?_
       rotate_left
       all_goals ((repeat' (first | refine stx ?_ | (refine stq ?_ ?_ <;> (intro hc; ((try simp at hc) <;> try contradiction))) | fail)) <;> try (exfalso; omega))
       all_goals first | exact fin rfl w_3 [(2, 9)] (.tup [.one (.sl 2 1 0 0 0), .one (.bool false)]) [(2, .own 3 0 (.ints []))] 3 ⟨0, Nat.zero_le _, rfl, rfl, rfl⟩ rfl ⟨trivial, ⟨rfl, trivial⟩, rfl⟩ rfl | exact fin rfl w_3 [(2, 10)] (.tup [.one (.sl 2 1 0 0 0), .one (.bool false)]) [(2, .own 3 0 (.ints []))] 3 ⟨0, Nat.zero_le _, rfl, rfl, rfl⟩ rfl ⟨trivial, ⟨rfl, trivial⟩, rfl⟩ rfl | exact fin rfl w_3 [(2, 11)] (.tup [.one (.sl 2 1 0 0 0), .one (.bool false)]) [(2, .own 3 0 (.ints []))] 3 ⟨0, Nat.zero_le _, rfl, rfl, rfl⟩ rfl ⟨trivial, ⟨rfl, trivial⟩, rfl⟩ rfl | exact fin rfl w_3 [(2, 12)] (.tup [.one (.sl 2 1 0 0 0), .one (.bool false)]) [(2, .own 3 0 (.ints []))] 3 ⟨0, Nat.zero_le _, rfl, rfl, rfl⟩ rfl ⟨trivial, ⟨rfl, trivial⟩, rfl⟩ rfl | exact fin rfl w_3 [(2, 13)] (.tup [.one (.sl 2 1 0 0 0), .one (.bool false)]) [(2, .own 3 0 (.ints []))] 3 ⟨0, Nat.zero_le _, rfl, rfl, rfl⟩ rfl ⟨trivial, ⟨rfl, trivial⟩, rfl⟩ rfl
      | some z =>
       rw [hM] at hmu
       have hzl := isM_le (mulZ_some hM).2.2.2
       ((repeat' (first | refine stp ?_ | ((refine zqe (hr) ?_); rintro v Hout n1 ⟨cw, hcw, rfl, rfl, rfl⟩) | ((refine zqe (hgr _) ?_); rintro v Hout n1 ⟨cg, hcg, rfl, rfl, rfl⟩) | ((refine zqe (hsh _ hcg) ?_); rintro v Hout n1 ⟨l, cap, hlx, rfl, rfl, rfl⟩; obtain ⟨hl0, hl1, hl2⟩ := row0 hlx; have hl3 : l ≠ [] := fun h => by rw [h] at hl0; simp at hl0) | (refine stq ?_ ?_ <;> (intro hc; ((try simp at hc) <;> try contradiction))) | fail)) <;> try (exfalso; omega))
       have hrow2 := fun m cv (hm : m = (l.getD (0 + (0 : Int).toNat) rowD).xs.length) => (by subst hm; rw [hl1]; exact hrow cv : Does Tryz.prog 77 [vS 1 1 0 m cv] [(1, .ro (.ints (l.getD (0 + (0 : Int).toNat) rowD).xs))] 2 (RowM 1 u.length 3 u))
       refine awp_held TM [(3, _), (7, _)] sb rfl (fun ρs => ?_)
       refine zt0 ?_
       refine zt1 ?_
       refine zt4 ?_
       refine w_u [2, 9] kr rfl ⟨?_, ?_, trivial⟩
       first | (refine zho ?_) | (refine zqf (hrow2 _ _ rfl) ?_; rintro v Hout n1 ⟨c3, hc3, rfl, rfl, rfl⟩; refine ⟨sb, ?_⟩) | (refine zqf (hmu _ _) ?_; rintro v Hout n1 ⟨c4, hc4, rfl, rfl, rfl⟩; refine ⟨sb, ?_⟩)
       refine w_u [3, 9] kr rfl ⟨?_, ?_, trivial⟩
       first | (refine zho ?_) | (refine zqf (hrow2 _ _ rfl) ?_; rintro v Hout n1 ⟨c3, hc3, rfl, rfl, rfl⟩; refine ⟨sb, ?_⟩) | (refine zqf (hmu _ _) ?_; rintro v Hout n1 ⟨c4, hc4, rfl, rfl, rfl⟩; refine ⟨sb, ?_⟩)
       refine w_u [5, 9] kr rfl ⟨?_, ?_, trivial⟩
       first | (refine zho ?_) | (refine zqf (hrow2 _ _ rfl) ?_; rintro v Hout n1 ⟨c3, hc3, rfl, rfl, rfl⟩; refine ⟨sb, ?_⟩) | (refine zqf (hmu _ _) ?_; rintro v Hout n1 ⟨c4, hc4, rfl, rfl, rfl⟩; refine ⟨sb, ?_⟩)
       refine zt6 ?_
       refine zt7 ?_
       refine zt8 ?_
       refine w_u [9] kr rfl ⟨?_, trivial⟩
       first | (refine zho ?_) | (refine zqf (hrow2 _ _ rfl) ?_; rintro v Hout n1 ⟨c3, hc3, rfl, rfl, rfl⟩; refine ⟨sb, ?_⟩) | (refine zqf (hmu _ _) ?_; rintro v Hout n1 ⟨c4, hc4, rfl, rfl, rfl⟩; refine ⟨sb, ?_⟩)
       refine w_u [10] kr rfl ⟨?_, trivial⟩
       first | (refine zho ?_) | (refine zqf (hrow2 _ _ rfl) ?_; rintro v Hout n1 ⟨c3, hc3, rfl, rfl, rfl⟩; refine ⟨sb, ?_⟩) | (refine zqf (hmu _ _) ?_; rintro v Hout n1 ⟨c4, hc4, rfl, rfl, rfl⟩; refine ⟨sb, ?_⟩)
       refine zt11 ?_
       refine w_v kr ?_
       rotate_left
       first | (refine zho ?_) | (refine zqf (hrow2 _ _ rfl) ?_; rintro v Hout n1 ⟨c3, hc3, rfl, rfl, rfl⟩; refine ⟨sb, ?_⟩) | (refine zqf (hmu _ _) ?_; rintro v Hout n1 ⟨c4, hc4, rfl, rfl, rfl⟩; refine ⟨sb, ?_⟩)
       refine w_u [5] kr rfl ⟨?_, trivial⟩
       first | (refine zho ?_) | (refine zqf (hrow2 _ _ rfl) ?_; rintro v Hout n1 ⟨c3, hc3, rfl, rfl, rfl⟩; refine ⟨sb, ?_⟩) | (refine zqf (hmu _ _) ?_; rintro v Hout n1 ⟨c4, hc4, rfl, rfl, rfl⟩; refine ⟨sb, ?_⟩)
       refine zt6 ?_
       refine zt7 ?_
       refine zt8 ?_
       refine w_u [10] kr rfl ⟨?_, trivial⟩
       first | (refine zho ?_) | (refine zqf (hrow2 _ _ rfl) ?_; rintro v Hout n1 ⟨c3, hc3, rfl, rfl, rfl⟩; refine ⟨sb, ?_⟩) | (refine zqf (hmu _ _) ?_; rintro v Hout n1 ⟨c4, hc4, rfl, rfl, rfl⟩; refine ⟨sb, ?_⟩)
       refine zt11 ?_
       refine w_v kr ?_
       rotate_left
       first | (refine zho ?_) | (refine zqf (hrow2 _ _ rfl) ?_; rintro v Hout n1 ⟨c3, hc3, rfl, rfl, rfl⟩; refine ⟨sb, ?_⟩) | (refine zqf (hmu _ _) ?_; rintro v Hout n1 ⟨c4, hc4, rfl, rfl, rfl⟩; refine ⟨sb, ?_⟩)
       refine w_u [3] kr rfl ⟨?_, trivial⟩
       first | (refine zho ?_) | (refine zqf (hrow2 _ _ rfl) ?_; rintro v Hout n1 ⟨c3, hc3, rfl, rfl, rfl⟩; refine ⟨sb, ?_⟩) | (refine zqf (hmu _ _) ?_; rintro v Hout n1 ⟨c4, hc4, rfl, rfl, rfl⟩; refine ⟨sb, ?_⟩)
       refine w_u [5] kr rfl ⟨?_, trivial⟩
       first | (refine zho ?_) | (refine zqf (hrow2 _ _ rfl) ?_; rintro v Hout n1 ⟨c3, hc3, rfl, rfl, rfl⟩; refine ⟨sb, ?_⟩) | (refine zqf (hmu _ _) ?_; rintro v Hout n1 ⟨c4, hc4, rfl, rfl, rfl⟩; refine ⟨sb, ?_⟩)
       refine zt6 ?_
       refine zt7 ?_
       refine zt8 ?_
       refine w_u [10] kr rfl ⟨?_, trivial⟩
       first | (refine zho ?_) | (refine zqf (hrow2 _ _ rfl) ?_; rintro v Hout n1 ⟨c3, hc3, rfl, rfl, rfl⟩; refine ⟨sb, ?_⟩) | (refine zqf (hmu _ _) ?_; rintro v Hout n1 ⟨c4, hc4, rfl, rfl, rfl⟩; refine ⟨sb, ?_⟩)
       refine zt11 ?_
       refine w_v kr ?_
       rotate_left
       first | (refine zho ?_) | (refine zqf (hrow2 _ _ rfl) ?_; rintro v Hout n1 ⟨c3, hc3, rfl, rfl, rfl⟩; refine ⟨sb, ?_⟩) | (refine zqf (hmu _ _) ?_; rintro v Hout n1 ⟨c4, hc4, rfl, rfl, rfl⟩; refine ⟨sb, ?_⟩)
       refine w_u [2] kr rfl ⟨?_, trivial⟩
       first | (refine zho ?_) | (refine zqf (hrow2 _ _ rfl) ?_; rintro v Hout n1 ⟨c3, hc3, rfl, rfl, rfl⟩; refine ⟨sb, ?_⟩) | (refine zqf (hmu _ _) ?_; rintro v Hout n1 ⟨c4, hc4, rfl, rfl, rfl⟩; refine ⟨sb, ?_⟩)
       refine w_u [3] kr rfl ⟨?_, trivial⟩
       first | (refine zho ?_) | (refine zqf (hrow2 _ _ rfl) ?_; rintro v Hout n1 ⟨c3, hc3, rfl, rfl, rfl⟩; refine ⟨sb, ?_⟩) | (refine zqf (hmu _ _) ?_; rintro v Hout n1 ⟨c4, hc4, rfl, rfl, rfl⟩; refine ⟨sb, ?_⟩)
       refine w_u [5] kr rfl ⟨?_, trivial⟩
       first | (refine zho ?_) | (refine zqf (hrow2 _ _ rfl) ?_; rintro v Hout n1 ⟨c3, hc3, rfl, rfl, rfl⟩; refine ⟨sb, ?_⟩) | (refine zqf (hmu _ _) ?_; rintro v Hout n1 ⟨c4, hc4, rfl, rfl, rfl⟩; refine ⟨sb, ?_⟩)
       refine zt6 ?_
       refine zt7 ?_
       refine zt8 ?_
       refine w_u [10] kr rfl ⟨?_, trivial⟩
       first | (refine zho ?_) | (refine zqf (hrow2 _ _ rfl) ?_; rintro v Hout n1 ⟨c3, hc3, rfl, rfl, rfl⟩; refine ⟨sb, ?_⟩) | (refine zqf (hmu _ _) ?_; rintro v Hout n1 ⟨c4, hc4, rfl, rfl, rfl⟩; refine ⟨sb, ?_⟩)
       refine zt11 ?_
       refine w_v kr ?_
       rotate_left
       all_goals ((repeat' (first | refine stx ?_ | (refine stq ?_ ?_ <;> (intro hc; ((try simp at hc) <;> try contradiction))) | fail)) <;> try (exfalso; omega))
       all_goals first | exact fin rfl w_3 [(2, 9)] (.tup [.one (.sl 2 1 0 z.length c4), .one (.bool true)]) [(2, .own 3 c4 (.ints z))] 3 ⟨c4, hc4, rfl, rfl, rfl⟩ rfl ⟨trivial, ⟨rfl, trivial⟩, rfl⟩ rfl | exact fin rfl w_3 [(2, 10)] (.tup [.one (.sl 2 1 0 z.length c4), .one (.bool true)]) [(2, .own 3 c4 (.ints z))] 3 ⟨c4, hc4, rfl, rfl, rfl⟩ rfl ⟨trivial, ⟨rfl, trivial⟩, rfl⟩ rfl | exact fin rfl w_3 [(2, 11)] (.tup [.one (.sl 2 1 0 z.length c4), .one (.bool true)]) [(2, .own 3 c4 (.ints z))] 3 ⟨c4, hc4, rfl, rfl, rfl⟩ rfl ⟨trivial, ⟨rfl, trivial⟩, rfl⟩ rfl | exact fin rfl w_3 [(2, 12)] (.tup [.one (.sl 2 1 0 z.length c4), .one (.bool true)]) [(2, .own 3 c4 (.ints z))] 3 ⟨c4, hc4, rfl, rfl, rfl⟩ rfl ⟨trivial, ⟨rfl, trivial⟩, rfl⟩ rfl | exact fin rfl w_3 [(2, 13)] (.tup [.one (.sl 2 1 0 z.length c4), .one (.bool true)]) [(2, .own 3 c4 (.ints z))] 3 ⟨c4, hc4, rfl, rfl, rfl⟩ rfl ⟨trivial, ⟨rfl, trivial⟩, rfl⟩ rfl
set_option maxRecDepth 100000 in
set_option maxHeartbeats 8000000 in
theorem d_srS (xs : List Int) (ca : Nat) (hl : xs.length ≤ 1099511627776) : Does Tryz.prog 39 [vS 1 1 0 xs.length ca] [(1, .ro (.ints xs))] 2 (LsN 3 (srO xs) 2) := by
 have hr := d_relS xs ca hl
 refine Does.intro TT Tryz.func39 rfl (by kernel_rfl) Zz Zz fun E hE => ?_
 cases hR : relsO xs with
 | none =>
  rw [hR] at hr
  rw [srO_no hR]
  ((repeat' (first | refine stx ?_ | ((refine zqe (hr) ?_); rintro v Hout n1 ⟨rfl, rfl, rfl⟩) | (refine stq ?_ ?_ <;> (intro hc; ((try simp at hc) <;> try contradiction))) | fail)) <;> try (exfalso; omega))
  all_goals exact fin rfl w_3 [(2, 3)] (.tup [.one (.sl 2 1 0 0 0), .one (.bool false)]) [(2, .own 3 0 (.ints []))] 3 (.inl ⟨0, Nat.zero_le _, rfl, rfl, rfl⟩) rfl ⟨trivial, ⟨rfl, trivial⟩, rfl⟩ rfl
 | some s =>
  rw [hR] at hr
  have hsl := relsO_len hR
  have hgr := fun cc => d_grS s.2 xs.length s.1 cc (by omega)
  by_cases h0 : s.2 = 0
  ·rw [srO_0 hR h0]
   ((repeat' (first | refine stx ?_ | ((refine zqe (hr) ?_); rintro v Hout n1 ⟨cw, hcw, rfl, rfl, rfl⟩) | (refine stq ?_ ?_ <;> (intro hc; ((try simp at hc) <;> try contradiction))) | fail)) <;> try (exfalso; omega))
   all_goals exact fin rfl w_3 [(2, 4)] (.tup [.one (.sl 2 1 0 0 0), .one (.bool false)]) [(2, .own 3 0 (.ints []))] 3 (.inl ⟨0, Nat.zero_le _, rfl, rfl, rfl⟩) rfl ⟨trivial, ⟨rfl, trivial⟩, rfl⟩ rfl
  ·cases hG : gramZ s.2 xs.length s.1 with
   | none =>
    rw [hG] at hgr
    rw [srO_g hR h0 hG]
    have hsh0 := d_shstS 0 0 [] 0 (by decide)
    rw [show shstO 0 0 [] = none from shst_no (minO_no (.inr rfl))] at hsh0
    ((repeat' (first | refine stx ?_ | ((refine zqe (hr) ?_); rintro v Hout n1 ⟨cw, hcw, rfl, rfl, rfl⟩) | ((refine zqe (hgr _) ?_); rintro v Hout n1 ⟨rfl, rfl, rfl⟩) | ((refine zqe (hsh0) ?_); rintro v Hout n1 ⟨rfl, rfl, rfl⟩) | (refine stq ?_ ?_ <;> (intro hc; ((try simp at hc) <;> try contradiction))) | fail)) <;> try (exfalso; omega))
    all_goals first | exact fin rfl w_3 [(2, 6)] (.tup [.one (.sl 2 1 0 0 0), .one (.bool false)]) [(2, .own 3 0 (.ints []))] 3 (.inl ⟨0, Nat.zero_le _, rfl, rfl, rfl⟩) rfl ⟨trivial, ⟨rfl, trivial⟩, rfl⟩ rfl | exact fin rfl w_3 [(2, 5)] (.tup [.one (.sl 2 1 0 0 0), .one (.bool false)]) [(2, .own 3 0 (.ints []))] 3 (.inl ⟨0, Nat.zero_le _, rfl, rfl, rfl⟩) rfl ⟨trivial, ⟨rfl, trivial⟩, rfl⟩ rfl
   | some G =>
    rw [hG] at hgr
    rw [srO_s hR h0 hG]
    have hGl := gram_len hG
    have hsh := fun cg => d_shstS s.2 s.2 G cg (by omega)
    cases hS : shstO s.2 s.2 G with
    | none =>
     rw [hS] at hsh
     ((repeat' (first | refine stx ?_ | ((refine zqe (hr) ?_); rintro v Hout n1 ⟨cw, hcw, rfl, rfl, rfl⟩) | ((refine zqe (hgr _) ?_); rintro v Hout n1 ⟨cg, hcg, rfl, rfl, rfl⟩) | ((refine zqe (hsh _) ?_); rintro v Hout n1 ⟨rfl, rfl, rfl⟩) | (refine stq ?_ ?_ <;> (intro hc; ((try simp at hc) <;> try contradiction))) | fail)) <;> try (exfalso; omega))
     all_goals exact fin rfl w_3 [(2, 7)] (.tup [.one (.sl 2 1 0 0 0), .one (.bool false)]) [(2, .own 3 0 (.ints []))] 3 (.inl ⟨0, Nat.zero_le _, rfl, rfl, rfl⟩) rfl ⟨trivial, ⟨rfl, trivial⟩, rfl⟩ rfl
    | some S =>
     rw [hS] at hsh
     cases S with
     | nil =>
      ((repeat' (first | refine stx ?_ | ((refine zqe (hr) ?_); rintro v Hout n1 ⟨cw, hcw, rfl, rfl, rfl⟩) | ((refine zqe (hgr _) ?_); rintro v Hout n1 ⟨cg, hcg, rfl, rfl, rfl⟩) | ((refine zqe (hsh _) ?_); rintro v Hout n1 ⟨l, cap, hlx, rfl, rfl, rfl⟩; obtain rfl : l = [] := by simpa [rowsX] using hlx) | (refine stq ?_ ?_ <;> (intro hc; ((try simp at hc) <;> try contradiction))) | fail)) <;> try (exfalso; omega))
      all_goals exact fin rfl w_3 [(2, 8)] (.tup [.one (.sl 2 1 0 0 0), .one (.bool false)]) [(2, .own 3 0 (.ints []))] 3 (.inl ⟨0, Nat.zero_le _, rfl, rfl, rfl⟩) rfl ⟨trivial, ⟨rfl, trivial⟩, rfl⟩ rfl
     | cons u S' =>
      obtain ⟨hul, hun, hu6⟩ := shst_len hS (v := u) (by simp)
      have hmu := fun c1 c2 => d_mulS 1 s.2 s.2 xs.length u s.1 c1 c2 (by omega) (by omega)
      have eS : firstO s.2 xs.length s.1 (some (u :: S')) = mulZ 1 s.2 s.2 xs.length u s.1 := rfl
      rw [eS]
      cases hM : mulZ 1 s.2 s.2 xs.length u s.1 with
      | none =>
       rw [hM] at hmu
       ((repeat' (first | refine stp ?_ | ((refine zqe (hr) ?_); rintro v Hout n1 ⟨cw, hcw, rfl, rfl, rfl⟩) | ((refine zqe (hgr _) ?_); rintro v Hout n1 ⟨cg, hcg, rfl, rfl, rfl⟩) | ((refine zqe (hsh _) ?_); rintro v Hout n1 ⟨l, cap, hlx, rfl, rfl, rfl⟩; obtain ⟨hl0, hl1, hl2⟩ := row0 hlx; have hl3 : l ≠ [] := fun h => by rw [h] at hl0; simp at hl0) | (refine stq ?_ ?_ <;> (intro hc; ((try simp at hc) <;> try contradiction))) | fail)) <;> try (exfalso; omega))
       have hmu2 := fun m cv (hm : m = (l.getD (0 + (0 : Int).toNat) rowD).xs.length) c2 => (by subst hm; rw [hl1]; exact hmu cv c2 : Does Tryz.prog 82 [vM 1 s.2 1 m cv, vM s.2 xs.length 2 s.1.length c2] [(1, .ro (.ints (l.getD (0 + (0 : Int).toNat) rowD).xs)), (2, .ro (.ints s.1))] 3 (GotZ 1 xs.length 3 none 3))
       refine awp_held TM [(3, _), (7, _)] sb rfl (fun ρs => ?_)
       refine zt0 ?_
       refine zt1 ?_
       refine zt2 ?_
       refine zt3 ?_
       refine zt6 ?_
       refine w_u [4, 11] kr rfl ⟨?_, ?_, trivial⟩
       first | (refine zho ?_) | (refine zqf (hmu2 _ _ rfl _) ?_; rintro v Hout n1 ⟨rfl, rfl, rfl⟩; refine ⟨sb, ?_⟩)
       refine zt5 ?_
       refine w_u [7, 11] kr rfl ⟨?_, ?_, trivial⟩
       first | (refine zho ?_) | (refine zqf (hmu2 _ _ rfl _) ?_; rintro v Hout n1 ⟨rfl, rfl, rfl⟩; refine ⟨sb, ?_⟩)
       refine zt8 ?_
       refine zt9 ?_
       refine zt10 ?_
       refine w_u [11] kr rfl ⟨?_, trivial⟩
       first | (refine zho ?_) | (refine zqf (hmu2 _ _ rfl _) ?_; rintro v Hout n1 ⟨rfl, rfl, rfl⟩; refine ⟨sb, ?_⟩)
       refine w_u [12] kr rfl ⟨?_, trivial⟩
       first | (refine zho ?_) | (refine zqf (hmu2 _ _ rfl _) ?_; rintro v Hout n1 ⟨rfl, rfl, rfl⟩; refine ⟨sb, ?_⟩)
       refine zt13 ?_
       refine w_v kr ?_
       rotate_left
       first | (refine zho ?_) | (refine zqf (hmu2 _ _ rfl _) ?_; rintro v Hout n1 ⟨rfl, rfl, rfl⟩; refine ⟨sb, ?_⟩)
       refine w_u [7] kr rfl ⟨?_, trivial⟩
       first | (refine zho ?_) | (refine zqf (hmu2 _ _ rfl _) ?_; rintro v Hout n1 ⟨rfl, rfl, rfl⟩; refine ⟨sb, ?_⟩)
       refine zt8 ?_
       refine zt9 ?_
       refine zt10 ?_
       refine w_u [12] kr rfl ⟨?_, trivial⟩
       first | (refine zho ?_) | (refine zqf (hmu2 _ _ rfl _) ?_; rintro v Hout n1 ⟨rfl, rfl, rfl⟩; refine ⟨sb, ?_⟩)
       refine zt13 ?_
       refine w_v kr ?_
       rotate_left
       first | (refine zho ?_) | (refine zqf (hmu2 _ _ rfl _) ?_; rintro v Hout n1 ⟨rfl, rfl, rfl⟩; refine ⟨sb, ?_⟩)
       refine w_u [4] kr rfl ⟨?_, trivial⟩
       first | (refine zho ?_) | (refine zqf (hmu2 _ _ rfl _) ?_; rintro v Hout n1 ⟨rfl, rfl, rfl⟩; refine ⟨sb, ?_⟩)
       refine zt5 ?_
       refine w_u [7] kr rfl ⟨?_, trivial⟩
       first | (refine zho ?_) | (refine zqf (hmu2 _ _ rfl _) ?_; rintro v Hout n1 ⟨rfl, rfl, rfl⟩; refine ⟨sb, ?_⟩)
       refine zt8 ?_
       refine zt9 ?_
       refine zt10 ?_
       refine w_u [12] kr rfl ⟨?_, trivial⟩
       first | (refine zho ?_) | (refine zqf (hmu2 _ _ rfl _) ?_; rintro v Hout n1 ⟨rfl, rfl, rfl⟩; refine ⟨sb, ?_⟩)
       refine zt13 ?_
       refine w_v kr ?_
       rotate_left
       all_goals ((repeat' (first | refine stx ?_ | (refine stq ?_ ?_ <;> (intro hc; ((try simp at hc) <;> try contradiction))) | fail)) <;> try (exfalso; omega))
       all_goals exact fin rfl w_3 [] (.tup [.one (.sl 0 1 0 0 0), .one (.bool false)]) [] 2 (.inr ⟨rfl, rfl, rfl⟩) rfl ⟨trivial, trivial, rfl⟩ rfl
      | some z =>
       rw [hM] at hmu
       have hzl := isM_le (mulZ_some hM).2.2.2
       ((repeat' (first | refine stp ?_ | ((refine zqe (hr) ?_); rintro v Hout n1 ⟨cw, hcw, rfl, rfl, rfl⟩) | ((refine zqe (hgr _) ?_); rintro v Hout n1 ⟨cg, hcg, rfl, rfl, rfl⟩) | ((refine zqe (hsh _) ?_); rintro v Hout n1 ⟨l, cap, hlx, rfl, rfl, rfl⟩; obtain ⟨hl0, hl1, hl2⟩ := row0 hlx; have hl3 : l ≠ [] := fun h => by rw [h] at hl0; simp at hl0) | (refine stq ?_ ?_ <;> (intro hc; ((try simp at hc) <;> try contradiction))) | fail)) <;> try (exfalso; omega))
       have hmu2 := fun m cv (hm : m = (l.getD (0 + (0 : Int).toNat) rowD).xs.length) c2 => (by subst hm; rw [hl1]; exact hmu cv c2 : Does Tryz.prog 82 [vM 1 s.2 1 m cv, vM s.2 xs.length 2 s.1.length c2] [(1, .ro (.ints (l.getD (0 + (0 : Int).toNat) rowD).xs)), (2, .ro (.ints s.1))] 3 (GotZ 1 xs.length 3 (some z) 3))
       refine awp_held TM [(3, _), (7, _)] sb rfl (fun ρs => ?_)
       refine zt0 ?_
       refine zt1 ?_
       refine zt2 ?_
       refine zt3 ?_
       refine zt6 ?_
       refine w_u [4, 11] kr rfl ⟨?_, ?_, trivial⟩
       first | (refine zho ?_) | (refine zqf (hmu2 _ _ rfl _) ?_; rintro v Hout n1 ⟨c4, hc4, rfl, rfl, rfl⟩; refine ⟨sb, ?_⟩)
       refine zt5 ?_
       refine w_u [7, 11] kr rfl ⟨?_, ?_, trivial⟩
       first | (refine zho ?_) | (refine zqf (hmu2 _ _ rfl _) ?_; rintro v Hout n1 ⟨c4, hc4, rfl, rfl, rfl⟩; refine ⟨sb, ?_⟩)
       refine zt8 ?_
       refine zt9 ?_
       refine zt10 ?_
       refine w_u [11] kr rfl ⟨?_, trivial⟩
       first | (refine zho ?_) | (refine zqf (hmu2 _ _ rfl _) ?_; rintro v Hout n1 ⟨c4, hc4, rfl, rfl, rfl⟩; refine ⟨sb, ?_⟩)
       refine w_u [12] kr rfl ⟨?_, trivial⟩
       first | (refine zho ?_) | (refine zqf (hmu2 _ _ rfl _) ?_; rintro v Hout n1 ⟨c4, hc4, rfl, rfl, rfl⟩; refine ⟨sb, ?_⟩)
       refine zt13 ?_
       refine w_v kr ?_
       rotate_left
       first | (refine zho ?_) | (refine zqf (hmu2 _ _ rfl _) ?_; rintro v Hout n1 ⟨c4, hc4, rfl, rfl, rfl⟩; refine ⟨sb, ?_⟩)
       refine w_u [7] kr rfl ⟨?_, trivial⟩
       first | (refine zho ?_) | (refine zqf (hmu2 _ _ rfl _) ?_; rintro v Hout n1 ⟨c4, hc4, rfl, rfl, rfl⟩; refine ⟨sb, ?_⟩)
       refine zt8 ?_
       refine zt9 ?_
       refine zt10 ?_
       refine w_u [12] kr rfl ⟨?_, trivial⟩
       first | (refine zho ?_) | (refine zqf (hmu2 _ _ rfl _) ?_; rintro v Hout n1 ⟨c4, hc4, rfl, rfl, rfl⟩; refine ⟨sb, ?_⟩)
       refine zt13 ?_
       refine w_v kr ?_
       rotate_left
       first | (refine zho ?_) | (refine zqf (hmu2 _ _ rfl _) ?_; rintro v Hout n1 ⟨c4, hc4, rfl, rfl, rfl⟩; refine ⟨sb, ?_⟩)
       refine w_u [4] kr rfl ⟨?_, trivial⟩
       first | (refine zho ?_) | (refine zqf (hmu2 _ _ rfl _) ?_; rintro v Hout n1 ⟨c4, hc4, rfl, rfl, rfl⟩; refine ⟨sb, ?_⟩)
       refine zt5 ?_
       refine w_u [7] kr rfl ⟨?_, trivial⟩
       first | (refine zho ?_) | (refine zqf (hmu2 _ _ rfl _) ?_; rintro v Hout n1 ⟨c4, hc4, rfl, rfl, rfl⟩; refine ⟨sb, ?_⟩)
       refine zt8 ?_
       refine zt9 ?_
       refine zt10 ?_
       refine w_u [12] kr rfl ⟨?_, trivial⟩
       first | (refine zho ?_) | (refine zqf (hmu2 _ _ rfl _) ?_; rintro v Hout n1 ⟨c4, hc4, rfl, rfl, rfl⟩; refine ⟨sb, ?_⟩)
       refine zt13 ?_
       refine w_v kr ?_
       rotate_left
       all_goals ((repeat' (first | refine stx ?_ | (refine stq ?_ ?_ <;> (intro hc; ((try simp at hc) <;> try contradiction))) | fail)) <;> try (exfalso; omega))
       all_goals first | exact fin rfl w_3 [(2, 8)] (.tup [.one (.sl 2 1 0 z.length c4), .one (.bool true)]) [(2, .own 3 c4 (.ints z))] 3 ⟨c4, hc4, rfl, rfl, rfl⟩ rfl ⟨trivial, ⟨rfl, trivial⟩, rfl⟩ rfl | exact fin rfl w_3 [(2, 9)] (.tup [.one (.sl 2 1 0 z.length c4), .one (.bool true)]) [(2, .own 3 c4 (.ints z))] 3 ⟨c4, hc4, rfl, rfl, rfl⟩ rfl ⟨trivial, ⟨rfl, trivial⟩, rfl⟩ rfl | exact fin rfl w_3 [(2, 10)] (.tup [.one (.sl 2 1 0 z.length c4), .one (.bool true)]) [(2, .own 3 c4 (.ints z))] 3 ⟨c4, hc4, rfl, rfl, rfl⟩ rfl ⟨trivial, ⟨rfl, trivial⟩, rfl⟩ rfl | exact fin rfl w_3 [(2, 11)] (.tup [.one (.sl 2 1 0 z.length c4), .one (.bool true)]) [(2, .own 3 c4 (.ints z))] 3 ⟨c4, hc4, rfl, rfl, rfl⟩ rfl ⟨trivial, ⟨rfl, trivial⟩, rfl⟩ rfl | exact fin rfl w_3 [(2, 12)] (.tup [.one (.sl 2 1 0 z.length c4), .one (.bool true)]) [(2, .own 3 c4 (.ints z))] 3 ⟨c4, hc4, rfl, rfl, rfl⟩ rfl ⟨trivial, ⟨rfl, trivial⟩, rfl⟩ rfl | exact fin rfl w_3 [(2, 13)] (.tup [.one (.sl 2 1 0 z.length c4), .one (.bool true)]) [(2, .own 3 c4 (.ints z))] 3 ⟨c4, hc4, rfl, rfl, rfl⟩ rfl ⟨trivial, ⟨rfl, trivial⟩, rfl⟩ rfl
end Go.Proofs.YtekpamojojfplaaGreat
namespace Go.Proofs.YtekpamojojfplaaGreat
open Go.RowKit
def MarksM (k : Int) (t : TypeId) (c n : Nat) (v : AV) (Hout : List (Nat × Blk)) (n1 : Nat) : Prop := v = vI (k + n) ∧ Hout = [(1, .own t c (.ints (marks k n)))] ∧ n1 = 2
end Go.Proofs.YtekpamojojfplaaGreat
namespace Go.Proofs.YtekpamojojfplaaGreat
open Go.RowKit
theorem srO_len {v zs : List Int} (h : srO v = some zs) : zs.length ≤ 576 := by
  unfold srO at h
  split at h
  · cases h
  · split at h
    · cases h
    · split at h
      · cases h
      · unfold firstO at h
        split at h
        · cases h
        · cases h
        · exact isM_le (mulZ_some h).2.2.2
set_option maxRecDepth 100000 in
set_option maxHeartbeats 16000000 in
theorem d_lawSh (xs : List Int) (c : Nat) : Does Tryz.prog 8 [vS 1 1 0 xs.length c] [(1, .ro (.ints xs))] 2 (Ret (vB true) 2) := by
 refine Does.intro TT Tryz.func8 rfl (by kernel_rfl) Zz Zz fun E hE => ?_
 by_cases hy : xs.length ≤ 1048576
 ·have hl : xs.length ≤ 1099511627776 := by omega
  have h1 := fun ca => d_srS xs ca hl
  have h2 := fun ca => d_srI xs ca hl
  cases hR : srO xs with
  | none =>
   rw [hR] at h1 h2
   ((repeat' (first | refine stx ?_ | (refine w_C (d_toIntS xs _ hl) Zz Zz Zz Zz Zz Zz Zz ft Zz Zz (MadeI.out) ?_; rintro v b ⟨c1, hc1, rfl, he, -⟩; cases he) | ((refine zqe (h1 _) ?_); rintro v Hout n1 h; rcases h with ⟨c0, hc0, rfl, rfl, rfl⟩ | ⟨rfl, rfl, rfl⟩) | ((refine zqe (h2 _) ?_); rintro v Hout n1 ⟨cg, hcg, rfl, rfl, rfl⟩) | refine zqc (d_eqIntS xs xs _ _ hl hl) ?_ | (first | refine w_z (d_eqIntS [] [] _ _ (by decide) (by decide)) Zz Zz Zz Zz Zz Zz Zz Zz ft Zz Zz ?_ | refine w_A (d_eqIntS [] [] _ _ (by decide) (by decide)) Zz Zz Zz Zz Zz Zz Zz Zz ft Zz Zz ?_) | ((refine w_E (d_markIntS xs _ _ 1 hl (by omega) (by omega)) Zz Zz Zz Zz Zz Zz Zz ft rfl ?_); rintro v Hout n1 ⟨rfl, rfl, rfl⟩) | ((refine w_E (d_markIntS [] _ _ 1 (by decide) (by omega) (by omega)) Zz Zz Zz Zz Zz Zz Zz ft rfl ?_); rintro v Hout n1 ⟨rfl, rfl, rfl⟩) | (first | refine w_z (d_heldIntS 0 _ 1 (by decide) (by omega) (by omega)) Zz Zz Zz Zz Zz Zz Zz Zz ft Zz Zz ?_ | refine w_A (d_heldIntS 0 _ 1 (by decide) (by omega) (by omega)) Zz Zz Zz Zz Zz Zz Zz Zz ft Zz Zz ?_) | (refine stq ?_ ?_ <;> (intro hc; ((try simp at hc) <;> try contradiction))) | fail)) <;> try (exfalso; omega))
   all_goals refine fin_ret rfl w_3 (rfl) rfl
  | some ys =>
   rw [hR] at h1 h2
   have hyl := srO_len hR
   have hyy : ys.length ≤ 1099511627776 := by omega
   ((repeat' (first | refine stx ?_ | (refine w_C (d_toIntS xs _ hl) Zz Zz Zz Zz Zz Zz Zz ft Zz Zz (MadeI.out) ?_; rintro v b ⟨c1, hc1, rfl, he, -⟩; cases he) | ((refine zqe (h1 _) ?_); rintro v Hout n1 ⟨cw, hcw, rfl, rfl, rfl⟩) | ((refine zqe (h2 _) ?_); rintro v Hout n1 ⟨cg, hcg, rfl, rfl, rfl⟩) | refine zqc (d_eqIntS xs xs _ _ hl hl) ?_ | refine zqc (d_eqIntS ys ys _ _ hyy hyy) ?_ | ((refine w_E (d_markIntS xs _ _ 1 hl (by omega) (by omega)) Zz Zz Zz Zz Zz Zz Zz ft rfl ?_); rintro v Hout n1 ⟨rfl, rfl, rfl⟩) | ((refine w_E (d_markIntS ys _ _ 1 hyy (by omega) (by omega)) Zz Zz Zz Zz Zz Zz Zz ft rfl ?_); rintro v Hout n1 ⟨rfl, rfl, rfl⟩) | (first | refine w_z (d_heldIntS ys.length _ 1 hyy (by omega) (by omega)) Zz Zz Zz Zz Zz Zz Zz Zz ft Zz Zz ?_ | refine w_A (d_heldIntS ys.length _ 1 hyy (by omega) (by omega)) Zz Zz Zz Zz Zz Zz Zz Zz ft Zz Zz ?_) | (refine stq ?_ ?_ <;> (intro hc; ((try simp at hc) <;> try contradiction))) | fail)) <;> try (exfalso; omega))
   all_goals refine fin_ret rfl w_3 (rfl) rfl
 ·((repeat' (first | refine stx ?_ | (refine stq ?_ ?_ <;> (intro hc; ((try simp at hc) <;> try contradiction))) | fail)) <;> try (exfalso; omega))
  all_goals refine fin_ret rfl w_3 (rfl) rfl
end Go.Proofs.YtekpamojojfplaaGreat
namespace Go.Proofs.YtekpamojojfplaaGreat
open Go.ChangeShapes Go.WideShapes Go.ChangeAt Go.RowKit Go.Joins
theorem Tryz.own : ownKnob Tryz.prog.godebug = none := by kernel_rfl
theorem Tryz.laidOut : laidOutB Tryz.prog = true := by kernel_rfl
theorem trodAll_below {H : Type} {enc : TypeId × Value → H} {P : Program} (hl : laidOutB P = true) {W W' : World} (hb : Below W.heap.size W W') :
    ∀ {ts : List TypeId} {vs : List Value} {ds : List (DataW H)} {ps : List MemPlace}, (∀ t ∈ ts, P.readableRec t = true ∧ t < P.types.size) →
      DataW.TrodAll enc P W 0 (fun _ => true) true ts vs ds ps → (∀ x ∈ ps, x.block < W.heap.size) → DataW.TrodAll enc P W' 0 (fun b => decide (b < W.heap.size)) true ts vs ds ps
  | [], vs, ds, ps, _, h, _ => by
    obtain ⟨rfl, rfl, rfl⟩ := trodAll_nil h
    exact trodAll_mk0
  | t :: ts, vs, ds, ps, ht, h, hlt => by
    obtain ⟨v, vs', d, ds', p, q, rfl, rfl, rfl, hd, hr⟩ := trodAll_cons h
    exact trodAll_cons_mk (Below.trod hl (ht t (by simp)).1 (ht t (by simp)).2 hd hb (fun x hx => hlt x (by simp [hx])))
      (trodAll_below hl hb (fun u hu => ht u (by simp [hu])) hr (fun x hx => hlt x (by simp [hx])))
theorem law_post {H : Type} {enc : TypeId × Value → H} {P : Program} (hl : laidOutB P = true) {f : Func} {s : ChangeSpec} {tb : TypeId} (hres : f.resultTypes = #[tb]) (hT : P.underlying tb = some .bool)
    (hp : ∀ t ∈ f.params.toList, P.readableRec t = true ∧ t < P.types.size) {W W' : World} {args : Array Value} {ds gs : List (DataW H)} {before : List MemPlace}
    (hvars : s.vars = []) (hW : DataW.Whole enc P f.params.toList s.vars false W args.toList ds gs before) (hfn : s.fn H (ds ++ gs) = { results := [.lit (.bool true)], args := ds }) (hb : Below W.heap.size W W') :
    s.post enc P f false true false false W args (.bool true) W' := by
  have hW0 := hW
  obtain ⟨p, q, hA, hV, hpq, hz, hn⟩ := hW
  have hlt : ∀ x ∈ p, x.block < W.heap.size := fun x hx => hW0.lt x (by rw [hpq]; simp [hx])
  refine ⟨ds, gs, before, [], p, [], hW0, ?_, ?_, ?_, hb.frame _, fun h => by cases h⟩
  · rw [hfn, hres]
    exact trodAll_mk1 (shut_bool hT true)
  · rw [hfn]
    exact trodAll_below hl hb hp hA hlt
  · rw [hfn, hvars]
    rfl
theorem wf_i64 {n : Int} (h : (Lit.int .i64 n).wf = true) : -9223372036854775808 ≤ n ∧ n ≤ 9223372036854775807 := by
  simp [Lit.wf, IntKind.min, IntKind.max, IntKind.signed, IntKind.bits] at h
  exact ⟨by omega, by omega⟩
set_option maxRecDepth 100000 in
theorem open_RI {H : Type} {enc : TypeId × Value → H} {w : World} {fuel : Nat} {cs : List Value} {x : DataW H × List MemPlace}
    (h : DataW.trod enc Tryz.prog w 0 (fun _ => true) true fuel 24 cs = some x) :
    ∃ (A : Option Addr) (c : Nat) (xs : List Int), cs = [.slice A xs.length c] ∧ xs.length ≤ 9223372036854775807 ∧ RI w A xs ∧ ∀ n ∈ xs, -9223372036854775808 ≤ n ∧ n ≤ 9223372036854775807 := by
  rcases open_ints Tryz.underlying24 Tryz.underlying3 (by kernel_rfl) h with ⟨rfl, _⟩ | ⟨a, len, cap, zs, rfl, _, hl, hm, hz, _, hc, hw⟩
  · exact ⟨none, 0, [], rfl, by simp, RI.nil, by simp⟩
  · simp only [if_true] at hz
    have hm' : cap ≤ 9223372036854775807 := by simpa [maxLen] using hm
    refine ⟨some a, cap, zs.take len, by simp; omega, by simp; omega, fun h0 => ?_, fun n hn => wf_i64 (hw n (List.mem_of_mem_take hn))⟩
    have hlen : len ≤ zs.length := by omega
    obtain ⟨b, off, rfl, hc'⟩ := ints_at hc (by simp at h0; omega)
    refine ⟨b, off, rfl, World.block_lt_of_cell? w ⟨b, off + 0, none⟩ (hc' 0 (by simp at h0; omega)), fun k hk => ?_⟩
    have hk' : k < zs.length := by simp at hk; omega
    rw [hc' k hk']
    simp [hk']
set_option maxRecDepth 100000 in
theorem open_RI_arg {H : Type} {enc : TypeId × Value → H} {w : World} {v : Value} {d : DataW H} {p : List MemPlace} {b : Nat}
    (hv : Value.okWide Tryz.prog w .any b 24 v) (h : DataW.Trod enc Tryz.prog w 0 (fun _ => true) true 24 v d p) :
    ∃ (A : Option Addr) (c : Nat) (xs : List Int), v = .slice A xs.length c ∧ xs.length ≤ 9223372036854775807 ∧ RI w A xs ∧ ∀ n ∈ xs, -9223372036854775808 ≤ n ∧ n ≤ 9223372036854775807 := by
  obtain ⟨a0, len, cap, rfl⟩ := okWide_slice Tryz.underlying24 hv
  obtain ⟨fuel, hf⟩ := h
  obtain ⟨A, c, xs, hcs, h1, h2, h3⟩ := open_RI hf
  have : Value.slice a0 len cap = .slice A xs.length c := by simpa [Value.cells] using hcs
  exact ⟨A, c, xs, this, h1, h2, h3⟩
end Go.Proofs.YtekpamojojfplaaGreat
