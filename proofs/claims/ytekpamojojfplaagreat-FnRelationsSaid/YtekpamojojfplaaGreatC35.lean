/-
  TEXTS OF THE PROOF, put together: bShRel, bRel, pRels2.
-/
import Derived.Test.YtekpamojojfplaaGreatC34
import Derived.Test.YtekpamojojfplaaGreatC31
import Derived.Test.YtekpamojojfplaaGreatC08
import Derived.Test.YtekpamojojfplaaGreatC32
set_option linter.unusedVariables false
set_option linter.unusedSimpArgs false
namespace Go.Proofs.YtekpamojojfplaaGreat
open Go.RowKit
def LsN (t : TypeId) (o : Option (List Int)) (k : Nat) (v : AV) (Hout : List (Nat × Blk)) (n1 : Nat) : Prop := match o with
  | none => LsB t [] false k v Hout n1 ∨ (v = .tup [.one (.sl 0 1 0 0 0), .one (.bool false)] ∧ Hout = [] ∧ n1 = k)
  | some zs => LsB t zs true k v Hout n1
theorem srO_no {v : List Int} (h : relsO v = none) : srO v = none := by unfold srO; rw [h]
theorem srO_0 {v : List Int} {s : List Int × Nat} (h : relsO v = some s) (h0 : s.2 = 0) : srO v = none := by unfold srO; rw [h]; dsimp only; rw [if_pos h0]
theorem srO_g {v : List Int} {s : List Int × Nat} (h : relsO v = some s) (h0 : s.2 ≠ 0) (hg : gramZ s.2 v.length s.1 = none) : srO v = none := by unfold srO; rw [h]; dsimp only; rw [if_neg h0, hg]
theorem srO_s {v : List Int} {s : List Int × Nat} {G : List Int} (h : relsO v = some s) (h0 : s.2 ≠ 0) (hg : gramZ s.2 v.length s.1 = some G) : srO v = firstO s.2 v.length s.1 (shstO s.2 s.2 G) := by unfold srO; rw [h]; dsimp only; rw [if_neg h0, hg]
theorem gram_len {r c : Int} {xs g : List Int} (h : gramZ r c xs = some g) : g.length ≤ 576 := isM_le (gramZ_some h).2
theorem shst_len {r c : Int} {g : List Int} {S : List (List Int)} (h : shstO r c g = some S) {v : List Int} (hv : v ∈ S) : (v.length : Int) = r ∧ v.all numB = true ∧ r ≤ 6 := by
  unfold shstO at h
  split at h
  · cases h
  · exact sh_len h hv
set_option maxRecDepth 100000 in
set_option maxHeartbeats 8000000 in
theorem d_srI (xs : List Int) (ca : Nat) (hl : xs.length ≤ 1099511627776) : Does Tryz.prog 36 [vS 1 1 0 xs.length ca] [(1, .ro (.ints xs))] 2 (LsO 3 (srO xs) 2) := by
 have hr := d_relI xs ca hl
 refine Does.intro TT Tryz.func36 rfl (by kernel_rfl) Zz Zz fun E hE => ?_
 cases hR : relsO xs with
 | none =>
  rw [hR] at hr
  rw [srO_no hR]
  ((repeat' (first | refine stx ?_ | ((refine zqe (hr) ?_); rintro v Hout n1 ⟨rfl, rfl, rfl⟩) | (refine stq ?_ ?_ <;> (intro hc; ((try simp at hc) <;> try contradiction))) | fail)) <;> try (exfalso; omega))
  all_goals exact fin rfl w_3 [(2, 3)] (.tup [.one (.sl 2 1 0 0 0), .one (.bool false)]) [(2, .own 3 0 (.ints []))] 3 ⟨0, Nat.zero_le _, rfl, rfl, rfl⟩ rfl ⟨trivial, ⟨rfl, trivial⟩, rfl⟩ rfl
 | some s =>
  rw [hR] at hr
  have hsl := relsO_len hR
  have hgr := fun cc => d_grI s.2 xs.length s.1 cc (by omega)
  by_cases h0 : s.2 = 0
  ·rw [srO_0 hR h0]
   ((repeat' (first | refine stx ?_ | ((refine zqe (hr) ?_); rintro v Hout n1 ⟨cw, hcw, rfl, rfl, rfl⟩) | (refine stq ?_ ?_ <;> (intro hc; ((try simp at hc) <;> try contradiction))) | fail)) <;> try (exfalso; omega))
   all_goals exact fin rfl w_3 [(2, 4)] (.tup [.one (.sl 2 1 0 0 0), .one (.bool false)]) [(2, .own 3 0 (.ints []))] 3 ⟨0, Nat.zero_le _, rfl, rfl, rfl⟩ rfl ⟨trivial, ⟨rfl, trivial⟩, rfl⟩ rfl
  ·cases hG : gramZ s.2 xs.length s.1 with
   | none =>
    rw [hG] at hgr
    rw [srO_g hR h0 hG]
    ((repeat' (first | refine stx ?_ | ((refine zqe (hr) ?_); rintro v Hout n1 ⟨cw, hcw, rfl, rfl, rfl⟩) | ((refine zqe (hgr _) ?_); rintro v Hout n1 ⟨rfl, rfl, rfl⟩) | (refine stq ?_ ?_ <;> (intro hc; ((try simp at hc) <;> try contradiction))) | fail)) <;> try (exfalso; omega))
    all_goals exact fin rfl w_3 [(2, 5)] (.tup [.one (.sl 2 1 0 0 0), .one (.bool false)]) [(2, .own 3 0 (.ints []))] 3 ⟨0, Nat.zero_le _, rfl, rfl, rfl⟩ rfl ⟨trivial, ⟨rfl, trivial⟩, rfl⟩ rfl
   | some G =>
    rw [hG] at hgr
    rw [srO_s hR h0 hG]
    have hGl := gram_len hG
    have hsh := fun cg (h : G.length ≤ cg) => d_shstI s.2 s.2 G cg (by omega) h
    cases hS : shstO s.2 s.2 G with
    | none =>
     rw [hS] at hsh
     ((repeat' (first | refine stx ?_ | ((refine zqe (hr) ?_); rintro v Hout n1 ⟨cw, hcw, rfl, rfl, rfl⟩) | ((refine zqe (hgr _) ?_); rintro v Hout n1 ⟨cg, hcg, rfl, rfl, rfl⟩) | ((refine zqe (hsh _ hcg) ?_); rintro v Hout n1 ⟨rfl, rfl, rfl⟩) | (refine stq ?_ ?_ <;> (intro hc; ((try simp at hc) <;> try contradiction))) | fail)) <;> try (exfalso; omega))
     all_goals exact fin rfl w_3 [(2, 7)] (.tup [.one (.sl 2 1 0 0 0), .one (.bool false)]) [(2, .own 3 0 (.ints []))] 3 ⟨0, Nat.zero_le _, rfl, rfl, rfl⟩ rfl ⟨trivial, ⟨rfl, trivial⟩, rfl⟩ rfl
    | some S =>
     rw [hS] at hsh
     cases S with
     | nil =>
      ((repeat' (first | refine stx ?_ | ((refine zqe (hr) ?_); rintro v Hout n1 ⟨cw, hcw, rfl, rfl, rfl⟩) | ((refine zqe (hgr _) ?_); rintro v Hout n1 ⟨cg, hcg, rfl, rfl, rfl⟩) | ((refine zqe (hsh _ hcg) ?_); rintro v Hout n1 ⟨l, cap, hlx, rfl, rfl, rfl⟩; obtain rfl : l = [] := by simpa [rowsX] using hlx) | (refine stq ?_ ?_ <;> (intro hc; ((try simp at hc) <;> try contradiction))) | fail)) <;> try (exfalso; omega))
      all_goals exact fin rfl w_3 [(2, 8)] (.tup [.one (.sl 2 1 0 0 0), .one (.bool false)]) [(2, .own 3 0 (.ints []))] 3 ⟨0, Nat.zero_le _, rfl, rfl, rfl⟩ rfl ⟨trivial, ⟨rfl, trivial⟩, rfl⟩ rfl
     | cons u S' =>
      obtain ⟨hul, hun, hu6⟩ := shst_len hS (v := u) (by simp)
      have hul2 : u.length = s.2 := by omega
      have hrow := fun cv => d_row u cv (by omega)
      have hmu := fun c1 c2 => d_mulI 1 u.length s.2 xs.length u s.1 c1 c2 (by omega) (by omega)
      have eS : firstO s.2 xs.length s.1 (some (u :: S')) = mulZ 1 u.length s.2 xs.length u s.1 := by rw [hul2]; rfl
      rw [eS]
      cases hM : mulZ 1 u.length s.2 xs.length u s.1 with
      | none =>
       rw [hM] at hmu
       ((repeat' (first | refine stp ?_ | ((refine zqe (hr) ?_); rintro v Hout n1 ⟨cw, hcw, rfl, rfl, rfl⟩) | ((refine zqe (hgr _) ?_); rintro v Hout n1 ⟨cg, hcg, rfl, rfl, rfl⟩) | ((refine zqe (hsh _ hcg) ?_); rintro v Hout n1 ⟨l, cap, hlx, rfl, rfl, rfl⟩; obtain ⟨hl0, hl1, hl2⟩ := row0 hlx; have hl3 : l ≠ [] := fun h => by rw [h] at hl0; simp at hl0) | (refine stq ?_ ?_ <;> (intro hc; ((try simp at hc) <;> try contradiction))) | fail)) <;> try (exfalso; omega))
       have hrow2 := fun m cv (hm : m = (l.getD (0 + (0 : Int).toNat) rowD).xs.length) => (by subst hm; rw [hl1]; exact hrow cv : Does Tryz.prog 77 [vS 1 1 0 m cv] [(1, .ro (.ints (l.getD (0 + (0 : Int).toNat) rowD).xs))] 2 (RowM 1 u.length 3 u))
       refine awp_held TM [(3, _), (7, _)] sb rfl (fun ρs => ?_)
       refine zt0 ?_
       refine zt1 ?_
       refine zt4 ?_
       refine w_u [2, 9] kr rfl ⟨?_, ?_, trivial⟩
       first | (refine zho ?_) | (refine zqf (hrow2 _ _ rfl) ?_; rintro v Hout n1 ⟨c3, hc3, rfl, rfl, rfl⟩; refine ⟨sb, ?_⟩) | (refine zqf (hmu _ _) ?_; rintro v Hout n1 ⟨rfl, rfl, rfl⟩; refine ⟨sb, ?_⟩)
       refine w_u [3, 9] kr rfl ⟨?_, ?_, trivial⟩
       first | (refine zho ?_) | (refine zqf (hrow2 _ _ rfl) ?_; rintro v Hout n1 ⟨c3, hc3, rfl, rfl, rfl⟩; refine ⟨sb, ?_⟩) | (refine zqf (hmu _ _) ?_; rintro v Hout n1 ⟨rfl, rfl, rfl⟩; refine ⟨sb, ?_⟩)
       refine w_u [5, 9] kr rfl ⟨?_, ?_, trivial⟩
       first | (refine zho ?_) | (refine zqf (hrow2 _ _ rfl) ?_; rintro v Hout n1 ⟨c3, hc3, rfl, rfl, rfl⟩; refine ⟨sb, ?_⟩) | (refine zqf (hmu _ _) ?_; rintro v Hout n1 ⟨rfl, rfl, rfl⟩; refine ⟨sb, ?_⟩)
       refine zt6 ?_
       refine zt7 ?_
       refine zt8 ?_
       refine w_u [9] kr rfl ⟨?_, trivial⟩
       first | (refine zho ?_) | (refine zqf (hrow2 _ _ rfl) ?_; rintro v Hout n1 ⟨c3, hc3, rfl, rfl, rfl⟩; refine ⟨sb, ?_⟩) | (refine zqf (hmu _ _) ?_; rintro v Hout n1 ⟨rfl, rfl, rfl⟩; refine ⟨sb, ?_⟩)
       refine w_u [10] kr rfl ⟨?_, trivial⟩
       first | (refine zho ?_) | (refine zqf (hrow2 _ _ rfl) ?_; rintro v Hout n1 ⟨c3, hc3, rfl, rfl, rfl⟩; refine ⟨sb, ?_⟩) | (refine zqf (hmu _ _) ?_; rintro v Hout n1 ⟨rfl, rfl, rfl⟩; refine ⟨sb, ?_⟩)
       refine zt11 ?_
       refine w_v kr ?_
       rotate_left
       first | (refine zho ?_) | (refine zqf (hrow2 _ _ rfl) ?_; rintro v Hout n1 ⟨c3, hc3, rfl, rfl, rfl⟩; refine ⟨sb, ?_⟩) | (refine zqf (hmu _ _) ?_; rintro v Hout n1 ⟨rfl, rfl, rfl⟩; refine ⟨sb, ?_⟩)
       refine w_u [5] kr rfl ⟨?_, trivial⟩
       first | (refine zho ?_) | (refine zqf (hrow2 _ _ rfl) ?_; rintro v Hout n1 ⟨c3, hc3, rfl, rfl, rfl⟩; refine ⟨sb, ?_⟩) | (refine zqf (hmu _ _) ?_; rintro v Hout n1 ⟨rfl, rfl, rfl⟩; refine ⟨sb, ?_⟩)
       refine zt6 ?_
       refine zt7 ?_
       refine zt8 ?_
       refine w_u [10] kr rfl ⟨?_, trivial⟩
       first | (refine zho ?_) | (refine zqf (hrow2 _ _ rfl) ?_; rintro v Hout n1 ⟨c3, hc3, rfl, rfl, rfl⟩; refine ⟨sb, ?_⟩) | (refine zqf (hmu _ _) ?_; rintro v Hout n1 ⟨rfl, rfl, rfl⟩; refine ⟨sb, ?_⟩)
       refine zt11 ?_
       refine w_v kr ?_
       rotate_left
       first | (refine zho ?_) | (refine zqf (hrow2 _ _ rfl) ?_; rintro v Hout n1 ⟨c3, hc3, rfl, rfl, rfl⟩; refine ⟨sb, ?_⟩) | (refine zqf (hmu _ _) ?_; rintro v Hout n1 ⟨rfl, rfl, rfl⟩; refine ⟨sb, ?_⟩)
       refine w_u [3] kr rfl ⟨?_, trivial⟩
       first | (refine zho ?_) | (refine zqf (hrow2 _ _ rfl) ?_; rintro v Hout n1 ⟨c3, hc3, rfl, rfl, rfl⟩; refine ⟨sb, ?_⟩) | (refine zqf (hmu _ _) ?_; rintro v Hout n1 ⟨rfl, rfl, rfl⟩; refine ⟨sb, ?_⟩)
       refine w_u [5] kr rfl ⟨?_, trivial⟩
       first | (refine zho ?_) | (refine zqf (hrow2 _ _ rfl) ?_; rintro v Hout n1 ⟨c3, hc3, rfl, rfl, rfl⟩; refine ⟨sb, ?_⟩) | (refine zqf (hmu _ _) ?_; rintro v Hout n1 ⟨rfl, rfl, rfl⟩; refine ⟨sb, ?_⟩)
       refine zt6 ?_
       refine zt7 ?_
       refine zt8 ?_
       refine w_u [10] kr rfl ⟨?_, trivial⟩
       first | (refine zho ?_) | (refine zqf (hrow2 _ _ rfl) ?_; rintro v Hout n1 ⟨c3, hc3, rfl, rfl, rfl⟩; refine ⟨sb, ?_⟩) | (refine zqf (hmu _ _) ?_; rintro v Hout n1 ⟨rfl, rfl, rfl⟩; refine ⟨sb, ?_⟩)
       refine zt11 ?_
       refine w_v kr ?_
       rotate_left
       first | (refine zho ?_) | (refine zqf (hrow2 _ _ rfl) ?_; rintro v Hout n1 ⟨c3, hc3, rfl, rfl, rfl⟩; refine ⟨sb, ?_⟩) | (refine zqf (hmu _ _) ?_; rintro v Hout n1 ⟨rfl, rfl, rfl⟩; refine ⟨sb, ?_⟩)
       refine w_u [2] kr rfl ⟨?_, trivial⟩
       first | (refine zho ?_) | (refine zqf (hrow2 _ _ rfl) ?_; rintro v Hout n1 ⟨c3, hc3, rfl, rfl, rfl⟩; refine ⟨sb, ?_⟩) | (refine zqf (hmu _ _) ?_; rintro v Hout n1 ⟨rfl, rfl, rfl⟩; refine ⟨sb, ?_⟩)
       refine w_u [3] kr rfl ⟨?_, trivial⟩
       first | (refine zho ?_) | (refine zqf (hrow2 _ _ rfl) ?_; rintro v Hout n1 ⟨c3, hc3, rfl, rfl, rfl⟩; refine ⟨sb, ?_⟩) | (refine zqf (hmu _ _) ?_; rintro v Hout n1 ⟨rfl, rfl, rfl⟩; refine ⟨sb, ?_⟩)
       refine w_u [5] kr rfl ⟨?_, trivial⟩
       first | (refine zho ?_) | (refine zqf (hrow2 _ _ rfl) ?_; rintro v Hout n1 ⟨c3, hc3, rfl, rfl, rfl⟩; refine ⟨sb, ?_⟩) | (refine zqf (hmu _ _) ?_; rintro v Hout n1 ⟨rfl, rfl, rfl⟩; refine ⟨sb, ?_⟩)
       refine zt6 ?_
       refine zt7 ?_
       refine zt8 ?_
       refine w_u [10] kr rfl ⟨?_, trivial⟩
       first | (refine zho ?_) | (refine zqf (hrow2 _ _ rfl) ?_; rintro v Hout n1 ⟨c3, hc3, rfl, rfl, rfl⟩; refine ⟨sb, ?_⟩) | (refine zqf (hmu _ _) ?_; rintro v Hout n1 ⟨rfl, rfl, rfl⟩; refine ⟨sb, ?_⟩)
       refine zt11 ?_
       refine w_v kr ?_
       rotate_left
       all_goals ((repeat' (first | refine stx ?_ | (refine stq ?_ ?_ <;> (intro hc; ((try simp at hc) <;> try contradiction))) | fail)) <;> try (exfalso; omega))
       all_goals first | exact fin rfl w_3 [(2, 9)] (.tup [.one (.sl 2 1 0 0 0), .one (.bool false)]) [(2, .own 3 0 (.ints []))] 3 ⟨0, Nat.zero_le _, rfl, rfl, rfl⟩ rfl ⟨trivial, ⟨rfl, trivial⟩, rfl⟩ rfl | exact fin rfl w_3 [(2, 10)] (.tup [.one (.sl 2 1 0 0 0), .one (.bool false)]) [(2, .own 3 0 (.ints []))] 3 ⟨0, Nat.zero_le _, rfl, rfl, rfl⟩ rfl ⟨trivial, ⟨rfl, trivial⟩, rfl⟩ rfl | exact fin rfl w_3 [(2, 11)] (.tup [.one (.sl 2 1 0 0 0), .one (.bool false)]) [(2, .own 3 0 (.ints []))] 3 ⟨0, Nat.zero_le _, rfl, rfl, rfl⟩ rfl ⟨trivial, ⟨rfl, trivial⟩, rfl⟩ rfl | exact fin rfl w_3 [(2, 12)] (.tup [.one (.sl 2 1 0 0 0), .one (.bool false)]) [(2, .own 3 0 (.ints []))] 3 ⟨0, Nat.zero_le _, rfl, rfl, rfl⟩ rfl ⟨trivial, ⟨rfl, trivial⟩, rfl⟩ rfl | exact fin rfl w_3 [(2, 13)] (.tup [.one (.sl 2 1 0 0 0), .one (.bool false)]) [(2, .own 3 0 (.ints []))] 3 ⟨0, Nat.zero_le _, rfl, rfl, rfl⟩ rfl ⟨trivial, ⟨rfl, trivial⟩, rfl⟩ rfl
      | some z =>
       rw [hM] at hmu
       have hzl := isM_le (mulZ_some hM).2.2.2
       ((repeat' (first | refine stp ?_ | ((refine zqe (hr) ?_); rintro v Hout n1 ⟨cw, hcw, rfl, rfl, rfl⟩) | ((refine zqe (hgr _) ?_); rintro v Hout n1 ⟨cg, hcg, rfl, rfl, rfl⟩) | ((refine zqe (hsh _ hcg) ?_); rintro v Hout n1 ⟨l, cap, hlx, rfl, rfl, rfl⟩; obtain ⟨hl0, hl1, hl2⟩ := row0 hlx; have hl3 : l ≠ [] := fun h => by rw [h] at hl0; simp at hl0) | (refine stq ?_ ?_ <;> (intro hc; ((try simp at hc) <;> try contradiction))) | fail)) <;> try (exfalso; omega))
       have hrow2 := fun m cv (hm : m = (l.getD (0 + (0 : Int).toNat) rowD).xs.length) => (by subst hm; rw [hl1]; exact hrow cv : Does Tryz.prog 77 [vS 1 1 0 m cv] [(1, .ro (.ints (l.getD (0 + (0 : Int).toNat) rowD).xs))] 2 (RowM 1 u.length 3 u))
       refine awp_held TM [(3, _), (7, _)] sb rfl (fun ρs => ?_)
       refine zt0 ?_
       refine zt1 ?_
       refine zt4 ?_
       refine w_u [2, 9] kr rfl ⟨?_, ?_, trivial⟩
       first | (refine zho ?_) | (refine zqf (hrow2 _ _ rfl) ?_; rintro v Hout n1 ⟨c3, hc3, rfl, rfl, rfl⟩; refine ⟨sb, ?_⟩) | (refine zqf (hmu _ _) ?_; rintro v Hout n1 ⟨c4, hc4, rfl, rfl, rfl⟩; refine ⟨sb, ?_⟩)
       refine w_u [3, 9] kr rfl ⟨?_, ?_, trivial⟩
       first | (refine zho ?_) | (refine zqf (hrow2 _ _ rfl) ?_; rintro v Hout n1 ⟨c3, hc3, rfl, rfl, rfl⟩; refine ⟨sb, ?_⟩) | (refine zqf (hmu _ _) ?_; rintro v Hout n1 ⟨c4, hc4, rfl, rfl, rfl⟩; refine ⟨sb, ?_⟩)
       refine w_u [5, 9] kr rfl ⟨?_, ?_, trivial⟩
       first | (refine zho ?_) | (refine zqf (hrow2 _ _ rfl) ?_; rintro v Hout n1 ⟨c3, hc3, rfl, rfl, rfl⟩; refine ⟨sb, ?_⟩) | (refine zqf (hmu _ _) ?_; rintro v Hout n1 ⟨c4, hc4, rfl, rfl, rfl⟩; refine ⟨sb, ?_⟩)
       refine zt6 ?_
       refine zt7 ?_
       refine zt8 ?_
       refine w_u [9] kr rfl ⟨?_, trivial⟩
       first | (refine zho ?_) | (refine zqf (hrow2 _ _ rfl) ?_; rintro v Hout n1 ⟨c3, hc3, rfl, rfl, rfl⟩; refine ⟨sb, ?_⟩) | (refine zqf (hmu _ _) ?_; rintro v Hout n1 ⟨c4, hc4, rfl, rfl, rfl⟩; refine ⟨sb, ?_⟩)
       refine w_u [10] kr rfl ⟨?_, trivial⟩
       first | (refine zho ?_) | (refine zqf (hrow2 _ _ rfl) ?_; rintro v Hout n1 ⟨c3, hc3, rfl, rfl, rfl⟩; refine ⟨sb, ?_⟩) | (refine zqf (hmu _ _) ?_; rintro v Hout n1 ⟨c4, hc4, rfl, rfl, rfl⟩; refine ⟨sb, ?_⟩)
       refine zt11 ?_
       refine w_v kr ?_
       rotate_left
       first | (refine zho ?_) | (refine zqf (hrow2 _ _ rfl) ?_; rintro v Hout n1 ⟨c3, hc3, rfl, rfl, rfl⟩; refine ⟨sb, ?_⟩) | (refine zqf (hmu _ _) ?_; rintro v Hout n1 ⟨c4, hc4, rfl, rfl, rfl⟩; refine ⟨sb, ?_⟩)
       refine w_u [5] kr rfl ⟨?_, trivial⟩
       first | (refine zho ?_) | (refine zqf (hrow2 _ _ rfl) ?_; rintro v Hout n1 ⟨c3, hc3, rfl, rfl, rfl⟩; refine ⟨sb, ?_⟩) | (refine zqf (hmu _ _) ?_; rintro v Hout n1 ⟨c4, hc4, rfl, rfl, rfl⟩; refine ⟨sb, ?_⟩)
       refine zt6 ?_
       refine zt7 ?_
       refine zt8 ?_
       refine w_u [10] kr rfl ⟨?_, trivial⟩
       first | (refine zho ?_) | (refine zqf (hrow2 _ _ rfl) ?_; rintro v Hout n1 ⟨c3, hc3, rfl, rfl, rfl⟩; refine ⟨sb, ?_⟩) | (refine zqf (hmu _ _) ?_; rintro v Hout n1 ⟨c4, hc4, rfl, rfl, rfl⟩; refine ⟨sb, ?_⟩)
       refine zt11 ?_
       refine w_v kr ?_
       rotate_left
       first | (refine zho ?_) | (refine zqf (hrow2 _ _ rfl) ?_; rintro v Hout n1 ⟨c3, hc3, rfl, rfl, rfl⟩; refine ⟨sb, ?_⟩) | (refine zqf (hmu _ _) ?_; rintro v Hout n1 ⟨c4, hc4, rfl, rfl, rfl⟩; refine ⟨sb, ?_⟩)
       refine w_u [3] kr rfl ⟨?_, trivial⟩
       first | (refine zho ?_) | (refine zqf (hrow2 _ _ rfl) ?_; rintro v Hout n1 ⟨c3, hc3, rfl, rfl, rfl⟩; refine ⟨sb, ?_⟩) | (refine zqf (hmu _ _) ?_; rintro v Hout n1 ⟨c4, hc4, rfl, rfl, rfl⟩; refine ⟨sb, ?_⟩)
       refine w_u [5] kr rfl ⟨?_, trivial⟩
       first | (refine zho ?_) | (refine zqf (hrow2 _ _ rfl) ?_; rintro v Hout n1 ⟨c3, hc3, rfl, rfl, rfl⟩; refine ⟨sb, ?_⟩) | (refine zqf (hmu _ _) ?_; rintro v Hout n1 ⟨c4, hc4, rfl, rfl, rfl⟩; refine ⟨sb, ?_⟩)
       refine zt6 ?_
       refine zt7 ?_
       refine zt8 ?_
       refine w_u [10] kr rfl ⟨?_, trivial⟩
       first | (refine zho ?_) | (refine zqf (hrow2 _ _ rfl) ?_; rintro v Hout n1 ⟨c3, hc3, rfl, rfl, rfl⟩; refine ⟨sb, ?_⟩) | (refine zqf (hmu _ _) ?_; rintro v Hout n1 ⟨c4, hc4, rfl, rfl, rfl⟩; refine ⟨sb, ?_⟩)
       refine zt11 ?_
       refine w_v kr ?_
       rotate_left
       first | (refine zho ?_) | (refine zqf (hrow2 _ _ rfl) ?_; rintro v Hout n1 ⟨c3, hc3, rfl, rfl, rfl⟩; refine ⟨sb, ?_⟩) | (refine zqf (hmu _ _) ?_; rintro v Hout n1 ⟨c4, hc4, rfl, rfl, rfl⟩; refine ⟨sb, ?_⟩)
       refine w_u [2] kr rfl ⟨?_, trivial⟩
       first | (refine zho ?_) | (refine zqf (hrow2 _ _ rfl) ?_; rintro v Hout n1 ⟨c3, hc3, rfl, rfl, rfl⟩; refine ⟨sb, ?_⟩) | (refine zqf (hmu _ _) ?_; rintro v Hout n1 ⟨c4, hc4, rfl, rfl, rfl⟩; refine ⟨sb, ?_⟩)
       refine w_u [3] kr rfl ⟨?_, trivial⟩
       first | (refine zho ?_) | (refine zqf (hrow2 _ _ rfl) ?_; rintro v Hout n1 ⟨c3, hc3, rfl, rfl, rfl⟩; refine ⟨sb, ?_⟩) | (refine zqf (hmu _ _) ?_; rintro v Hout n1 ⟨c4, hc4, rfl, rfl, rfl⟩; refine ⟨sb, ?_⟩)
       refine w_u [5] kr rfl ⟨?_, trivial⟩
       first | (refine zho ?_) | (refine zqf (hrow2 _ _ rfl) ?_; rintro v Hout n1 ⟨c3, hc3, rfl, rfl, rfl⟩; refine ⟨sb, ?_⟩) | (refine zqf (hmu _ _) ?_; rintro v Hout n1 ⟨c4, hc4, rfl, rfl, rfl⟩; refine ⟨sb, ?_⟩)
       refine zt6 ?_
       refine zt7 ?_
       refine zt8 ?_
       refine w_u [10] kr rfl ⟨?_, trivial⟩
       first | (refine zho ?_) | (refine zqf (hrow2 _ _ rfl) ?_; rintro v Hout n1 ⟨c3, hc3, rfl, rfl, rfl⟩; refine ⟨sb, ?_⟩) | (refine zqf (hmu _ _) ?_; rintro v Hout n1 ⟨c4, hc4, rfl, rfl, rfl⟩; refine ⟨sb, ?_⟩)
       refine zt11 ?_
       refine w_v kr ?_
       rotate_left
       all_goals ((repeat' (first | refine stx ?_ | (refine stq ?_ ?_ <;> (intro hc; ((try simp at hc) <;> try contradiction))) | fail)) <;> try (exfalso; omega))
       all_goals first | exact fin rfl w_3 [(2, 9)] (.tup [.one (.sl 2 1 0 z.length c4), .one (.bool true)]) [(2, .own 3 c4 (.ints z))] 3 ⟨c4, hc4, rfl, rfl, rfl⟩ rfl ⟨trivial, ⟨rfl, trivial⟩, rfl⟩ rfl | exact fin rfl w_3 [(2, 10)] (.tup [.one (.sl 2 1 0 z.length c4), .one (.bool true)]) [(2, .own 3 c4 (.ints z))] 3 ⟨c4, hc4, rfl, rfl, rfl⟩ rfl ⟨trivial, ⟨rfl, trivial⟩, rfl⟩ rfl | exact fin rfl w_3 [(2, 11)] (.tup [.one (.sl 2 1 0 z.length c4), .one (.bool true)]) [(2, .own 3 c4 (.ints z))] 3 ⟨c4, hc4, rfl, rfl, rfl⟩ rfl ⟨trivial, ⟨rfl, trivial⟩, rfl⟩ rfl | exact fin rfl w_3 [(2, 12)] (.tup [.one (.sl 2 1 0 z.length c4), .one (.bool true)]) [(2, .own 3 c4 (.ints z))] 3 ⟨c4, hc4, rfl, rfl, rfl⟩ rfl ⟨trivial, ⟨rfl, trivial⟩, rfl⟩ rfl | exact fin rfl w_3 [(2, 13)] (.tup [.one (.sl 2 1 0 z.length c4), .one (.bool true)]) [(2, .own 3 c4 (.ints z))] 3 ⟨c4, hc4, rfl, rfl, rfl⟩ rfl ⟨trivial, ⟨rfl, trivial⟩, rfl⟩ rfl
end Go.Proofs.YtekpamojojfplaaGreat
namespace Go.Proofs.YtekpamojojfplaaGreat
open Go.RowKit
theorem d_nonZero (n : Int) : Does Tryz.prog 128 [vI n] [] 1 (Ret (vB (decide (n ≠ 0))) 1) := by
 refine Does.intro TT Tryz.func128 rfl (by kernel_rfl) Zz Zz fun E hE => ?_
 (repeat' (first | refine stx ?_ | (refine stq ?_ ?_ <;> (intro hc; ((try simp at hc) <;> try contradiction))) | fail))
 refine fin_ret rfl w_3 (rfl) rfl
def zeros (xs : List Int) : Bool := xs.all fun n => n == 0
def FoundZ (xs : List Int) (v : AV) (Hout : List (Nat × Blk)) (n1 : Nat) : Prop := ∃ j : Int, v = vI j ∧ Hout = [] ∧ n1 = 2 ∧ ((zeros xs = true ∧ j < 0) ∨ (zeros xs = false ∧ 0 ≤ j))
theorem d_indexZ (xs : List Int) (c : Nat) (hl : xs.length ≤ 1099511627776) : Does Tryz.prog 165 [vS 1 1 0 xs.length c, .one (.fn 128 [])] [(1, .ro (.ints xs))] 2 (FoundZ xs) := by
 refine Does.intro TT Tryz.func165 rfl (by kernel_rfl) Zz Zz fun E hE => ?_
 (repeat' (first | refine stx ?_ | (refine stq ?_ ?_ <;> (intro hc; ((try simp at hc) <;> try contradiction))) | fail))
 refine w_G hE (fun k : Nat => k ≤ xs.length ∧ zeros (xs.take k) = true) (fun k => xs.length - k)
  (fun k => [(0, vS 1 1 0 xs.length c), (1, .one (.fn 128 [])), (7, vI xs.length), (8, vI k)]) (fun _ => [(1, .ro (.ints xs))]) 2 [] 0 ⟨Nat.zero_le _, rfl⟩ ⟨w_1, w_2, rfl⟩ ?_
 rintro k ⟨h1, h2⟩
 (repeat' (first | refine stx ?_ | refine zqc (d_nonZero _) ?_ | (refine stq ?_ ?_ <;> (intro hc; ((try simp at hc) <;> try contradiction))) | fail))
 ·have hk : k < xs.length := by assumption
  rw [gD hk] at hc
  have hz : zeros xs = false := all_bad hk (by simpa using hc)
  exact fin rfl w_3 [] (vI k) [] 2 (⟨_, rfl, rfl, rfl, .inr ⟨hz, by omega⟩⟩) rfl ⟨trivial, trivial, rfl⟩ rfl
 ·have hk : k < xs.length := by assumption
  refine ⟨[], k + 1, ⟨by omega, ?_⟩, w_4, ⟨w_1, w_2, rfl⟩⟩
  rw [gD hk] at hc
  exact all_take hk h2 (by simpa using hc)
 ·rw [List.take_of_length_le (by omega)] at h2
  exact fin rfl w_3 [] (vI (-1)) [] 2 (⟨_, rfl, rfl, rfl, .inl ⟨h2, by omega⟩⟩) rfl ⟨trivial, trivial, rfl⟩ rfl
theorem d_containsZ (xs : List Int) (c : Nat) (hl : xs.length ≤ 1099511627776) : Does Tryz.prog 127 [vS 1 1 0 xs.length c, .one (.fn 128 [])] [(1, .ro (.ints xs))] 2 (Ret (vB (!zeros xs)) 2) := by
 refine Does.intro TT Tryz.func127 rfl (by kernel_rfl) Zz Zz fun E hE => ?_
 (repeat' (first | refine stx ?_ | ((refine zqe (d_indexZ _ _ hl) ?_); rintro v Hout n1 ⟨j, rfl, rfl, rfl, hj⟩) | (refine stq ?_ ?_ <;> (intro hc; ((try simp at hc) <;> try contradiction))) | fail))
 refine fin_ret rfl w_3 (congrArg vB ?_) rfl
 rcases hj with ⟨h1, h2⟩ | ⟨h1, h2⟩
 ·rw [h1, decide_eq_false (by omega)]; rfl
 ·rw [h1, decide_eq_true h2]; rfl
theorem d_zeroRow (xs : List Int) (c : Nat) (hl : xs.length ≤ 1099511627776) : Does Tryz.prog 78 [vS 1 1 0 xs.length c] [(1, .ro (.ints xs))] 2 (Ret (vB (zeros xs)) 2) := by
 refine Does.intro TT Tryz.func78 rfl (by kernel_rfl) Zz Zz fun E hE => ?_
 (repeat' (first | refine stx ?_ | refine zqc (d_containsZ _ _ hl) ?_ | (refine stq ?_ ?_ <;> (intro hc; ((try simp at hc) <;> try contradiction))) | fail))
 refine fin_ret rfl w_3 (congrArg vB (Bool.not_not _)) rfl
def relB (v x : List Int) : Bool := match mulZ 1 v.length x.length 1 v x with
  | some zs => (zs.getD 0 0 == 0) && !zeros x
  | none => false
theorem relB_no {v x : List Int} (h : mulZ 1 v.length x.length 1 v x = none) : relB v x = false := by simp only [relB, h]
theorem relB_yes {v x zs : List Int} (h : mulZ 1 v.length x.length 1 v x = some zs) : relB v x = ((zs.getD 0 0 == 0) && !zeros x) := by simp only [relB, h]
theorem zeros_step {x : List Int} {k : Nat} (h : k < x.length) : zeros (x.take (k + 1)) = (zeros (x.take k) && (x.getD (0 + (k : Int).toNat) 0 == 0)) := by
  rw [getD_at h, zeros, List.take_succ_eq_append_getElem h, List.all_append]; simp [zeros]
set_option maxHeartbeats 1000000 in
theorem d_isrS (v x : List Int) (ca cb : Nat) (hl : v.length ≤ 1099511627776) (hl' : x.length ≤ 1099511627776) :
    Does Tryz.prog 38 [vS 1 1 0 v.length ca, vS 2 1 0 x.length cb] [(1, .ro (.ints v)), (2, .ro (.ints x))] 3 (Ret (vB (relB v x)) 3) := by
  refine Does.intro TT Tryz.func38 rfl (by kernel_rfl) Zz Zz fun E hE => ?_
  have hz : ∀ zs, mulZ 1 v.length x.length 1 v x = some zs → zs.length = 1 := fun zs h => by rw [mulZ_len h]; rfl
  cases hm : mulZ 1 v.length x.length 1 v x with
  | none =>
    clear hz
    (repeat' (first | refine stx ?_ | (refine w_C (d_times 1 v.length v x _ _ hl hl') Zz Zz Zz Zz Zz Zz Zz ft Zz Zz (GotSl.out) ?_; rintro v b h; rw [hm] at h; obtain ⟨cap, hcap, rfl, he, -⟩ := h; cases he) | (refine stq ?_ ?_ <;> (intro hc; ((try simp at hc) <;> try contradiction))) | fail))
    refine w_G hE (fun k : Nat => k ≤ x.length) (fun k => x.length - k)
      (fun k => [(0, vS 1 1 0 v.length ca), (1, vS 2 1 0 x.length cb), (6, vB false), (7, vB (zeros (x.take k))), (8, vI k)]) (fun _ => [(1, .ro (.ints v)), (2, .ro (.ints x))]) 4 [] 0 (Nat.zero_le _) ⟨w_1, w_2, rfl⟩ ?_
    intro k h1
    (repeat' (first | refine stx ?_ | (refine stq ?_ ?_ <;> (intro hc; ((try simp at hc) <;> try contradiction))) | fail))
    · refine ⟨[], k + 1, by omega, w_4, ⟨⟨rfl, rfl, rfl, congrArg some (congrArg vB ?_), rfl, trivial⟩, ⟨rfl, rfl, trivial⟩, rfl⟩⟩
      rw [zeros_step (by assumption), hc]; first | (simp; done) | (simp; rfl)
    · refine ⟨[], k + 1, by omega, w_4, ⟨⟨rfl, rfl, rfl, congrArg some (congrArg vB ?_), rfl, trivial⟩, ⟨rfl, rfl, trivial⟩, rfl⟩⟩
      rw [zeros_step (by assumption), hc]; first | (simp; done) | (simp; rfl)
    · refine fin_ret rfl w_3 (congrArg vB (relB_no hm).symm) rfl
  | some zs =>
    have hz := hz zs hm
    (repeat' (first | refine stx ?_ | (refine w_C (d_times 1 v.length v x _ _ hl hl') Zz Zz Zz Zz Zz Zz Zz ft Zz Zz (GotSl.out) ?_; rintro v b h; rw [hm] at h; obtain ⟨cap, hcap, rfl, he, -⟩ := h; cases he) | (refine stq ?_ ?_ <;> (intro hc; ((try simp at hc) <;> try contradiction))) | fail))
    refine w_G hE (fun k : Nat => k ≤ x.length) (fun k => x.length - k)
      (fun k => [(0, vS 1 1 0 v.length ca), (1, vS 2 1 0 x.length cb), (5, vS 3 1 0 zs.length cap), (6, vB true), (7, vB (zeros (x.take k))), (8, vI k)]) (fun _ => [(1, .ro (.ints v)), (2, .ro (.ints x)), (3, .own 3 cap (.ints zs))]) 4 [] 0 (Nat.zero_le _) ⟨w_1, w_2, rfl⟩ ?_
    intro k h1
    (repeat' (first | refine stx ?_ | (refine stq ?_ ?_ <;> (intro hc; ((try simp at hc) <;> try contradiction))) | fail))
    · refine ⟨[], k + 1, by omega, w_4, ⟨⟨rfl, rfl, rfl, rfl, congrArg some (congrArg vB ?_), rfl, trivial⟩, ⟨rfl, rfl, rfl, trivial⟩, rfl⟩⟩
      rw [zeros_step (by assumption), hc]; first | (simp; done) | (simp; rfl)
    · refine ⟨[], k + 1, by omega, w_4, ⟨⟨rfl, rfl, rfl, rfl, congrArg some (congrArg vB ?_), rfl, trivial⟩, ⟨rfl, rfl, rfl, trivial⟩, rfl⟩⟩
      rw [zeros_step (by assumption), hc]; first | (simp; done) | (simp; rfl)
    · refine fin_ret rfl w_3 (congrArg vB ?_) rfl
      rw [relB_yes hm]
      rw [List.take_of_length_le (by omega)]
      have hc' : zs.getD 0 0 = 0 := by rw [List.getD_eq_getElem?_getD]; exact hc
      rw [hc']; rfl
    · refine fin_ret rfl w_3 (congrArg vB ?_) rfl
      rw [relB_yes hm]
      have hc' : (zs.getD 0 0 == 0) = false := by rw [List.getD_eq_getElem?_getD]; simpa using hc
      rw [hc']; rfl
set_option maxHeartbeats 1000000 in
theorem d_isrI (v x : List Int) (ca cb : Nat) (hl : v.length ≤ 1099511627776) (hl' : x.length ≤ 1099511627776) :
    Does Tryz.prog 37 [vS 1 1 0 v.length ca, vS 2 1 0 x.length cb] [(1, .ro (.ints v)), (2, .ro (.ints x))] 3 (Ret (vB (relB v x)) 3) := by
  refine Does.intro TT Tryz.func37 rfl (by kernel_rfl) Zz Zz fun E hE => ?_
  have hz : ∀ zs, mulZ 1 v.length x.length 1 v x = some zs → zs.length = 1 := fun zs h => by rw [mulZ_len h]; rfl
  cases hm : mulZ 1 v.length x.length 1 v x with
  | none =>
    clear hz
    (repeat' (first | refine stx ?_ | (refine w_C (d_row v _ hl) Zz Zz Zz Zz Zz Zz Zz ft Zz Zz (RowM.out) ?_; rintro v b ⟨c1, hc1, rfl, he, -⟩; cases he) | (refine w_C (d_col x _ hl') Zz Zz Zz Zz Zz Zz Zz ft Zz Zz (RowM.out) ?_; rintro v b ⟨c2, hc2, rfl, he, -⟩; cases he) | ((refine zqe (d_mulI 1 v.length x.length 1 v x _ _ hl hl') ?_); rintro u Hout n1 h; rw [hm] at h; obtain ⟨rfl, rfl, rfl⟩ := h) | (refine stq ?_ ?_ <;> (intro hc; ((try simp at hc) <;> try contradiction))) | fail))
    refine fin_ret rfl w_3 (congrArg vB (relB_no hm).symm) rfl
  | some zs =>
    have hz := hz zs hm
    (repeat' (first | refine stx ?_ | (refine w_C (d_row v _ hl) Zz Zz Zz Zz Zz Zz Zz ft Zz Zz (RowM.out) ?_; rintro v b ⟨c1, hc1, rfl, he, -⟩; cases he) | (refine w_C (d_col x _ hl') Zz Zz Zz Zz Zz Zz Zz ft Zz Zz (RowM.out) ?_; rintro v b ⟨c2, hc2, rfl, he, -⟩; cases he) | ((refine zqe (d_mulI 1 v.length x.length 1 v x _ _ hl hl') ?_); rintro u Hout n1 h; rw [hm] at h; obtain ⟨cap, hcap, rfl, rfl, rfl⟩ := h) | refine zqc (d_zeroRow _ _ hl') ?_ | (refine stq ?_ ?_ <;> (intro hc; ((try simp at hc) <;> try contradiction))) | fail))
    · refine fin_ret rfl w_3 (congrArg vB ?_) rfl
      rw [relB_yes hm]
      have hc' : zs.getD 0 0 = 0 := by rw [List.getD_eq_getElem?_getD]; exact hc
      rw [hc']; rfl
    · refine fin_ret rfl w_3 (congrArg vB ?_) rfl
      rw [relB_yes hm]
      have hc' : (zs.getD 0 0 == 0) = false := by rw [List.getD_eq_getElem?_getD]; simpa using hc
      rw [hc']; rfl
end Go.Proofs.YtekpamojojfplaaGreat
namespace Go.Proofs.YtekpamojojfplaaGreat
def sqS (x : List Int) (n : Nat) : Int := sg (fun k => x.getD k 0 * x.getD k 0) n
def sqR (b : List Int) (o : Nat) (n : Nat) : Int := sg (fun k => b.getD (o + k) 0 * b.getD (o + k) 0) n
theorem sqR_bd {b : List Int} (h : b.all numB = true) {o : Nat} : ∀ n : Nat, 0 ≤ sqR b o n ∧ sqR b o n ≤ 160000000000000000 * (n : Int)
  | 0 => ⟨Int.le_refl 0, by show (0 : Int) ≤ _; omega⟩
  | n + 1 => by
    have ih := sqR_bd h (o := o) n
    have h1 := num_getD h (o + n)
    have h2 := prod_num h1 h1
    have h3 := sq_nonneg (b.getD (o + n) 0)
    have e : sqR b o (n + 1) = sqR b o n + b.getD (o + n) 0 * b.getD (o + n) 0 := rfl
    omega
theorem sqS_R {x : List Int} {n : Nat} : sqS x n = sqR x 0 n := by
  unfold sqS sqR
  exact sg_congr fun k _ => by rw [Nat.zero_add]
theorem zeros_iff {x : List Int} : zeros x = true ↔ ∀ k, x.getD k 0 = 0 := by
  unfold zeros
  rw [List.all_eq_true]
  constructor
  · intro h k
    rcases Nat.lt_or_ge k x.length with c | c
    · rw [getD_in c]; simpa using h _ (List.getElem_mem c)
    · rw [List.getD_eq_getElem?_getD, List.getElem?_eq_none c]; rfl
  · intro h z hz
    obtain ⟨j, hj, rfl⟩ := List.mem_iff_getElem.1 hz
    have := h j
    rw [getD_in hj] at this
    simp [this]
theorem rel_ok {v x : List Int} (h6 : v.length ≤ 6) (hv : v.all numB = true) (hx : x.length = v.length) (hxn : x.all numB = true) (h0 : sg (fun k => x.getD k 0 * v.getD k 0) v.length = 0) (hne : ∃ k, x.getD k 0 ≠ 0) : relB v x = true := by
  have h1 : isM 1 v.length v = true := by
    simp only [isM, Bool.and_eq_true, decide_eq_true_eq]
    exact ⟨⟨by omega, by omega, by omega, by omega, by omega⟩, hv⟩
  have h2 : isM v.length 1 x = true := by
    simp only [isM, Bool.and_eq_true, decide_eq_true_eq]
    exact ⟨⟨by omega, by omega, by omega, by omega, by omega⟩, hxn⟩
  have e0 : (mulM 1 v.length 1 v x).getD 0 0 = 0 := by
    have := mulM_getD (r := 1) (n := v.length) (c := 1) (i := 0) (j := 0) (xs := v) (ys := x) (by omega) (by omega)
    rw [show 0 * 1 + 0 = 0 from rfl] at this
    refine this.trans (Eq.trans ?_ h0)
    exact sg_congr fun k _ => by rw [Nat.zero_mul, Nat.zero_add, Nat.mul_one, Nat.add_zero, Int.mul_comm]
  have hn : (mulM 1 v.length 1 v x).all numB = true := List.all_eq_true.2 fun z hz => by
    obtain ⟨j, hj, rfl⟩ := List.mem_iff_getElem.1 hz
    rw [← getD_in (d := 0) hj]
    rw [mulM_len] at hj
    obtain rfl : j = 0 := by omega
    rw [e0]; rfl
  have hm := mulZ_yes (r := 1) (n := v.length) (c := 1) (by simpa using h1) (by simpa using h2) hn
  simp only [Int.natCast_one] at hm
  rw [← hx] at hm
  have hz : zeros x = false := by
    rw [Bool.eq_false_iff]
    intro h
    obtain ⟨k, hk⟩ := hne
    exact hk (zeros_iff.1 h k)
  rw [hx] at hm
  unfold relB
  rw [hx, hm, hz]
  dsimp only
  rw [e0]; rfl
theorem rel_back {v x : List Int} (h : relB v x = true) : x.length = v.length ∧ sg (fun k => x.getD k 0 * v.getD k 0) v.length = 0 ∧ ∃ k, x.getD k 0 ≠ 0 := by
  unfold relB at h
  split at h
  · rename_i zs hm
    rw [Bool.and_eq_true] at h
    have hs := mulZ_some hm
    have hl : x.length = v.length := by omega
    have e := mulZ_eq hm
    simp only [Int.toNat_natCast, Int.toNat_one] at e
    refine ⟨hl, ?_, ?_⟩
    · have := mulM_getD (r := 1) (n := v.length) (c := 1) (i := 0) (j := 0) (xs := v) (ys := x) (by omega) (by omega)
      rw [show 0 * 1 + 0 = 0 from rfl, ← e] at this
      have h1 : zs.getD 0 0 = 0 := by simpa using h.1
      refine Eq.trans ?_ (this.symm.trans h1)
      exact sg_congr fun k _ => by rw [Nat.zero_mul, Nat.zero_add, Nat.mul_one, Nat.add_zero, Int.mul_comm]
    · by_cases c : ∃ k, x.getD k 0 ≠ 0
      · exact c
      · have hz : zeros x = true := zeros_iff.2 fun k => by
          by_cases c2 : x.getD k 0 = 0
          · exact c2
          · exact absurd ⟨k, c2⟩ c
        rw [hz] at h; simp at h
  · cases h
theorem comb_unit {b : List Int} {c k i t : Nat} (hi : i < t) : comb b c (unitV i) k t = b.getD (i * c + k) 0 := by
  rw [comb_sg, sg_single hi fun l hl hne => by simp [unitV, hne]]
  simp [unitV]
theorem rels_row {v b : List Int} {t i : Nat} (h : relsO v = some (b, t)) (hi : i < t) : relB v (subX b (i * v.length) v.length) = true := by
  obtain ⟨h6, hv, hb, hbn, ht, hS, hI⟩ := rels_spec h
  have hin : i * v.length + v.length ≤ b.length := by
    have := Nat.mul_le_mul_right v.length (show i + 1 ≤ t by omega)
    rw [Nat.add_mul] at this; omega
  have hsl : (subX b (i * v.length) v.length).length = v.length := by
    unfold subX; rw [List.length_take, List.length_drop]; omega
  have hsa : ∀ k, k < v.length → (subX b (i * v.length) v.length).getD k 0 = b.getD (i * v.length + k) 0 := fun k hk => by
    unfold subX
    rw [List.getD_eq_getElem?_getD, List.getD_eq_getElem?_getD, List.getElem?_take, if_pos hk, List.getElem?_drop]
  refine rel_ok h6 hv hsl (List.all_eq_true.2 fun z hz => List.all_eq_true.1 hbn z (List.mem_of_mem_drop (List.mem_of_mem_take hz))) ?_ ?_
  · rw [sg_congr fun k hk => by rw [hsa k hk]]
    exact (hS _).2 ⟨unitV i, fun k hk => (comb_unit hi).symm⟩
  · by_cases c : ∃ k, (subX b (i * v.length) v.length).getD k 0 ≠ 0
    · exact c
    · have := hI (unitV i) (fun k hk => by
        rw [comb_unit hi, ← hsa k hk]
        by_cases c2 : (subX b (i * v.length) v.length).getD k 0 = 0
        · exact c2
        · exact absurd ⟨k, c2⟩ c) i hi
      simp [unitV] at this
theorem sr_spec {v x : List Int} (h : srO v = some x) : ∃ b t, relsO v = some (b, t) ∧ x.length = v.length ∧ x.all numB = true ∧ relB v x = true ∧ (∀ i, i < t → sqS x v.length ≤ sqR b (i * v.length) v.length) ∧
    ∀ y : List Int, relB v y = true → sqS x v.length ≤ sqS y v.length := by
  unfold srO at h
  split at h
  · cases h
  · rename_i s hs
    obtain ⟨b, t⟩ := s
    split at h
    · cases h
    · rename_i ht0
      split at h
      · cases h
      · rename_i G hG
        dsimp only at h hG
        cases hS : shstO t t G with
        | none => rw [hS] at h; cases h
        | some S =>
          rw [hS] at h
          cases S with
          | nil => cases h
          | cons u S =>
            replace h : mulZ 1 t t v.length u b = some x := h
            obtain ⟨h6, hv, hb, hbn, ht, hSp, hI⟩ := rels_spec hs
            obtain ⟨hul, hun, hu1, hud, hum⟩ := shst_head hS
            have hM := mulZ_some h
            have hxm := (isM_nat (r := 1) (c := v.length) (by simpa using hM.2.2.2))
            have ex := mulZ_eq h
            simp only [Int.toNat_natCast, Int.toNat_one] at ex
            have hxl : x.length = v.length := by have := hxm.2.2.1; omega
            have hxa : ∀ k, k < v.length → x.getD k 0 = comb b v.length (vecL u) k t := fun k hk => by
              have := mulM_getD (r := 1) (n := t) (c := v.length) (i := 0) (j := k) (xs := u) (ys := b) (by omega) hk
              rw [Nat.zero_mul, Nat.zero_add, ← ex] at this
              rw [this, comb_sg]
              exact sg_congr fun j _ => by rw [Nat.zero_mul, Nat.zero_add]; rfl
            have hQ : sqS x v.length = bilM t (mxL t G) (vecL u) (vecL u) := by
              rw [gram_bil hG]
              exact sg_congr fun k hk => by rw [hxa k hk]
            refine ⟨b, t, hs, hxl, hxm.2.2.2, rel_ok h6 hv hxl hxm.2.2.2 ((hSp _).2 ⟨vecL u, hxa⟩) ?_, fun i hi => ?_, fun y hy => ?_⟩
            · by_cases c : ∃ k, x.getD k 0 ≠ 0
              · exact c
              · have : sqS x v.length = 0 := sg_zero fun k _ => by
                  by_cases c2 : x.getD k 0 = 0
                  · rw [c2]; rfl
                  · exact absurd ⟨k, c2⟩ c
                omega
            · rw [hQ]
              refine Int.le_trans (hud i hi) (Int.le_of_eq ?_)
              have e1 : G.getD (i * t + i) 0 = bilM t (mxL t G) (unitV i) (unitV i) := by
                rw [bil_unit hi, sg_single hi fun k hk hne => by simp [unitV, hne]]
                show _ = (if i = i then 1 else 0) * G.getD (i * t + i) 0
                rw [if_pos rfl, Int.one_mul]
              rw [e1, gram_bil hG]
              exact sg_congr fun k _ => by rw [comb_unit hi]
            · obtain ⟨hyl, hy0, hyn⟩ := rel_back hy
              obtain ⟨z, hz⟩ := (hSp _).1 hy0
              have hzl : ((List.range t).map z).length = t := by simp
              have hza : ∀ k, k < t → ((List.range t).map z).getD k 0 = z k := fun k hk => by
                rw [getD_in (by omega)]; simp
              have hbz : bilM t (mxL t G) (vecL ((List.range t).map z)) (vecL ((List.range t).map z)) = sqS y v.length := by
                refine (bilM_congr (A' := mxL t G) (x' := z) (y' := z) (fun _ _ _ _ => rfl) hza hza).trans ?_
                rw [gram_bil hG]
                exact sg_congr fun k hk => by rw [hz k hk]
              rw [hQ, ← hbz]
              refine hum _ hzl ?_
              by_cases c : ∃ k, ((List.range t).map z).getD k 0 ≠ 0
              · exact c
              · obtain ⟨k, hk⟩ := hyn
                have hk2 : k < v.length := by
                  rcases Nat.lt_or_ge k v.length with e | e
                  · exact e
                  · rw [List.getD_eq_getElem?_getD, List.getElem?_eq_none (by omega)] at hk; exact absurd rfl hk
                have : y.getD k 0 = 0 := by
                  rw [hz k hk2, comb_none fun i hi => ?_]
                  rw [← hza i hi]
                  by_cases c2 : ((List.range t).map z).getD i 0 = 0
                  · exact c2
                  · exact absurd ⟨i, c2⟩ c
                exact absurd this hk
theorem dif_sq {n i j : Nat} (hi : i < n) (hj : j < n) (hne : i ≠ j) : sqS (((List.replicate n (0 : Int)).set i 1).set j (-1)) n = 2 := by
  have e : ∀ k, (((List.replicate n (0 : Int)).set i 1).set j (-1)).getD k 0 = if k = j then -1 else if k = i then 1 else 0 := fun k => by
    rw [List.getD_eq_getElem?_getD, List.getElem?_set, List.getElem?_set]
    simp only [List.length_set, List.length_replicate]
    by_cases c1 : j = k
    · subst c1
      simp [hj]
    · by_cases c2 : i = k
      · subst c2
        simp [c1, hi, hne]
      · have c3 : ¬ k = j := fun h => c1 h.symm
        have c4 : ¬ k = i := fun h => c2 h.symm
        simp only [if_neg c1, if_neg c2, if_neg c3, if_neg c4, List.getElem?_replicate]
        split <;> rfl
  have := sg_two (f := fun _ => 0) (g := fun k => (((List.replicate n (0 : Int)).set i 1).set j (-1)).getD k 0 * (((List.replicate n (0 : Int)).set i 1).set j (-1)).getD k 0) (p := i) (t := j) (A := 1) (B := 1) hne (fun k => by
    rw [e]
    by_cases c1 : k = j
    · rw [if_pos c1, if_pos c1, if_neg (by omega)]; rfl
    · rw [if_neg c1, if_neg c1]
      by_cases c2 : k = i
      · rw [if_pos c2]; rfl
      · rw [if_neg c2]; rfl) n
  unfold sqS
  rw [this, if_pos hi, if_pos hj, sg_zero fun _ _ => rfl]; rfl
end Go.Proofs.YtekpamojojfplaaGreat
