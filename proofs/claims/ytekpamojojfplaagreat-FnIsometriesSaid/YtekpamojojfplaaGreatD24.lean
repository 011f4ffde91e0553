/-
  TEXTS OF THE PROOF, put together: bVal, bNeg, bPart, bFirst.
-/
import Derived.Test.YtekpamojojfplaaGreatD19
import Derived.Test.YtekpamojojfplaaGreatD23
import Derived.Test.YtekpamojojfplaaGreatD08
import Derived.Test.YtekpamojojfplaaGreatD07
import Derived.Test.YtekpamojojfplaaGreatD12
import Derived.Test.YtekpamojojfplaaGreatD17
import Derived.Test.YtekpamojojfplaaGreatD16
set_option linter.unusedVariables false
set_option linter.unusedSimpArgs false
namespace Go.Proofs.YtekpamojojfplaaGreat
open Go.RowKit
def valT (o : Option Int) : AV := .tup [.one (.int (o.getD 0)), .one (.bool o.isSome)]
theorem vatO_no {r c : Int} {g v : List Int} (h : gramB r c g = false ∨ ¬ (v.length : Int) = r) : vatO r c g v = none := by
  unfold vatO
  rw [if_neg]
  rcases h with h | h
  · rw [h]; simp
  · simp [h]
theorem vatO_yes {n : Nat} {g v : List Int} (h : gramB n n g = true) (hv : v.length = n) : vatO n n g v = (mulZ 1 n n n v g).bind fun p => (mulZ 1 n n 1 p v).map fun z => z.getD 0 0 := by
  unfold vatO
  rw [if_pos (by rw [h, hv]; simp), hv]
theorem mulZ_1 {n n' : Int} {xs ys p : List Int} (h : mulZ 1 n n' 1 xs ys = some p) : p.length = 1 := by rw [mulZ_len h]; rfl
set_option maxRecDepth 100000 in
set_option maxHeartbeats 4000000 in
theorem d_valI (r c : Int) (g v : List Int) (ca cv : Nat) (hl : g.length ≤ 1099511627776) (hl' : v.length ≤ 1099511627776) :
    Does Tryz.prog 95 [vM r c 1 g.length ca, vS 2 1 0 v.length cv] [(1, .ro (.ints g)), (2, .ro (.ints v))] 3 (Ret (valT (vatO r c g v)) 3) := by
  refine Does.intro TT Tryz.func95 rfl (by kernel_rfl) Zz Zz fun E hE => ?_
  have hgr := d_gramI r c g ca hl
  cases hG : gramB r c g with
  | false =>
    rw [hG] at hgr
    rw [vatO_no (.inl hG)]
    ((repeat' (first | refine stx ?_ | refine zqc (hgr) ?_ | (refine stq ?_ ?_ <;> (intro hc; ((try simp at hc) <;> try contradiction))) | fail)) <;> try (exfalso; omega))
    all_goals exact fin rfl w_3 [] (.tup [.one (.int 0), .one (.bool false)]) [] 3 ⟨rfl, rfl, rfl⟩ rfl ⟨trivial, trivial, rfl⟩ rfl
  | true =>
    rw [hG] at hgr
    obtain ⟨n, rfl, rfl, hn, hx, hnum, -⟩ := gramB_nat hG
    by_cases hv : v.length = n
    · subst hv
      have hrow := fun cc => d_row v cc hl'
      have hcol := fun cc => d_col v cc hl'
      have hm1 := fun cc => d_mulI 1 v.length v.length v.length v g cc ca hl' hl
      rw [vatO_yes hG rfl]
      cases hp : mulZ 1 v.length v.length v.length v g with
      | none =>
        rw [hp] at hm1
        ((repeat' (first | refine stp ?_ | refine zqc (hgr) ?_ | (refine stq ?_ ?_ <;> (intro hc; ((try simp at hc) <;> try contradiction))) | fail)) <;> try (exfalso; omega))
        refine awp_held TM [(2, _), (3, _)] sb rfl (fun ρs => ?_)
        refine zt0 ?_
        refine zt2 ?_
        refine w_u [1, 7] kr rfl ⟨?_, ?_, trivial⟩
        first | (refine zho ?_) | (refine zqf (hrow _) ?_; rintro v Hout n1 ⟨c1, hc1, rfl, rfl, rfl⟩; refine ⟨sb, ?_⟩) | (refine zqf (hm1 _) ?_; rintro v Hout n1 ⟨rfl, rfl, rfl⟩; refine ⟨sb, ?_⟩)
        refine w_u [3, 7] kr rfl ⟨?_, ?_, trivial⟩
        first | (refine zho ?_) | (refine zqf (hrow _) ?_; rintro v Hout n1 ⟨c1, hc1, rfl, rfl, rfl⟩; refine ⟨sb, ?_⟩) | (refine zqf (hm1 _) ?_; rintro v Hout n1 ⟨rfl, rfl, rfl⟩; refine ⟨sb, ?_⟩)
        refine zt4 ?_
        refine zt5 ?_
        refine zt6 ?_
        refine w_u [7] kr rfl ⟨?_, trivial⟩
        first | (refine zho ?_) | (refine zqf (hrow _) ?_; rintro v Hout n1 ⟨c1, hc1, rfl, rfl, rfl⟩; refine ⟨sb, ?_⟩) | (refine zqf (hm1 _) ?_; rintro v Hout n1 ⟨rfl, rfl, rfl⟩; refine ⟨sb, ?_⟩)
        refine w_u [8] kr rfl ⟨?_, trivial⟩
        first | (refine zho ?_) | (refine zqf (hrow _) ?_; rintro v Hout n1 ⟨c1, hc1, rfl, rfl, rfl⟩; refine ⟨sb, ?_⟩) | (refine zqf (hm1 _) ?_; rintro v Hout n1 ⟨rfl, rfl, rfl⟩; refine ⟨sb, ?_⟩)
        refine zt9 ?_
        refine w_v kr ?_
        rotate_left
        first | (refine zho ?_) | (refine zqf (hrow _) ?_; rintro v Hout n1 ⟨c1, hc1, rfl, rfl, rfl⟩; refine ⟨sb, ?_⟩) | (refine zqf (hm1 _) ?_; rintro v Hout n1 ⟨rfl, rfl, rfl⟩; refine ⟨sb, ?_⟩)
        refine w_u [3] kr rfl ⟨?_, trivial⟩
        first | (refine zho ?_) | (refine zqf (hrow _) ?_; rintro v Hout n1 ⟨c1, hc1, rfl, rfl, rfl⟩; refine ⟨sb, ?_⟩) | (refine zqf (hm1 _) ?_; rintro v Hout n1 ⟨rfl, rfl, rfl⟩; refine ⟨sb, ?_⟩)
        refine zt4 ?_
        refine zt5 ?_
        refine zt6 ?_
        refine w_u [8] kr rfl ⟨?_, trivial⟩
        first | (refine zho ?_) | (refine zqf (hrow _) ?_; rintro v Hout n1 ⟨c1, hc1, rfl, rfl, rfl⟩; refine ⟨sb, ?_⟩) | (refine zqf (hm1 _) ?_; rintro v Hout n1 ⟨rfl, rfl, rfl⟩; refine ⟨sb, ?_⟩)
        refine zt9 ?_
        refine w_v kr ?_
        rotate_left
        first | (refine zho ?_) | (refine zqf (hrow _) ?_; rintro v Hout n1 ⟨c1, hc1, rfl, rfl, rfl⟩; refine ⟨sb, ?_⟩) | (refine zqf (hm1 _) ?_; rintro v Hout n1 ⟨rfl, rfl, rfl⟩; refine ⟨sb, ?_⟩)
        refine w_u [1] kr rfl ⟨?_, trivial⟩
        first | (refine zho ?_) | (refine zqf (hrow _) ?_; rintro v Hout n1 ⟨c1, hc1, rfl, rfl, rfl⟩; refine ⟨sb, ?_⟩) | (refine zqf (hm1 _) ?_; rintro v Hout n1 ⟨rfl, rfl, rfl⟩; refine ⟨sb, ?_⟩)
        refine w_u [3] kr rfl ⟨?_, trivial⟩
        first | (refine zho ?_) | (refine zqf (hrow _) ?_; rintro v Hout n1 ⟨c1, hc1, rfl, rfl, rfl⟩; refine ⟨sb, ?_⟩) | (refine zqf (hm1 _) ?_; rintro v Hout n1 ⟨rfl, rfl, rfl⟩; refine ⟨sb, ?_⟩)
        refine zt4 ?_
        refine zt5 ?_
        refine zt6 ?_
        refine w_u [8] kr rfl ⟨?_, trivial⟩
        first | (refine zho ?_) | (refine zqf (hrow _) ?_; rintro v Hout n1 ⟨c1, hc1, rfl, rfl, rfl⟩; refine ⟨sb, ?_⟩) | (refine zqf (hm1 _) ?_; rintro v Hout n1 ⟨rfl, rfl, rfl⟩; refine ⟨sb, ?_⟩)
        refine zt9 ?_
        refine w_v kr ?_
        rotate_left
        all_goals ((repeat' (first | refine stx ?_ | (refine stq ?_ ?_ <;> (intro hc; ((try simp at hc) <;> try contradiction))) | fail)) <;> try (exfalso; omega))
        all_goals exact fin rfl w_3 [] (.tup [.one (.int 0), .one (.bool false)]) [] 3 ⟨rfl, rfl, rfl⟩ rfl ⟨trivial, trivial, rfl⟩ rfl
      | some p =>
        rw [hp] at hm1
        have hpl := isM_le (mulZ_some hp).2.2.2
        have hm2 := fun cp cc => d_mulI 1 v.length v.length 1 p v cp cc (by omega) hl'
        rw [Option.bind_some]
        cases hq : mulZ 1 v.length v.length 1 p v with
        | none =>
          rw [hq] at hm2
          ((repeat' (first | refine stp ?_ | refine zqc (hgr) ?_ | (refine stq ?_ ?_ <;> (intro hc; ((try simp at hc) <;> try contradiction))) | fail)) <;> try (exfalso; omega))
          refine awp_held TM [(2, _), (3, _)] sb rfl (fun ρs => ?_)
          refine zt0 ?_
          refine zt2 ?_
          refine w_u [1, 7] kr rfl ⟨?_, ?_, trivial⟩
          first | (refine zho ?_) | (refine zqf (hrow _) ?_; rintro v Hout n1 ⟨c1, hc1, rfl, rfl, rfl⟩; refine ⟨sb, ?_⟩) | (refine zqf (hm1 _) ?_; rintro v Hout n1 ⟨c2, hc2, rfl, rfl, rfl⟩; refine ⟨sb, ?_⟩)
          refine w_u [3, 7] kr rfl ⟨?_, ?_, trivial⟩
          first | (refine zho ?_) | (refine zqf (hrow _) ?_; rintro v Hout n1 ⟨c1, hc1, rfl, rfl, rfl⟩; refine ⟨sb, ?_⟩) | (refine zqf (hm1 _) ?_; rintro v Hout n1 ⟨c2, hc2, rfl, rfl, rfl⟩; refine ⟨sb, ?_⟩)
          refine zt4 ?_
          refine zt5 ?_
          refine zt6 ?_
          refine w_u [7] kr rfl ⟨?_, trivial⟩
          first | (refine zho ?_) | (refine zqf (hrow _) ?_; rintro v Hout n1 ⟨c1, hc1, rfl, rfl, rfl⟩; refine ⟨sb, ?_⟩) | (refine zqf (hm1 _) ?_; rintro v Hout n1 ⟨c2, hc2, rfl, rfl, rfl⟩; refine ⟨sb, ?_⟩)
          refine w_u [8] kr rfl ⟨?_, trivial⟩
          first | (refine zho ?_) | (refine zqf (hrow _) ?_; rintro v Hout n1 ⟨c1, hc1, rfl, rfl, rfl⟩; refine ⟨sb, ?_⟩) | (refine zqf (hm1 _) ?_; rintro v Hout n1 ⟨c2, hc2, rfl, rfl, rfl⟩; refine ⟨sb, ?_⟩)
          refine zt9 ?_
          refine w_v kr ?_
          rotate_left
          first | (refine zho ?_) | (refine zqf (hrow _) ?_; rintro v Hout n1 ⟨c1, hc1, rfl, rfl, rfl⟩; refine ⟨sb, ?_⟩) | (refine zqf (hm1 _) ?_; rintro v Hout n1 ⟨c2, hc2, rfl, rfl, rfl⟩; refine ⟨sb, ?_⟩)
          refine w_u [3] kr rfl ⟨?_, trivial⟩
          first | (refine zho ?_) | (refine zqf (hrow _) ?_; rintro v Hout n1 ⟨c1, hc1, rfl, rfl, rfl⟩; refine ⟨sb, ?_⟩) | (refine zqf (hm1 _) ?_; rintro v Hout n1 ⟨c2, hc2, rfl, rfl, rfl⟩; refine ⟨sb, ?_⟩)
          refine zt4 ?_
          refine zt5 ?_
          refine zt6 ?_
          refine w_u [8] kr rfl ⟨?_, trivial⟩
          first | (refine zho ?_) | (refine zqf (hrow _) ?_; rintro v Hout n1 ⟨c1, hc1, rfl, rfl, rfl⟩; refine ⟨sb, ?_⟩) | (refine zqf (hm1 _) ?_; rintro v Hout n1 ⟨c2, hc2, rfl, rfl, rfl⟩; refine ⟨sb, ?_⟩)
          refine zt9 ?_
          refine w_v kr ?_
          rotate_left
          first | (refine zho ?_) | (refine zqf (hrow _) ?_; rintro v Hout n1 ⟨c1, hc1, rfl, rfl, rfl⟩; refine ⟨sb, ?_⟩) | (refine zqf (hm1 _) ?_; rintro v Hout n1 ⟨c2, hc2, rfl, rfl, rfl⟩; refine ⟨sb, ?_⟩)
          refine w_u [1] kr rfl ⟨?_, trivial⟩
          first | (refine zho ?_) | (refine zqf (hrow _) ?_; rintro v Hout n1 ⟨c1, hc1, rfl, rfl, rfl⟩; refine ⟨sb, ?_⟩) | (refine zqf (hm1 _) ?_; rintro v Hout n1 ⟨c2, hc2, rfl, rfl, rfl⟩; refine ⟨sb, ?_⟩)
          refine w_u [3] kr rfl ⟨?_, trivial⟩
          first | (refine zho ?_) | (refine zqf (hrow _) ?_; rintro v Hout n1 ⟨c1, hc1, rfl, rfl, rfl⟩; refine ⟨sb, ?_⟩) | (refine zqf (hm1 _) ?_; rintro v Hout n1 ⟨c2, hc2, rfl, rfl, rfl⟩; refine ⟨sb, ?_⟩)
          refine zt4 ?_
          refine zt5 ?_
          refine zt6 ?_
          refine w_u [8] kr rfl ⟨?_, trivial⟩
          first | (refine zho ?_) | (refine zqf (hrow _) ?_; rintro v Hout n1 ⟨c1, hc1, rfl, rfl, rfl⟩; refine ⟨sb, ?_⟩) | (refine zqf (hm1 _) ?_; rintro v Hout n1 ⟨c2, hc2, rfl, rfl, rfl⟩; refine ⟨sb, ?_⟩)
          refine zt9 ?_
          refine w_v kr ?_
          rotate_left
          all_goals ((repeat' (first | refine stp ?_ | (refine stq ?_ ?_ <;> (intro hc; ((try simp at hc) <;> try contradiction))) | fail)) <;> try (exfalso; omega))
          all_goals
            refine awp_held TM [(2, _), (4, _), (5, _), (6, _)] sb rfl (fun ρs => ?_)
            refine zt0 ?_
            refine zt1 ?_
            refine w_u [2, 7] kr rfl ⟨?_, ?_, trivial⟩
            first | (refine zho ?_) | (refine zqf (hcol _) ?_; rintro v Hout n1 ⟨c3, hc3, rfl, rfl, rfl⟩; refine ⟨sb, ?_⟩) | (refine zqf (hm2 _ _) ?_; rintro v Hout n1 ⟨rfl, rfl, rfl⟩; refine ⟨sb, ?_⟩)
            refine w_u [3, 7] kr rfl ⟨?_, ?_, trivial⟩
            first | (refine zho ?_) | (refine zqf (hcol _) ?_; rintro v Hout n1 ⟨c3, hc3, rfl, rfl, rfl⟩; refine ⟨sb, ?_⟩) | (refine zqf (hm2 _ _) ?_; rintro v Hout n1 ⟨rfl, rfl, rfl⟩; refine ⟨sb, ?_⟩)
            refine zt4 ?_
            refine zt5 ?_
            refine zt6 ?_
            refine w_u [7] kr rfl ⟨?_, trivial⟩
            first | (refine zho ?_) | (refine zqf (hcol _) ?_; rintro v Hout n1 ⟨c3, hc3, rfl, rfl, rfl⟩; refine ⟨sb, ?_⟩) | (refine zqf (hm2 _ _) ?_; rintro v Hout n1 ⟨rfl, rfl, rfl⟩; refine ⟨sb, ?_⟩)
            refine w_u [8] kr rfl ⟨?_, trivial⟩
            first | (refine zho ?_) | (refine zqf (hcol _) ?_; rintro v Hout n1 ⟨c3, hc3, rfl, rfl, rfl⟩; refine ⟨sb, ?_⟩) | (refine zqf (hm2 _ _) ?_; rintro v Hout n1 ⟨rfl, rfl, rfl⟩; refine ⟨sb, ?_⟩)
            refine zt9 ?_
            refine w_v kr ?_
            rotate_left
            first | (refine zho ?_) | (refine zqf (hcol _) ?_; rintro v Hout n1 ⟨c3, hc3, rfl, rfl, rfl⟩; refine ⟨sb, ?_⟩) | (refine zqf (hm2 _ _) ?_; rintro v Hout n1 ⟨rfl, rfl, rfl⟩; refine ⟨sb, ?_⟩)
            refine w_u [3] kr rfl ⟨?_, trivial⟩
            first | (refine zho ?_) | (refine zqf (hcol _) ?_; rintro v Hout n1 ⟨c3, hc3, rfl, rfl, rfl⟩; refine ⟨sb, ?_⟩) | (refine zqf (hm2 _ _) ?_; rintro v Hout n1 ⟨rfl, rfl, rfl⟩; refine ⟨sb, ?_⟩)
            refine zt4 ?_
            refine zt5 ?_
            refine zt6 ?_
            refine w_u [8] kr rfl ⟨?_, trivial⟩
            first | (refine zho ?_) | (refine zqf (hcol _) ?_; rintro v Hout n1 ⟨c3, hc3, rfl, rfl, rfl⟩; refine ⟨sb, ?_⟩) | (refine zqf (hm2 _ _) ?_; rintro v Hout n1 ⟨rfl, rfl, rfl⟩; refine ⟨sb, ?_⟩)
            refine zt9 ?_
            refine w_v kr ?_
            rotate_left
            first | (refine zho ?_) | (refine zqf (hcol _) ?_; rintro v Hout n1 ⟨c3, hc3, rfl, rfl, rfl⟩; refine ⟨sb, ?_⟩) | (refine zqf (hm2 _ _) ?_; rintro v Hout n1 ⟨rfl, rfl, rfl⟩; refine ⟨sb, ?_⟩)
            refine w_u [2] kr rfl ⟨?_, trivial⟩
            first | (refine zho ?_) | (refine zqf (hcol _) ?_; rintro v Hout n1 ⟨c3, hc3, rfl, rfl, rfl⟩; refine ⟨sb, ?_⟩) | (refine zqf (hm2 _ _) ?_; rintro v Hout n1 ⟨rfl, rfl, rfl⟩; refine ⟨sb, ?_⟩)
            refine w_u [3] kr rfl ⟨?_, trivial⟩
            first | (refine zho ?_) | (refine zqf (hcol _) ?_; rintro v Hout n1 ⟨c3, hc3, rfl, rfl, rfl⟩; refine ⟨sb, ?_⟩) | (refine zqf (hm2 _ _) ?_; rintro v Hout n1 ⟨rfl, rfl, rfl⟩; refine ⟨sb, ?_⟩)
            refine zt4 ?_
            refine zt5 ?_
            refine zt6 ?_
            refine w_u [8] kr rfl ⟨?_, trivial⟩
            first | (refine zho ?_) | (refine zqf (hcol _) ?_; rintro v Hout n1 ⟨c3, hc3, rfl, rfl, rfl⟩; refine ⟨sb, ?_⟩) | (refine zqf (hm2 _ _) ?_; rintro v Hout n1 ⟨rfl, rfl, rfl⟩; refine ⟨sb, ?_⟩)
            refine zt9 ?_
            refine w_v kr ?_
            rotate_left
            all_goals ((repeat' (first | refine stx ?_ | (refine stq ?_ ?_ <;> (intro hc; ((try simp at hc) <;> try contradiction))) | fail)) <;> try (exfalso; omega))
            all_goals exact fin rfl w_3 [] (.tup [.one (.int 0), .one (.bool false)]) [] 3 ⟨rfl, rfl, rfl⟩ rfl ⟨trivial, trivial, rfl⟩ rfl
        | some z =>
          rw [hq] at hm2
          have hz1 := mulZ_1 hq
          ((repeat' (first | refine stp ?_ | refine zqc (hgr) ?_ | (refine stq ?_ ?_ <;> (intro hc; ((try simp at hc) <;> try contradiction))) | fail)) <;> try (exfalso; omega))
          refine awp_held TM [(2, _), (3, _)] sb rfl (fun ρs => ?_)
          refine zt0 ?_
          refine zt2 ?_
          refine w_u [1, 7] kr rfl ⟨?_, ?_, trivial⟩
          first | (refine zho ?_) | (refine zqf (hrow _) ?_; rintro v Hout n1 ⟨c1, hc1, rfl, rfl, rfl⟩; refine ⟨sb, ?_⟩) | (refine zqf (hm1 _) ?_; rintro v Hout n1 ⟨c2, hc2, rfl, rfl, rfl⟩; refine ⟨sb, ?_⟩)
          refine w_u [3, 7] kr rfl ⟨?_, ?_, trivial⟩
          first | (refine zho ?_) | (refine zqf (hrow _) ?_; rintro v Hout n1 ⟨c1, hc1, rfl, rfl, rfl⟩; refine ⟨sb, ?_⟩) | (refine zqf (hm1 _) ?_; rintro v Hout n1 ⟨c2, hc2, rfl, rfl, rfl⟩; refine ⟨sb, ?_⟩)
          refine zt4 ?_
          refine zt5 ?_
          refine zt6 ?_
          refine w_u [7] kr rfl ⟨?_, trivial⟩
          first | (refine zho ?_) | (refine zqf (hrow _) ?_; rintro v Hout n1 ⟨c1, hc1, rfl, rfl, rfl⟩; refine ⟨sb, ?_⟩) | (refine zqf (hm1 _) ?_; rintro v Hout n1 ⟨c2, hc2, rfl, rfl, rfl⟩; refine ⟨sb, ?_⟩)
          refine w_u [8] kr rfl ⟨?_, trivial⟩
          first | (refine zho ?_) | (refine zqf (hrow _) ?_; rintro v Hout n1 ⟨c1, hc1, rfl, rfl, rfl⟩; refine ⟨sb, ?_⟩) | (refine zqf (hm1 _) ?_; rintro v Hout n1 ⟨c2, hc2, rfl, rfl, rfl⟩; refine ⟨sb, ?_⟩)
          refine zt9 ?_
          refine w_v kr ?_
          rotate_left
          first | (refine zho ?_) | (refine zqf (hrow _) ?_; rintro v Hout n1 ⟨c1, hc1, rfl, rfl, rfl⟩; refine ⟨sb, ?_⟩) | (refine zqf (hm1 _) ?_; rintro v Hout n1 ⟨c2, hc2, rfl, rfl, rfl⟩; refine ⟨sb, ?_⟩)
          refine w_u [3] kr rfl ⟨?_, trivial⟩
          first | (refine zho ?_) | (refine zqf (hrow _) ?_; rintro v Hout n1 ⟨c1, hc1, rfl, rfl, rfl⟩; refine ⟨sb, ?_⟩) | (refine zqf (hm1 _) ?_; rintro v Hout n1 ⟨c2, hc2, rfl, rfl, rfl⟩; refine ⟨sb, ?_⟩)
          refine zt4 ?_
          refine zt5 ?_
          refine zt6 ?_
          refine w_u [8] kr rfl ⟨?_, trivial⟩
          first | (refine zho ?_) | (refine zqf (hrow _) ?_; rintro v Hout n1 ⟨c1, hc1, rfl, rfl, rfl⟩; refine ⟨sb, ?_⟩) | (refine zqf (hm1 _) ?_; rintro v Hout n1 ⟨c2, hc2, rfl, rfl, rfl⟩; refine ⟨sb, ?_⟩)
          refine zt9 ?_
          refine w_v kr ?_
          rotate_left
          first | (refine zho ?_) | (refine zqf (hrow _) ?_; rintro v Hout n1 ⟨c1, hc1, rfl, rfl, rfl⟩; refine ⟨sb, ?_⟩) | (refine zqf (hm1 _) ?_; rintro v Hout n1 ⟨c2, hc2, rfl, rfl, rfl⟩; refine ⟨sb, ?_⟩)
          refine w_u [1] kr rfl ⟨?_, trivial⟩
          first | (refine zho ?_) | (refine zqf (hrow _) ?_; rintro v Hout n1 ⟨c1, hc1, rfl, rfl, rfl⟩; refine ⟨sb, ?_⟩) | (refine zqf (hm1 _) ?_; rintro v Hout n1 ⟨c2, hc2, rfl, rfl, rfl⟩; refine ⟨sb, ?_⟩)
          refine w_u [3] kr rfl ⟨?_, trivial⟩
          first | (refine zho ?_) | (refine zqf (hrow _) ?_; rintro v Hout n1 ⟨c1, hc1, rfl, rfl, rfl⟩; refine ⟨sb, ?_⟩) | (refine zqf (hm1 _) ?_; rintro v Hout n1 ⟨c2, hc2, rfl, rfl, rfl⟩; refine ⟨sb, ?_⟩)
          refine zt4 ?_
          refine zt5 ?_
          refine zt6 ?_
          refine w_u [8] kr rfl ⟨?_, trivial⟩
          first | (refine zho ?_) | (refine zqf (hrow _) ?_; rintro v Hout n1 ⟨c1, hc1, rfl, rfl, rfl⟩; refine ⟨sb, ?_⟩) | (refine zqf (hm1 _) ?_; rintro v Hout n1 ⟨c2, hc2, rfl, rfl, rfl⟩; refine ⟨sb, ?_⟩)
          refine zt9 ?_
          refine w_v kr ?_
          rotate_left
          all_goals ((repeat' (first | refine stp ?_ | (refine stq ?_ ?_ <;> (intro hc; ((try simp at hc) <;> try contradiction))) | fail)) <;> try (exfalso; omega))
          all_goals
            refine awp_held TM [(2, _), (4, _), (5, _), (6, _)] sb rfl (fun ρs => ?_)
            refine zt0 ?_
            refine zt1 ?_
            refine w_u [2, 7] kr rfl ⟨?_, ?_, trivial⟩
            first | (refine zho ?_) | (refine zqf (hcol _) ?_; rintro v Hout n1 ⟨c3, hc3, rfl, rfl, rfl⟩; refine ⟨sb, ?_⟩) | (refine zqf (hm2 _ _) ?_; rintro v Hout n1 ⟨c4, hc4, rfl, rfl, rfl⟩; refine ⟨sb, ?_⟩)
            refine w_u [3, 7] kr rfl ⟨?_, ?_, trivial⟩
            first | (refine zho ?_) | (refine zqf (hcol _) ?_; rintro v Hout n1 ⟨c3, hc3, rfl, rfl, rfl⟩; refine ⟨sb, ?_⟩) | (refine zqf (hm2 _ _) ?_; rintro v Hout n1 ⟨c4, hc4, rfl, rfl, rfl⟩; refine ⟨sb, ?_⟩)
            refine zt4 ?_
            refine zt5 ?_
            refine zt6 ?_
            refine w_u [7] kr rfl ⟨?_, trivial⟩
            first | (refine zho ?_) | (refine zqf (hcol _) ?_; rintro v Hout n1 ⟨c3, hc3, rfl, rfl, rfl⟩; refine ⟨sb, ?_⟩) | (refine zqf (hm2 _ _) ?_; rintro v Hout n1 ⟨c4, hc4, rfl, rfl, rfl⟩; refine ⟨sb, ?_⟩)
            refine w_u [8] kr rfl ⟨?_, trivial⟩
            first | (refine zho ?_) | (refine zqf (hcol _) ?_; rintro v Hout n1 ⟨c3, hc3, rfl, rfl, rfl⟩; refine ⟨sb, ?_⟩) | (refine zqf (hm2 _ _) ?_; rintro v Hout n1 ⟨c4, hc4, rfl, rfl, rfl⟩; refine ⟨sb, ?_⟩)
            refine zt9 ?_
            refine w_v kr ?_
            rotate_left
            first | (refine zho ?_) | (refine zqf (hcol _) ?_; rintro v Hout n1 ⟨c3, hc3, rfl, rfl, rfl⟩; refine ⟨sb, ?_⟩) | (refine zqf (hm2 _ _) ?_; rintro v Hout n1 ⟨c4, hc4, rfl, rfl, rfl⟩; refine ⟨sb, ?_⟩)
            refine w_u [3] kr rfl ⟨?_, trivial⟩
            first | (refine zho ?_) | (refine zqf (hcol _) ?_; rintro v Hout n1 ⟨c3, hc3, rfl, rfl, rfl⟩; refine ⟨sb, ?_⟩) | (refine zqf (hm2 _ _) ?_; rintro v Hout n1 ⟨c4, hc4, rfl, rfl, rfl⟩; refine ⟨sb, ?_⟩)
            refine zt4 ?_
            refine zt5 ?_
            refine zt6 ?_
            refine w_u [8] kr rfl ⟨?_, trivial⟩
            first | (refine zho ?_) | (refine zqf (hcol _) ?_; rintro v Hout n1 ⟨c3, hc3, rfl, rfl, rfl⟩; refine ⟨sb, ?_⟩) | (refine zqf (hm2 _ _) ?_; rintro v Hout n1 ⟨c4, hc4, rfl, rfl, rfl⟩; refine ⟨sb, ?_⟩)
            refine zt9 ?_
            refine w_v kr ?_
            rotate_left
            first | (refine zho ?_) | (refine zqf (hcol _) ?_; rintro v Hout n1 ⟨c3, hc3, rfl, rfl, rfl⟩; refine ⟨sb, ?_⟩) | (refine zqf (hm2 _ _) ?_; rintro v Hout n1 ⟨c4, hc4, rfl, rfl, rfl⟩; refine ⟨sb, ?_⟩)
            refine w_u [2] kr rfl ⟨?_, trivial⟩
            first | (refine zho ?_) | (refine zqf (hcol _) ?_; rintro v Hout n1 ⟨c3, hc3, rfl, rfl, rfl⟩; refine ⟨sb, ?_⟩) | (refine zqf (hm2 _ _) ?_; rintro v Hout n1 ⟨c4, hc4, rfl, rfl, rfl⟩; refine ⟨sb, ?_⟩)
            refine w_u [3] kr rfl ⟨?_, trivial⟩
            first | (refine zho ?_) | (refine zqf (hcol _) ?_; rintro v Hout n1 ⟨c3, hc3, rfl, rfl, rfl⟩; refine ⟨sb, ?_⟩) | (refine zqf (hm2 _ _) ?_; rintro v Hout n1 ⟨c4, hc4, rfl, rfl, rfl⟩; refine ⟨sb, ?_⟩)
            refine zt4 ?_
            refine zt5 ?_
            refine zt6 ?_
            refine w_u [8] kr rfl ⟨?_, trivial⟩
            first | (refine zho ?_) | (refine zqf (hcol _) ?_; rintro v Hout n1 ⟨c3, hc3, rfl, rfl, rfl⟩; refine ⟨sb, ?_⟩) | (refine zqf (hm2 _ _) ?_; rintro v Hout n1 ⟨c4, hc4, rfl, rfl, rfl⟩; refine ⟨sb, ?_⟩)
            refine zt9 ?_
            refine w_v kr ?_
            rotate_left
            all_goals ((repeat' (first | refine stx ?_ | (refine stq ?_ ?_ <;> (intro hc; ((try simp at hc) <;> try contradiction))) | fail)) <;> try (exfalso; omega))
            all_goals exact fin rfl w_3 [] (.tup [.one (.int (z.getD 0 0)), .one (.bool true)]) [] 3 ⟨rfl, rfl, rfl⟩ rfl ⟨trivial, trivial, rfl⟩ rfl
    · rw [vatO_no (.inr (by omega))]
      ((repeat' (first | refine stx ?_ | refine zqc (hgr) ?_ | (refine stq ?_ ?_ <;> (intro hc; ((try simp at hc) <;> try contradiction))) | fail)) <;> try (exfalso; omega))
      all_goals exact fin rfl w_3 [] (.tup [.one (.int 0), .one (.bool false)]) [] 3 ⟨rfl, rfl, rfl⟩ rfl ⟨trivial, trivial, rfl⟩ rfl
set_option maxRecDepth 100000 in
set_option maxHeartbeats 4000000 in
theorem d_valS (r c : Int) (g v : List Int) (ca cv : Nat) (hl : g.length ≤ 1099511627776) (hl' : v.length ≤ 1099511627776) :
    Does Tryz.prog 166 [vM r c 1 g.length ca, vS 2 1 0 v.length cv] [(1, .ro (.ints g)), (2, .ro (.ints v))] 3 (Ret (valT (vatO r c g v)) 3) := by
  refine Does.intro TT Tryz.func166 rfl (by kernel_rfl) Zz Zz fun E hE => ?_
  have hgr := d_gramS r c g ca hl
  cases hG : gramB r c g with
  | false =>
    rw [hG] at hgr
    rw [vatO_no (.inl hG)]
    ((repeat' (first | refine stx ?_ | refine zqc (hgr) ?_ | (refine stq ?_ ?_ <;> (intro hc; ((try simp at hc) <;> try contradiction))) | fail)) <;> try (exfalso; omega))
    all_goals exact fin rfl w_3 [] (.tup [.one (.int 0), .one (.bool false)]) [] 3 ⟨rfl, rfl, rfl⟩ rfl ⟨trivial, trivial, rfl⟩ rfl
  | true =>
    rw [hG] at hgr
    obtain ⟨n, rfl, rfl, hn, hx, hnum, -⟩ := gramB_nat hG
    by_cases hv : v.length = n
    · subst hv
      have hm1 := fun cc => d_mulS 1 v.length v.length v.length v g cc ca hl' hl
      rw [vatO_yes hG rfl]
      cases hp : mulZ 1 v.length v.length v.length v g with
      | none =>
        rw [hp] at hm1
        ((repeat' (first | refine stx ?_ | refine zqc (hgr) ?_ | ((refine zqe (hm1 _) ?_); rintro w Hout n1 ⟨rfl, rfl, rfl⟩) | (refine stq ?_ ?_ <;> (intro hc; ((try simp at hc) <;> try contradiction))) | fail)) <;> try (exfalso; omega))
        all_goals exact fin rfl w_3 [] (.tup [.one (.int 0), .one (.bool false)]) [] 3 ⟨rfl, rfl, rfl⟩ rfl ⟨trivial, trivial, rfl⟩ rfl
      | some p =>
        rw [hp] at hm1
        have hpl := isM_le (mulZ_some hp).2.2.2
        have hm2 := fun cp cc => d_mulS 1 v.length v.length 1 p v cp cc (by omega) hl'
        rw [Option.bind_some]
        cases hq : mulZ 1 v.length v.length 1 p v with
        | none =>
          rw [hq] at hm2
          ((repeat' (first | refine stx ?_ | refine zqc (hgr) ?_ | ((refine zqe (hm1 _) ?_); rintro w Hout n1 ⟨c2, hc2, rfl, rfl, rfl⟩) | ((refine zqe (hm2 _ _) ?_); rintro w Hout n1 ⟨rfl, rfl, rfl⟩) | (refine stq ?_ ?_ <;> (intro hc; ((try simp at hc) <;> try contradiction))) | fail)) <;> try (exfalso; omega))
          all_goals exact fin rfl w_3 [] (.tup [.one (.int 0), .one (.bool false)]) [] 3 ⟨rfl, rfl, rfl⟩ rfl ⟨trivial, trivial, rfl⟩ rfl
        | some z =>
          rw [hq] at hm2
          have hz1 := mulZ_1 hq
          ((repeat' (first | refine stx ?_ | refine zqc (hgr) ?_ | ((refine zqe (hm1 _) ?_); rintro w Hout n1 ⟨c2, hc2, rfl, rfl, rfl⟩) | ((refine zqe (hm2 _ _) ?_); rintro w Hout n1 ⟨c4, hc4, rfl, rfl, rfl⟩) | (refine stq ?_ ?_ <;> (intro hc; ((try simp at hc) <;> try contradiction))) | fail)) <;> try (exfalso; omega))
          all_goals exact fin rfl w_3 [] (.tup [.one (.int (z.getD 0 0)), .one (.bool true)]) [] 3 ⟨rfl, rfl, rfl⟩ rfl ⟨trivial, trivial, rfl⟩ rfl
    · rw [vatO_no (.inr (by omega))]
      ((repeat' (first | refine stx ?_ | refine zqc (hgr) ?_ | (refine stq ?_ ?_ <;> (intro hc; ((try simp at hc) <;> try contradiction))) | fail)) <;> try (exfalso; omega))
      all_goals exact fin rfl w_3 [] (.tup [.one (.int 0), .one (.bool false)]) [] 3 ⟨rfl, rfl, rfl⟩ rfl ⟨trivial, trivial, rfl⟩ rfl
end Go.Proofs.YtekpamojojfplaaGreat
namespace Go.Proofs.YtekpamojojfplaaGreat
open Go.RowKit
theorem d_negated (xs : List Int) (n c : Nat) (hn : n = xs.length) (hl : xs.length ≤ 1000000) (hx : xs.all numB = true) : Does Tryz.prog 93 [vS 1 1 0 n c] [(1, .ro (.ints xs))] 2 (MadeI (xs.map fun x => -x) 2) := by
 subst hn
 refine Does.intro TT Tryz.func93 rfl (by kernel_rfl) Zz Zz fun E hE => ?_
 ((repeat' (first | refine stx ?_ | (refine stq ?_ ?_ <;> (intro hc; ((try simp at hc) <;> try contradiction))) | fail)) <;> try (exfalso; omega))
 refine w_G hE (fun x : Nat × Nat => x.1 ≤ xs.length ∧ x.1 ≤ x.2) (fun x => xs.length - x.1)
  (fun x => [(3, vS 2 1 0 x.1 x.2), (7, vS 1 1 0 xs.length c), (8, vI xs.length), (9, vI x.1)]) (fun x => [(1, .ro (.ints xs)), (2, .own 3 x.2 (.ints ((xs.take x.1).map fun x => -x)))]) 3 [] (0, 0) ⟨Nat.zero_le _, Nat.zero_le _⟩ ⟨w_1, w_2, rfl⟩ ?_
 rintro ⟨k, cap⟩ ⟨h1, h2⟩
 dsimp only at h1 h2
 have e1 := num_getD hx (0 + (k : Int).toNat)
 have e2 := num_getD hx k
 by_cases hk : k < xs.length
 ·have en : ((xs.take (k + 1)).map fun x => -x) = ((xs.take k).map fun x => -x) ++ [-(xs.getD (0 + (k : Int).toNat) 0)] := by
   rw [List.take_succ_eq_append_getElem hk, List.map_append]; simp [hk]
  have ek : ((xs.take k).map fun x => -x).length = k := by simp; omega
  ((repeat' (first | refine stx ?_ | (refine zqx ?_; intro cap hcap) | (refine stq ?_ ?_ <;> (intro hc; ((try simp at hc) <;> try contradiction))) | fail)) <;> try (exfalso; omega))
  refine ⟨[(2, 4)], (k + 1, cap), ⟨hk, by dsimp only at hcap ⊢; omega⟩, w_4, ⟨w_1, ⟨rfl, own_ints en.symm, trivial⟩, rfl⟩⟩
 ·obtain rfl : k = xs.length := by omega
  ((repeat' (first | refine stx ?_ | (refine stq ?_ ?_ <;> (intro hc; ((try simp at hc) <;> try contradiction))) | fail)) <;> try (exfalso; omega))
  refine fin rfl w_3 [] (vS 2 1 0 (xs.map fun x => -x).length cap) [(2, .own 3 cap (.ints (xs.map fun x => -x)))] 3 ⟨cap, by simpa using h2, rfl, rfl, rfl⟩ (by rw [List.length_map]; rfl) ⟨trivial, ⟨own_ints (by simp), trivial⟩, rfl⟩ rfl
end Go.Proofs.YtekpamojojfplaaGreat
namespace Go.Proofs.YtekpamojojfplaaGreat
open Go.RowKit
def partP (xs : List Int) (c : Nat) (is : List Nat) (i j : Nat) : List Int := pickR xs c (is.take i) ++ (xs.drop (is.getD i 0 * c)).take j
theorem own_litP {t : TypeId} {c : Nat} {x x' y : Int} {k k' a b cp : Nat} {m : Nat → Nat} (hx : x = x') (h : a = b) (hk : k' = m k := by rfl) : some (Blk.own t c (.lit [.int x, .int y, .sl k' 1 0 a cp])) = some ((Blk.own t c (.lit [.int x', .int y, .sl k 1 0 b cp])).ren m) := by subst hx h hk; rfl
theorem natsI_getD {is : List Nat} {i : Nat} : (natsI is).getD i 0 = ((is.getD i 0 : Nat) : Int) := by
  simp only [natsI, List.getD_eq_getElem?_getD, List.getElem?_map]
  cases is[i]? <;> simp
theorem range_getD {n i : Nat} (h : i < n) : (List.range n).getD i 0 = i := by rw [getD_in (by simpa using h)]; simp
end Go.Proofs.YtekpamojojfplaaGreat
namespace Go.Proofs.YtekpamojojfplaaGreat
open Go.RowKit
def prF (xs : List Int) (c k i j : Nat) : List Int := ldR xs c k i ++ (xs.drop (i * c)).take j
theorem prF_zero {xs : List Int} {c k i : Nat} : prF xs c k i 0 = ldR xs c k i := by simp [prF]
theorem prF_row {xs : List Int} {c k i : Nat} : prF xs c k i k = ldR xs c k (i + 1) := by rw [ldR_next]; rfl
theorem prF_next {xs : List Int} {r c k i j : Nat} (hx : xs.length = r * c) (hi : i < r) (hj : j < c) : prF xs c k i (j + 1) = prF xs c k i j ++ [xs.getD (i * c + j) 0] := by
  have h1 := row_in (c := c) hi
  have h2 : j < (xs.drop (i * c)).length := by rw [List.length_drop]; omega
  have e : xs.getD (i * c + j) 0 = (xs.drop (i * c))[j] := by rw [List.getElem_drop, getD_in (by omega)]
  rw [prF, prF, List.take_succ_eq_append_getElem h2, ← e, List.append_assoc]
theorem prF_len {xs : List Int} {r c k i j : Nat} (hx : xs.length = r * c) (hi : i < r) (hk : k ≤ c) (hj : j ≤ k) : (prF xs c k i j).length = i * k + j := by
  have h1 := row_in (c := c) hi
  rw [prF, List.length_append, ldR_len hk (by omega), List.length_take, List.length_drop]; omega
set_option maxRecDepth 100000 in
set_option maxHeartbeats 4000000 in
theorem d_partF (r c k : Nat) (xs : List Int) (ca cp cq n m1 m2 : Nat) (hn : n = xs.length) (hm1 : m1 = k) (hm2 : m2 = k) (hx : xs.length = r * c) (hr : r ≤ 24) (hc24 : c ≤ 24) (hkr : k ≤ r) (hkc : k ≤ c) :
    Does Tryz.prog 147 [vM r c 1 n ca, vS 2 1 0 m1 cp, vS 3 1 0 m2 cq] [(1, .ro (.ints xs)), (2, .ro (.ints (natsI (List.range k)))), (3, .ro (.ints (natsI (List.range k))))] 4 (FromR k k 3 (ldR xs c k k) 4) := by
  subst hn hm1 hm2
  refine Does.intro TT Tryz.func147 rfl (by kernel_rfl) Zz Zz fun E hE => ?_
  ((repeat' (first | refine stx ?_ | (refine stq ?_ ?_ <;> (intro hc; ((try simp at hc) <;> try contradiction))) | fail)) <;> try (exfalso; omega))
  refine awp_nil (k := 6) (f := 2) (sz := 1) (et := 3) (e0 := .ints []) Zz Zz Zz Zz (fun _ h => by cases h) ?_
  refine w_G hE (fun i : Nat × Nat => i.1 ≤ m2 ∧ (ldR xs c m2 i.1).length ≤ i.2) (fun i => m2 - i.1)
    (fun i => [(1, vS 2 1 0 m2 cp), (2, vS 3 1 0 m2 cq), (3, .one (.ptr 4 3 0 0)), (6, .one (.ptr 5 3 0 0)), (7, .one (.ptr 6 3 0 0)), (8, vI i.1)])
    (fun i => [(1, .ro (.ints xs)), (2, .ro (.ints (natsI (List.range m2)))), (3, .ro (.ints (natsI (List.range m2)))), (4, .own 26 1 (.lit [.int r, .int c, .sl 1 1 0 xs.length ca])), (5, .own 26 1 (.lit zeroM)), (6, .own 26 1 (.lit [.int m2, .int m2, .sl 7 1 0 (ldR xs c m2 i.1).length i.2])), (7, .own 3 i.2 (.ints (ldR xs c m2 i.1)))]) 8 [] (0, 0) ⟨Nat.zero_le _, Nat.zero_le _⟩ ⟨w_1, w_2, rfl⟩ ?_
  rintro ⟨i, cap⟩ ⟨hi, hcap⟩
  dsimp only at hi hcap
  have hxs : xs.length ≤ 576 := by rw [hx]; exact Nat.mul_le_mul hr hc24
  by_cases hik : i < m2
  · have hik2 : ¬ m2 ≤ i := by omega
    ((repeat' (first | refine stx ?_ | (refine stq ?_ ?_ <;> (intro hc; ((try simp at hc) <;> try contradiction))) | fail)) <;> try (exfalso; omega))
    refine w_G hE (fun x : Nat × Nat => x.1 ≤ m2 ∧ (prF xs c m2 i x.1).length ≤ x.2) (fun x => m2 - x.1)
      (fun x => [(1, vS 2 1 0 m2 cp), (2, vS 3 1 0 m2 cq), (3, .one (.ptr 4 3 0 0)), (6, .one (.ptr 5 3 0 0)), (7, .one (.ptr 6 3 0 0)), (8, vI i), (9, vI x.1)])
      (fun x => [(1, .ro (.ints xs)), (2, .ro (.ints (natsI (List.range m2)))), (3, .ro (.ints (natsI (List.range m2)))), (4, .own 26 1 (.lit [.int r, .int c, .sl 1 1 0 xs.length ca])), (5, .own 26 1 (.lit zeroM)), (6, .own 26 1 (.lit [.int m2, .int m2, .sl 7 1 0 (prF xs c m2 i x.1).length x.2])), (7, .own 3 x.2 (.ints (prF xs c m2 i x.1)))]) 8 [] (0, cap) ⟨Nat.zero_le _, by dsimp only; rw [prF_zero]; exact hcap⟩ (by rw [prF_zero]; exact ⟨w_1, w_2, rfl⟩) ?_
    rintro ⟨j, cap2⟩ ⟨hj, hcap2⟩
    dsimp only at hj hcap2
    have hir : i < r := by omega
    have hin := row_in (c := c) hir
    have hpl := prF_len hx hir hkc hj
    have hpb : i * m2 + j ≤ 24 * 24 + 24 := by have := Nat.mul_le_mul (show i ≤ 24 by omega) (show m2 ≤ 24 by omega); omega
    by_cases hjk : j < m2
    · have hjk2 : ¬ m2 ≤ j := by omega
      have hln1 : (natsI (List.range m2)).length = m2 := by rw [natsI_len, List.length_range]
      have e1 : (natsI (List.range m2)).getD (0 + (i : Int).toNat) 0 = (i : Int) := by rw [show 0 + (i : Int).toNat = i by omega, natsI_getD, range_getD hik]
      have e2 : (natsI (List.range m2)).getD (0 + (j : Int).toNat) 0 = (j : Int) := by rw [show 0 + (j : Int).toNat = j by omega, natsI_getD, range_getD hjk]
      have e3 : (i : Int) * c = ((i * c : Nat) : Int) := by simp
      have hcell := fun h1 h3 => d_cell12 r c (i : Int) j xs xs.length ca rfl h1 (by omega) h3 (by omega)
      have hcell := hcell (by rw [e3]; omega) (by rw [e3]; omega)
      rw [← e1, ← e2] at hcell
      have hnx := prF_next (k := m2) (j := j) hx hir (by omega)
      have ev : xs.getD (0 + ((natsI (List.range m2)).getD (0 + (i : Int).toNat) 0 * c + (natsI (List.range m2)).getD (0 + (j : Int).toNat) 0).toNat) 0 = xs.getD (i * c + j) 0 := by
        rw [e1, e2, e3]; congr 1; omega
      rw [← ev] at hnx
      ((repeat' (first | refine stp ?_ | (refine stq ?_ ?_ <;> (intro hc; ((try simp at hc) <;> try contradiction))) | fail)) <;> try (exfalso; omega))
      refine awp_held TM [(1, _), (2, _), (3, _), (4, _)] sb rfl (fun ρs => ?_)
      refine zt2 ?_
      refine zt3 ?_
      refine zt4 ?_
      refine zt5 ?_
      refine zt6 ?_
      refine zt7 ?_
      refine zt8 ?_
      refine zt9 ?_
      refine zt10 ?_
      refine w_u [0, 11] kr rfl ⟨?_, ?_, trivial⟩
      first | (refine zho ?_) | (refine zqy ?_; intro cap hcap) | refine zqb (hcell) ?_
      refine w_u [1, 11] kr rfl ⟨?_, ?_, trivial⟩
      first | (refine zho ?_) | (refine zqy ?_; intro cap hcap) | refine zqb (hcell) ?_
      refine w_u [11] kr rfl ⟨?_, trivial⟩
      first | (refine zho ?_) | (refine zqy ?_; intro cap hcap) | refine zqb (hcell) ?_
      refine w_u [12] kr rfl ⟨?_, trivial⟩
      first | (refine zho ?_) | (refine zqy ?_; intro cap hcap) | refine zqb (hcell) ?_
      refine w_u [13] kr rfl ⟨?_, trivial⟩
      first | (refine zho ?_) | (refine zqy ?_; intro cap hcap) | refine zqb (hcell) ?_
      refine w_u [14] kr rfl ⟨?_, trivial⟩
      first | (refine zho ?_) | (refine zqy ?_; intro cap hcap) | refine zqb (hcell) ?_
      refine w_u [15] kr rfl ⟨?_, trivial⟩
      first | (refine zho ?_) | (refine zqy ?_; intro cap hcap) | refine zqb (hcell) ?_
      refine w_v kr ?_
      rotate_left
      first | (refine zho ?_) | (refine zqy ?_; intro cap hcap) | refine zqb (hcell) ?_
      refine w_u [1, 12] kr rfl ⟨?_, ?_, trivial⟩
      first | (refine zho ?_) | (refine zqy ?_; intro cap hcap) | refine zqb (hcell) ?_
      refine w_u [12] kr rfl ⟨?_, trivial⟩
      first | (refine zho ?_) | (refine zqy ?_; intro cap hcap) | refine zqb (hcell) ?_
      refine w_u [13] kr rfl ⟨?_, trivial⟩
      first | (refine zho ?_) | (refine zqy ?_; intro cap hcap) | refine zqb (hcell) ?_
      refine w_u [14] kr rfl ⟨?_, trivial⟩
      first | (refine zho ?_) | (refine zqy ?_; intro cap hcap) | refine zqb (hcell) ?_
      refine w_u [15] kr rfl ⟨?_, trivial⟩
      first | (refine zho ?_) | (refine zqy ?_; intro cap hcap) | refine zqb (hcell) ?_
      refine w_v kr ?_
      rotate_left
      first | (refine zho ?_) | (refine zqy ?_; intro cap hcap) | refine zqb (hcell) ?_
      refine w_u [1] kr rfl ⟨?_, trivial⟩
      first | (refine zho ?_) | (refine zqy ?_; intro cap hcap) | refine zqb (hcell) ?_
      refine w_u [13] kr rfl ⟨?_, trivial⟩
      first | (refine zho ?_) | (refine zqy ?_; intro cap hcap) | refine zqb (hcell) ?_
      refine w_u [14] kr rfl ⟨?_, trivial⟩
      first | (refine zho ?_) | (refine zqy ?_; intro cap hcap) | refine zqb (hcell) ?_
      refine w_u [15] kr rfl ⟨?_, trivial⟩
      first | (refine zho ?_) | (refine zqy ?_; intro cap hcap) | refine zqb (hcell) ?_
      refine w_v kr ?_
      rotate_left
      first | (refine zho ?_) | (refine zqy ?_; intro cap hcap) | refine zqb (hcell) ?_
      refine w_u [0, 12] kr rfl ⟨?_, ?_, trivial⟩
      first | (refine zho ?_) | (refine zqy ?_; intro cap hcap) | refine zqb (hcell) ?_
      refine w_u [1, 12] kr rfl ⟨?_, ?_, trivial⟩
      first | (refine zho ?_) | (refine zqy ?_; intro cap hcap) | refine zqb (hcell) ?_
      refine w_u [12] kr rfl ⟨?_, trivial⟩
      first | (refine zho ?_) | (refine zqy ?_; intro cap hcap) | refine zqb (hcell) ?_
      refine w_u [13] kr rfl ⟨?_, trivial⟩
      first | (refine zho ?_) | (refine zqy ?_; intro cap hcap) | refine zqb (hcell) ?_
      refine w_u [14] kr rfl ⟨?_, trivial⟩
      first | (refine zho ?_) | (refine zqy ?_; intro cap hcap) | refine zqb (hcell) ?_
      refine w_u [15] kr rfl ⟨?_, trivial⟩
      first | (refine zho ?_) | (refine zqy ?_; intro cap hcap) | refine zqb (hcell) ?_
      refine w_v kr ?_
      rotate_left
      first | (refine zho ?_) | (refine zqy ?_; intro cap hcap) | refine zqb (hcell) ?_
      refine w_u [1] kr rfl ⟨?_, trivial⟩
      first | (refine zho ?_) | (refine zqy ?_; intro cap hcap) | refine zqb (hcell) ?_
      refine w_u [13] kr rfl ⟨?_, trivial⟩
      first | (refine zho ?_) | (refine zqy ?_; intro cap hcap) | refine zqb (hcell) ?_
      refine w_u [14] kr rfl ⟨?_, trivial⟩
      first | (refine zho ?_) | (refine zqy ?_; intro cap hcap) | refine zqb (hcell) ?_
      refine w_u [15] kr rfl ⟨?_, trivial⟩
      first | (refine zho ?_) | (refine zqy ?_; intro cap hcap) | refine zqb (hcell) ?_
      refine w_v kr ?_
      rotate_left
      first | (refine zho ?_) | (refine zqy ?_; intro cap hcap) | refine zqb (hcell) ?_
      refine w_u [0] kr rfl ⟨?_, trivial⟩
      first | (refine zho ?_) | (refine zqy ?_; intro cap hcap) | refine zqb (hcell) ?_
      refine w_u [1] kr rfl ⟨?_, trivial⟩
      first | (refine zho ?_) | (refine zqy ?_; intro cap hcap) | refine zqb (hcell) ?_
      refine w_u [13] kr rfl ⟨?_, trivial⟩
      first | (refine zho ?_) | (refine zqy ?_; intro cap hcap) | refine zqb (hcell) ?_
      refine w_u [14] kr rfl ⟨?_, trivial⟩
      first | (refine zho ?_) | (refine zqy ?_; intro cap hcap) | refine zqb (hcell) ?_
      refine w_u [15] kr rfl ⟨?_, trivial⟩
      first | (refine zho ?_) | (refine zqy ?_; intro cap hcap) | refine zqb (hcell) ?_
      refine w_v kr ?_
      rotate_left
      all_goals ((repeat' (first | refine stx ?_ | (refine stq ?_ ?_ <;> (intro hc; ((try simp at hc) <;> try contradiction))) | fail)) <;> try (exfalso; omega))
      all_goals
        have el : (prF xs c m2 i j).length + 1 = (prF xs c m2 i (j + 1)).length := by rw [hnx]; simp
        exact ⟨[(7, 9)], (j + 1, cap), ⟨by dsimp only; omega, by dsimp only at hcap ⊢; omega⟩, w_4, ⟨w_1, ⟨rfl, rfl, rfl, rfl, rfl, own_litP rfl el, own_ints hnx.symm, trivial⟩, rfl⟩⟩
    · obtain rfl : j = m2 := by omega
      ((repeat' (first | refine stx ?_ | (refine stq ?_ ?_ <;> (intro hc; ((try simp at hc) <;> try contradiction))) | fail)) <;> try (exfalso; omega))
      have er := prF_row (xs := xs) (c := c) (k := j) (i := i)
      exact ⟨[], (i + 1, cap2), ⟨hik, by dsimp only; rw [← er]; exact hcap2⟩, w_4, by dsimp only; rw [← er]; exact ⟨w_1, w_2, rfl⟩⟩
  · obtain rfl : i = m2 := by omega
    ((repeat' (first | refine stx ?_ | (refine stq ?_ ?_ <;> (intro hc; ((try simp at hc) <;> try contradiction))) | fail)) <;> try (exfalso; omega))
    exact fin rfl w_3 [(4, 7)] (.agg [.int i, .int i, .sl 4 1 0 (ldR xs c i i).length cap]) [(4, .own 3 cap (.ints (ldR xs c i i)))] 5 ⟨cap, hcap, rfl, rfl, rfl⟩ rfl ⟨trivial, ⟨rfl, trivial⟩, rfl⟩ rfl
end Go.Proofs.YtekpamojojfplaaGreat
