/-
  TEXTS OF THE PROOF, put together: bMinO, bAcc.
-/
import Derived.Test.YtekpamojojfplaaGreatB31
import Derived.Test.YtekpamojojfplaaGreatB32
import Derived.Test.YtekpamojojfplaaGreatB11
import Derived.Test.YtekpamojojfplaaGreatB10
import Derived.Test.YtekpamojojfplaaGreatB07
set_option linter.unusedVariables false
set_option linter.unusedSimpArgs false
namespace Go.Proofs.YtekpamojojfplaaGreat
open Go.RowKit
theorem minO_no {r c : Int} {g : List Int} (h : defB r c g = false ∨ r = 0) : minO r c g = none := by
  unfold minO
  rw [if_neg]
  rintro ⟨h1, h2⟩
  rcases h with h | h
  · rw [h] at h1; cases h1
  · exact h2 h
theorem row0 {l : List Row} {v : List Int} {t : List (List Int)} (h : rowsX l = v :: t) : 0 < l.length ∧ (l.getD (0 + (0 : Int).toNat) rowD).xs = v ∧ (l[0]?.getD rowD).xs = v := by
  cases l with
  | nil => cases h
  | cons r l =>
    injection h with h1 h2
    exact ⟨by simp, h1, h1⟩
theorem shst_no {r c : Int} {g : List Int} (h : minO r c g = none) : shstO r c g = none := by unfold shstO; rw [h]
theorem shst_yes {r c : Int} {g : List Int} {z : Int} (h : minO r c g = some z) : shstO r c g = shO r c g z := by unfold shstO; rw [h]
set_option maxRecDepth 100000 in
set_option maxHeartbeats 4000000 in
theorem d_minOI (r c : Int) (g : List Int) (ca : Nat) (hl : g.length ≤ 1099511627776) (hca : g.length ≤ ca) : Does Tryz.prog 126 [vM r c 1 g.length ca] [(1, .ro (.ints g))] 2 (Ret (valT (minO r c g)) 2) := by
 have hdf := d_defI r c g ca hl hca
 refine Does.intro TT Tryz.func126 rfl (by kernel_rfl) Zz Zz fun E hE => ?_
 cases hD : defB r c g with
 | false =>
  rw [hD] at hdf
  rw [minO_no (.inl hD)]
  ((repeat' (first | refine stx ?_ | refine zqc (hdf) ?_ | (refine stq ?_ ?_ <;> (intro hc; ((try simp at hc) <;> try contradiction))) | fail)) <;> try (exfalso; omega))
  all_goals exact fin rfl w_3 [] (.tup [.one (.int 0), .one (.bool false)]) [] 2 ⟨rfl, rfl, rfl⟩ rfl ⟨trivial, trivial, rfl⟩ rfl
 | true =>
  rw [hD] at hdf
  obtain ⟨n, rfl, rfl, hn, hx, hnum, -, -, -⟩ := defB_all hD
  by_cases h0 : n = 0
  ·subst h0
   rw [minO_no (r := ((0 : Nat) : Int)) (.inr rfl)]
   ((repeat' (first | refine stx ?_ | refine zqc (hdf) ?_ | (refine stq ?_ ?_ <;> (intro hc; ((try simp at hc) <;> try contradiction))) | fail)) <;> try (exfalso; omega))
   all_goals exact fin rfl w_3 [] (.tup [.one (.int 0), .one (.bool false)]) [] 2 ⟨rfl, rfl, rfl⟩ rfl ⟨trivial, trivial, rfl⟩ rfl
  ·have hO : minO n n g = headO n n g (shO n n g (mdTo g n n)) := by unfold minO; rw [if_pos ⟨hD, by omega⟩, Int.toNat_natCast]
   rw [hO]
   have hnn : n * n ≤ 36 := Nat.mul_le_mul hn hn
   have hat0 := d_atN n n 0 0 g.length ca g rfl hx (by omega) (by omega) (by omega) (by omega)
   have e0 : g.getD (0 * n + 0) 0 = mdTo g n 0 := by rw [Nat.zero_mul]; rfl
   rw [e0] at hat0
   ((repeat' (first | refine stx ?_ | refine zqc (hdf) ?_ | refine zqc (hat0) ?_ | (refine stq ?_ ?_ <;> (intro hc; ((try simp at hc) <;> try contradiction))) | fail)) <;> try (exfalso; omega))
   refine w_G hE (fun i : Nat => i ≤ n) (fun i => n - i)
    (fun i => [(1, .one (.ptr 2 3 0 0)), (4, vI (mdTo g n i)), (5, vI i)])
    (fun _ => [(1, .ro (.ints g)), (2, .own 26 1 (.lit [.int n, .int n, .sl 1 1 0 g.length ca]))]) 3 [] 0 (Nat.zero_le _) ⟨w_1, w_2, rfl⟩ ?_
   intro i hi
   by_cases hin : i < n
   ·have hin2 : ¬ n ≤ i := by omega
    have hat := d_atN n n i i g.length ca g rfl hx (by omega) (by omega) hin hin
    have hmd := mdTo_bd hnum (n := n) i
    have hnx : mdTo g n (i + 1) = min (mdTo g n i) (g.getD (i * n + i) 0) := rfl
    ((repeat' (first | refine stx ?_ | refine zqc (hat) ?_ | (refine stq ?_ ?_ <;> (intro hc; ((try simp at hc) <;> try contradiction))) | fail)) <;> try (exfalso; omega))
    all_goals refine ⟨[], i + 1, hin, w_4, ⟨⟨rfl, congrArg some (congrArg vI ?_), rfl, trivial⟩, ⟨rfl, rfl, trivial⟩, rfl⟩⟩
    all_goals (rw [hnx]; (try simp only [Int.min_def]); (repeat' split) <;> omega)
   ·obtain rfl : i = n := by omega
    have hsh := d_shI i i g (mdTo g i i) ca hl hca
    cases hS : shO i i g (mdTo g i i) with
    | none =>
     rw [hS] at hsh
     ((repeat' (first | refine stx ?_ | ((refine zqe (hsh) ?_); rintro v Hout n1 ⟨rfl, rfl, rfl⟩) | (refine stq ?_ ?_ <;> (intro hc; ((try simp at hc) <;> try contradiction))) | fail)) <;> try (exfalso; omega))
     all_goals exact fin rfl w_3 [] (.tup [.one (.int 0), .one (.bool false)]) [] 2 ⟨rfl, rfl, rfl⟩ rfl ⟨trivial, trivial, rfl⟩ rfl
    | some S =>
     rw [hS] at hsh
     cases S with
     | nil =>
      ((repeat' (first | refine stx ?_ | ((refine zqe (hsh) ?_); rintro v Hout n1 ⟨l, cap, hlx, rfl, rfl, rfl⟩; obtain rfl : l = [] := by simpa [rowsX] using hlx) | (refine stq ?_ ?_ <;> (intro hc; ((try simp at hc) <;> try contradiction))) | fail)) <;> try (exfalso; omega))
      all_goals exact fin rfl w_3 [] (.tup [.one (.int 0), .one (.bool false)]) [] 2 ⟨rfl, rfl, rfl⟩ rfl ⟨trivial, trivial, rfl⟩ rfl
     | cons u S' =>
      have hul := (sh_len hS (v := u) (by simp)).1
      have hva := fun cv => d_valI i i g u ca cv hl (by omega)
      ((repeat' (first | refine stp ?_ | ((refine zqe (hsh) ?_); rintro v Hout n1 ⟨l, cap, hlx, rfl, rfl, rfl⟩; obtain ⟨hl0, hl1, hl2⟩ := row0 hlx; have hl3 : l ≠ [] := fun h => by rw [h] at hl0; simp at hl0) | (refine stq ?_ ?_ <;> (intro hc; ((try simp at hc) <;> try contradiction))) | fail)) <;> try (exfalso; omega))
      have hva2 := fun m cv (hm : m = (l.getD (0 + (0 : Int).toNat) rowD).xs.length) => (by subst hm; rw [hl1]; exact hva cv : Does Tryz.prog 95 [vM i i 1 g.length ca, vS 2 1 0 m cv] [(1, .ro (.ints g)), (2, .ro (.ints (l.getD (0 + (0 : Int).toNat) rowD).xs))] 3 (Ret (valT (vatO i i g u)) 3))
      refine awp_held TM [(2, _), (4, _)] sb rfl (fun ρs => ?_)
      refine zt0 ?_
      refine zt1 ?_
      refine zt2 ?_
      refine w_u [3] kr rfl ⟨?_, trivial⟩
      first | (refine zho ?_) | (refine zqf (hva2 _ _ rfl) ?_; rintro v Hout n1 ⟨rfl, rfl, rfl⟩; refine ⟨sb, ?_⟩)
      refine w_u [4] kr rfl ⟨?_, trivial⟩
      first | (refine zho ?_) | (refine zqf (hva2 _ _ rfl) ?_; rintro v Hout n1 ⟨rfl, rfl, rfl⟩; refine ⟨sb, ?_⟩)
      refine zt5 ?_
      refine zt6 ?_
      refine zt7 ?_
      refine zt8 ?_
      refine zt9 ?_
      refine w_v kr ?_
      rotate_left
      all_goals ((repeat' (first | refine stx ?_ | (refine stq ?_ ?_ <;> (intro hc; ((try simp at hc) <;> try contradiction))) | fail)) <;> try (exfalso; omega))
      all_goals exact fin rfl w_3 [] (.tup [.one (.int ((vatO i i g u).getD 0)), .one (.bool (vatO i i g u).isSome)]) [] 2 ⟨rfl, rfl, rfl⟩ rfl ⟨trivial, trivial, rfl⟩ rfl
set_option maxRecDepth 100000 in
set_option maxHeartbeats 4000000 in
theorem d_minOS (r c : Int) (g : List Int) (ca : Nat) (hl : g.length ≤ 1099511627776) : Does Tryz.prog 129 [vM r c 1 g.length ca] [(1, .ro (.ints g))] 2 (Ret (valT (minO r c g)) 2) := by
 have hdf := d_defS r c g ca hl
 refine Does.intro TT Tryz.func129 rfl (by kernel_rfl) Zz Zz fun E hE => ?_
 cases hD : defB r c g with
 | false =>
  rw [hD] at hdf
  rw [minO_no (.inl hD)]
  ((repeat' (first | refine stx ?_ | refine zqc (hdf) ?_ | (refine stq ?_ ?_ <;> (intro hc; ((try simp at hc) <;> try contradiction))) | fail)) <;> try (exfalso; omega))
  all_goals exact fin rfl w_3 [] (.tup [.one (.int 0), .one (.bool false)]) [] 2 ⟨rfl, rfl, rfl⟩ rfl ⟨trivial, trivial, rfl⟩ rfl
 | true =>
  rw [hD] at hdf
  obtain ⟨n, rfl, rfl, hn, hx, hnum, -, -, -⟩ := defB_all hD
  by_cases h0 : n = 0
  ·subst h0
   rw [minO_no (r := ((0 : Nat) : Int)) (.inr rfl)]
   ((repeat' (first | refine stx ?_ | refine zqc (hdf) ?_ | (refine stq ?_ ?_ <;> (intro hc; ((try simp at hc) <;> try contradiction))) | fail)) <;> try (exfalso; omega))
   all_goals exact fin rfl w_3 [] (.tup [.one (.int 0), .one (.bool false)]) [] 2 ⟨rfl, rfl, rfl⟩ rfl ⟨trivial, trivial, rfl⟩ rfl
  ·have hO : minO n n g = headO n n g (shO n n g (mdTo g n n)) := by unfold minO; rw [if_pos ⟨hD, by omega⟩, Int.toNat_natCast]
   rw [hO]
   have hnn : n * n ≤ 36 := Nat.mul_le_mul hn hn
   have hat0 := d_cellH n n 0 0 g.length ca g rfl hx (by omega) (by omega) (by omega) (by omega)
   have e0 : g.getD (0 * n + 0) 0 = mdTo g n 1 := by
    rw [show mdTo g n 1 = min (g.getD 0 0) (g.getD (0 * n + 0) 0) from rfl, Nat.zero_mul, Nat.zero_add]; omega
   rw [e0] at hat0
   ((repeat' (first | refine stx ?_ | refine zqc (hdf) ?_ | refine zqc (hat0) ?_ | (refine stq ?_ ?_ <;> (intro hc; ((try simp at hc) <;> try contradiction))) | fail)) <;> try (exfalso; omega))
   refine w_G hE (fun i : Nat => 1 ≤ i ∧ i ≤ n) (fun i => n - i)
    (fun i => [(1, .one (.ptr 2 3 0 0)), (4, vI (mdTo g n i)), (5, vI i)])
    (fun _ => [(1, .ro (.ints g)), (2, .own 26 1 (.lit [.int n, .int n, .sl 1 1 0 g.length ca]))]) 3 [] 1 ⟨Nat.le_refl _, by omega⟩ ⟨w_1, w_2, rfl⟩ ?_
   rintro i ⟨hi1, hi⟩
   by_cases hin : i < n
   ·have hin2 : ¬ n ≤ i := by omega
    have hat := d_cellH n n i i g.length ca g rfl hx (by omega) (by omega) hin hin
    have hmd := mdTo_bd hnum (n := n) i
    have hnx : mdTo g n (i + 1) = min (mdTo g n i) (g.getD (i * n + i) 0) := rfl
    ((repeat' (first | refine stx ?_ | refine zqc (hat) ?_ | (refine stq ?_ ?_ <;> (intro hc; ((try simp at hc) <;> try contradiction))) | fail)) <;> try (exfalso; omega))
    all_goals refine ⟨[], i + 1, ⟨by omega, hin⟩, w_4, ⟨⟨rfl, congrArg some (congrArg vI ?_), rfl, trivial⟩, ⟨rfl, rfl, trivial⟩, rfl⟩⟩
    all_goals (rw [hnx]; (try simp only [Int.min_def]); (repeat' split) <;> omega)
   ·obtain rfl : i = n := by omega
    have hsh := d_shS i i g (mdTo g i i) ca hl
    cases hS : shO i i g (mdTo g i i) with
    | none =>
     rw [hS] at hsh
     ((repeat' (first | refine stx ?_ | ((refine zqe (hsh) ?_); rintro v Hout n1 ⟨rfl, rfl, rfl⟩) | (refine stq ?_ ?_ <;> (intro hc; ((try simp at hc) <;> try contradiction))) | fail)) <;> try (exfalso; omega))
     all_goals exact fin rfl w_3 [] (.tup [.one (.int 0), .one (.bool false)]) [] 2 ⟨rfl, rfl, rfl⟩ rfl ⟨trivial, trivial, rfl⟩ rfl
    | some S =>
     rw [hS] at hsh
     cases S with
     | nil =>
      ((repeat' (first | refine stx ?_ | ((refine zqe (hsh) ?_); rintro v Hout n1 ⟨l, cap, hlx, rfl, rfl, rfl⟩; obtain rfl : l = [] := by simpa [rowsX] using hlx) | (refine stq ?_ ?_ <;> (intro hc; ((try simp at hc) <;> try contradiction))) | fail)) <;> try (exfalso; omega))
      all_goals exact fin rfl w_3 [] (.tup [.one (.int 0), .one (.bool false)]) [] 2 ⟨rfl, rfl, rfl⟩ rfl ⟨trivial, trivial, rfl⟩ rfl
     | cons u S' =>
      have hul := (sh_len hS (v := u) (by simp)).1
      have hva := fun cv => d_valS i i g u ca cv hl (by omega)
      ((repeat' (first | refine stp ?_ | ((refine zqe (hsh) ?_); rintro v Hout n1 ⟨l, cap, hlx, rfl, rfl, rfl⟩; obtain ⟨hl0, hl1, hl2⟩ := row0 hlx; have hl3 : l ≠ [] := fun h => by rw [h] at hl0; simp at hl0) | (refine stq ?_ ?_ <;> (intro hc; ((try simp at hc) <;> try contradiction))) | fail)) <;> try (exfalso; omega))
      have hva2 := fun m cv (hm : m = (l.getD (0 + (0 : Int).toNat) rowD).xs.length) => (by subst hm; rw [hl1]; exact hva cv : Does Tryz.prog 166 [vM i i 1 g.length ca, vS 2 1 0 m cv] [(1, .ro (.ints g)), (2, .ro (.ints (l.getD (0 + (0 : Int).toNat) rowD).xs))] 3 (Ret (valT (vatO i i g u)) 3))
      refine awp_held TM [(2, _), (4, _)] sb rfl (fun ρs => ?_)
      refine zt0 ?_
      refine zt1 ?_
      refine zt2 ?_
      refine w_u [3] kr rfl ⟨?_, trivial⟩
      first | (refine zho ?_) | (refine zqf (hva2 _ _ rfl) ?_; rintro v Hout n1 ⟨rfl, rfl, rfl⟩; refine ⟨sb, ?_⟩)
      refine w_u [4] kr rfl ⟨?_, trivial⟩
      first | (refine zho ?_) | (refine zqf (hva2 _ _ rfl) ?_; rintro v Hout n1 ⟨rfl, rfl, rfl⟩; refine ⟨sb, ?_⟩)
      refine zt5 ?_
      refine zt6 ?_
      refine zt7 ?_
      refine zt8 ?_
      refine zt9 ?_
      refine w_v kr ?_
      rotate_left
      all_goals ((repeat' (first | refine stx ?_ | (refine stq ?_ ?_ <;> (intro hc; ((try simp at hc) <;> try contradiction))) | fail)) <;> try (exfalso; omega))
      all_goals exact fin rfl w_3 [] (.tup [.one (.int ((vatO i i g u).getD 0)), .one (.bool (vatO i i g u).isSome)]) [] 2 ⟨rfl, rfl, rfl⟩ rfl ⟨trivial, trivial, rfl⟩ rfl
set_option maxHeartbeats 4000000 in
theorem d_shstI (r c : Int) (g : List Int) (ca : Nat) (hl : g.length ≤ 1099511627776) (hca : g.length ≤ ca) : Does Tryz.prog 76 [vM r c 1 g.length ca] [(1, .ro (.ints g))] 2 (PtsR 24 3 (shstO r c g) 2) := by
 have hm := d_minOI r c g ca hl hca
 have hsh := fun z => d_shI r c g z ca hl hca
 refine Does.intro TT Tryz.func76 rfl (by kernel_rfl) Zz Zz fun E hE => ?_
 cases hM : minO r c g with
 | none =>
  rw [shst_no hM]
  rw [hM] at hm 
  ((repeat' (first | refine stx ?_ | ((refine zqe (hm) ?_); rintro v Hout n1 ⟨rfl, rfl, rfl⟩) | (refine stq ?_ ?_ <;> (intro hc; ((try simp at hc) <;> try contradiction))) | fail)) <;> try (exfalso; omega))
  all_goals exact fin rfl w_3 [(2, 3)] (.tup [.one (.sl 2 1 0 0 0), .one (.bool false)]) [(2, .own 24 0 (.rows false true []))] 3 ⟨rfl, rfl, rfl⟩ rfl ⟨trivial, ⟨rfl, trivial⟩, rfl⟩ rfl
 | some z =>
  rw [hM] at hm
  have hsh := hsh z
  rw [shst_yes hM] 
  cases hS : shO r c g z with
  | none =>
   rw [hS] at hsh
   ((repeat' (first | refine stx ?_ | ((refine zqe (hm) ?_); rintro v Hout n1 ⟨rfl, rfl, rfl⟩) | ((refine zqe (hsh) ?_); rintro v Hout n1 ⟨rfl, rfl, rfl⟩) | (refine stq ?_ ?_ <;> (intro hc; ((try simp at hc) <;> try contradiction))) | fail)) <;> try (exfalso; omega))
   all_goals exact fin rfl w_3 [(2, 3)] (.tup [.one (.sl 2 1 0 0 0), .one (.bool false)]) [(2, .own 24 0 (.rows false true []))] 3 ⟨rfl, rfl, rfl⟩ rfl ⟨trivial, ⟨rfl, trivial⟩, rfl⟩ rfl
  | some S =>
   rw [hS] at hsh
   ((repeat' (first | refine stx ?_ | ((refine zqe (hm) ?_); rintro v Hout n1 ⟨rfl, rfl, rfl⟩) | ((refine zqe (hsh) ?_); rintro v Hout n1 ⟨l, cap, hlx, rfl, rfl, rfl⟩) | (refine stq ?_ ?_ <;> (intro hc; ((try simp at hc) <;> try contradiction))) | fail)) <;> try (exfalso; omega))
   all_goals exact fin rfl w_3 [(2, 3), (3, 4)] (.tup [.one (.sl 2 1 0 l.length cap), .one (.bool true)]) [(2, .own 24 cap (.rows false true l)), (3, .tok 3 false l)] 4 ⟨l, cap, hlx, rfl, rfl, rfl⟩ rfl ⟨trivial, ⟨rfl, rfl, trivial⟩, rfl⟩ rfl
set_option maxHeartbeats 4000000 in
theorem d_shstS (r c : Int) (g : List Int) (ca : Nat) (hl : g.length ≤ 1099511627776) : Does Tryz.prog 81 [vM r c 1 g.length ca] [(1, .ro (.ints g))] 2 (PtsR 24 3 (shstO r c g) 2) := by
 have hm := d_minOS r c g ca hl
 have hsh := fun z => d_shS r c g z ca hl
 refine Does.intro TT Tryz.func81 rfl (by kernel_rfl) Zz Zz fun E hE => ?_
 cases hM : minO r c g with
 | none =>
  rw [shst_no hM]
  rw [hM] at hm 
  ((repeat' (first | refine stx ?_ | ((refine zqe (hm) ?_); rintro v Hout n1 ⟨rfl, rfl, rfl⟩) | (refine stq ?_ ?_ <;> (intro hc; ((try simp at hc) <;> try contradiction))) | fail)) <;> try (exfalso; omega))
  all_goals exact fin rfl w_3 [(2, 3)] (.tup [.one (.sl 2 1 0 0 0), .one (.bool false)]) [(2, .own 24 0 (.rows false true []))] 3 ⟨rfl, rfl, rfl⟩ rfl ⟨trivial, ⟨rfl, trivial⟩, rfl⟩ rfl
 | some z =>
  rw [hM] at hm
  have hsh := hsh z
  rw [shst_yes hM] 
  cases hS : shO r c g z with
  | none =>
   rw [hS] at hsh
   ((repeat' (first | refine stx ?_ | ((refine zqe (hm) ?_); rintro v Hout n1 ⟨rfl, rfl, rfl⟩) | ((refine zqe (hsh) ?_); rintro v Hout n1 ⟨rfl, rfl, rfl⟩) | (refine stq ?_ ?_ <;> (intro hc; ((try simp at hc) <;> try contradiction))) | fail)) <;> try (exfalso; omega))
   all_goals exact fin rfl w_3 [(2, 3)] (.tup [.one (.sl 2 1 0 0 0), .one (.bool false)]) [(2, .own 24 0 (.rows false true []))] 3 ⟨rfl, rfl, rfl⟩ rfl ⟨trivial, ⟨rfl, trivial⟩, rfl⟩ rfl
  | some S =>
   rw [hS] at hsh
   ((repeat' (first | refine stx ?_ | ((refine zqe (hm) ?_); rintro v Hout n1 ⟨rfl, rfl, rfl⟩) | ((refine zqe (hsh) ?_); rintro v Hout n1 ⟨l, cap, hlx, rfl, rfl, rfl⟩) | (refine stq ?_ ?_ <;> (intro hc; ((try simp at hc) <;> try contradiction))) | fail)) <;> try (exfalso; omega))
   all_goals exact fin rfl w_3 [(2, 3), (3, 4)] (.tup [.one (.sl 2 1 0 l.length cap), .one (.bool true)]) [(2, .own 24 cap (.rows false true l)), (3, .tok 3 false l)] 4 ⟨l, cap, hlx, rfl, rfl, rfl⟩ rfl ⟨trivial, ⟨rfl, rfl, trivial⟩, rfl⟩ rfl
end Go.Proofs.YtekpamojojfplaaGreat
namespace Go.Proofs.YtekpamojojfplaaGreat
open Go.RowKit
theorem own_i2A {t : TypeId} {c : Nat} {l l' : List RP} {m : Nat → Nat} (h : l = l') : some (Blk.own t c (.i2 l)) = some ((Blk.own t c (.i2 l')).ren m) := by subst h; rfl
def psX (l : List Row) : List (List RP) := l.map Row.ps
def AccR (tr t : TypeId) (o : Option (List (List RP) × List RP)) (k : Nat) (v : AV) (Hout : List (Nat × Blk)) (n1 : Nat) : Prop := match o with
  | none => v = .tup [.agg [.sl 0 1 0 0 0, .sl 0 2 0 0 0], .one (.bool false)] ∧ Hout = [] ∧ n1 = k
  | some st => ∃ l c1 c2, psX l = st.1 ∧ v = .tup [.agg [.sl k 1 0 l.length c1, .sl (k + 1) 2 0 st.2.length c2], .one (.bool true)] ∧ Hout = [(k, .own tr c1 (.rows true true l)), (k + 1, .own t c2 (.i2 st.2)), (k + 2, .tok t true l)] ∧ n1 = k + 3
set_option maxRecDepth 100000 in
set_option maxHeartbeats 16000000 in
theorem d_accI (n : Nat) (xs : List Int) (ca m : Nat) (hm : m = xs.length) (hx : xs.length = n * n) (hn : n ≤ 24) : Does Tryz.prog 161 [vM n n 1 m ca] [(1, .ro (.ints xs))] 2 (AccR 124 129 (acTo xs n n) 2) := by
 subst hm
 refine Does.intro TT Tryz.func161 rfl (by kernel_rfl) Zz Zz fun E hE => ?_
 ((repeat' (first | refine stx ?_ | (refine stq ?_ ?_ <;> (intro hc; ((try simp at hc) <;> try contradiction))) | fail)) <;> try (exfalso; omega))
 refine awp_nil (k := 4) (f := 0) (sz := 1) (et := 124) (e0 := .rows true true []) Zz Zz Zz Zz (fun _ h => by cases h) ?_
 refine awp_nil (k := 4) (f := 1) (sz := 2) (et := 129) (e0 := .i2 []) Zz Zz Zz Zz (fun _ h => by cases h) ?_
 ((first | refine awpL_ghost (Ghost.newTok 129 true) ?_ | refine awp_ghost (Ghost.newTok 129 true) ?_ | refine awpH_ghost (Ghost.newTok 129 true) ?_ | refine awpHop_ghost (Ghost.newTok 129 true) ?_); rintro _ _ ⟨rfl, rfl⟩)
 refine w_G hE (fun x : Nat × List Row × List RP × Nat × Nat => x.1 ≤ n ∧ acTo xs n x.1 = some (psX x.2.1, x.2.2.1)) (fun x => n - x.1)
  (fun x => [(1, .one (.ptr 2 3 0 0)), (2, .one (.ptr 3 2 0 0)), (4, .one (.ptr 4 2 0 0)), (5, vI x.1)])
  (fun x => [(1, .ro (.ints xs)), (2, .own 26 1 (.lit [.int n, .int n, .sl 1 1 0 xs.length ca])), (3, .own 142 1 (.lit [.sl 0 1 0 0 0, .sl 0 2 0 0 0])), (4, .own 142 1 (.lit [.sl 5 1 0 x.2.1.length x.2.2.2.1, .sl 6 2 0 x.2.2.1.length x.2.2.2.2])), (5, .own 124 x.2.2.2.1 (.rows true true x.2.1)), (6, .own 129 x.2.2.2.2 (.i2 x.2.2.1)), (7, .tok 129 true x.2.1)]) 8 [] (0, [], [], 0, 0) ⟨Nat.zero_le _, rfl⟩ ⟨w_1, w_2, rfl⟩ ?_
 rintro ⟨i, l, sq, c1, c2⟩ ⟨hi, hac⟩
 dsimp only at hi hac
 obtain ⟨len1, len2, len3⟩ := acTo_len hac
 dsimp only at len1 len2 len3
 have hn2 : xs.length ≤ 576 := by rw [hx]; exact Nat.mul_le_mul hn hn
 have hpl : ∀ p, p < i → (l.getD p rowD).ps = (psX l).getD p [] ∧ (l.getD p rowD).ps.length = p := fun p hp => by
  have e : (l.getD p rowD).ps = (psX l).getD p [] := by
   have : p < l.length := by rw [psX, List.length_map] at len1; omega
   rw [getD_in this, getD_in (by rw [psX, List.length_map]; exact this)]; simp [psX]
  exact ⟨e, by rw [e]; exact len3 p hp⟩
 have hll : l.length = i := by rw [psX, List.length_map] at len1; exact len1
 by_cases hin : i < n
 ·have hin2 : ¬ n ≤ i := by omega
  ((repeat' (first | refine stx ?_ | (refine stq ?_ ?_ <;> (intro hc; ((try simp at hc) <;> try contradiction))) | fail)) <;> try (exfalso; omega))
  refine w_G hE (fun x : Nat × List RP × List RP × Nat × Nat => x.1 ≤ i + 1 ∧ (x.1 ≤ i → acRow xs n i (psX l) sq x.1 = some x.2.1 ∧ x.2.2.1 = sq) ∧ (x.1 = i + 1 → acRow xs n i (psX l) sq i = some x.2.1 ∧ acTo xs n (i + 1) = some (psX l ++ [x.2.1], x.2.2.1))) (fun x => i + 1 - x.1)
   (fun x => [(1, .one (.ptr 2 3 0 0)), (2, .one (.ptr 3 2 0 0)), (4, .one (.ptr 4 2 0 0)), (5, vI i), (6, .one (.sl 8 2 0 x.2.1.length x.2.2.2.1)), (7, vI x.1)])
   (fun x => [(1, .ro (.ints xs)), (2, .own 26 1 (.lit [.int n, .int n, .sl 1 1 0 xs.length ca])), (3, .own 142 1 (.lit [.sl 0 1 0 0 0, .sl 0 2 0 0 0])), (4, .own 142 1 (.lit [.sl 5 1 0 l.length c1, .sl 6 2 0 x.2.2.1.length x.2.2.2.2])), (5, .own 124 c1 (.rows true true l)), (7, .tok 129 true l), (6, .own 129 x.2.2.2.2 (.i2 x.2.2.1)), (8, .own 129 x.2.2.2.1 (.i2 x.2.1))]) 9 [] (0, [], sq, 0, c2) ⟨Nat.zero_le _, fun _ => ⟨rfl, rfl⟩, fun h => by omega⟩ ⟨w_1, w_2, rfl⟩ ?_
  rintro ⟨j, row, sqq, cr, cs⟩ ⟨hj, hj1, hj2⟩
  dsimp only at hj hj1 hj2
  by_cases hji : j ≤ i
  ·have hji2 : ¬ i < j := by omega
   obtain ⟨hrow, rfl⟩ := hj1 hji
   have hrl := acRow_len hrow
   have eij : (i : Int) * n = ((i * n : Nat) : Int) := by simp
   have hrin : i * n + n ≤ xs.length := by
    rw [hx]
    have := Nat.mul_le_mul_right n (show i + 1 ≤ n by omega)
    rw [Nat.add_mul, Nat.one_mul] at this; exact this
   have hat := fun ca => d_at n n i j xs ca (by rw [eij]; omega) (by omega) (by rw [eij]; omega) (by omega)
   rw [show (0 + ((i : Int) * n + j).toNat) = i * n + j by rw [eij]; omega] at hat
   obtain ⟨x0, hx0⟩ : ∃ x0, x0 = xs.getD (i * n + j) 0 := ⟨_, rfl⟩
   rw [← hx0] at hat
   obtain ⟨oth, ho⟩ : ∃ oth, oth = if j = i then row else (psX l).getD j [] := ⟨_, rfl⟩
   ((repeat' (first | refine stx ?_ | refine zqc (hat _) ?_ | refine zqc (d_whole _) ?_ | (refine stq ?_ ?_ <;> (intro hc; ((try simp at hc) <;> try contradiction))) | fail)) <;> try (exfalso; omega))
   refine w_G hE (fun k : Nat => k ≤ j) (fun k => j - k)
    (fun k => [(1, .one (.ptr 2 3 0 0)), (2, .one (.ptr 3 2 0 0)), (4, .one (.ptr 4 2 0 0)), (5, vI i), (6, .one (.sl 8 2 0 row.length cr)), (7, vI j), (8, .one (.ptr 9 2 0 0)), (9, vI k)])
    (fun k => [(1, .ro (.ints xs)), (2, .own 26 1 (.lit [.int n, .int n, .sl 1 1 0 xs.length ca])), (3, .own 142 1 (.lit [.sl 0 1 0 0 0, .sl 0 2 0 0 0])), (4, .own 142 1 (.lit [.sl 5 1 0 l.length c1, .sl 6 2 0 sqq.length cs])), (5, .own 124 c1 (.rows true true l)), (7, .tok 129 true l), (6, .own 129 cs (.i2 sqq)), (8, .own 129 cr (.i2 row)), (9, .own 129 1 (.lit [.int (acR x0 row oth sqq k).1, .int (acR x0 row oth sqq k).2]))]) 10 [] 0 (Nat.zero_le _) ⟨w_1, w_2, rfl⟩ ?_
   intro k hk
   by_cases hkj : k < j
   ·have hkj2 : ¬ j ≤ k := by omega
    have e0 : 0 + (k : Int).toNat = k := by omega
    by_cases hii : j = i
    ·rw [if_pos hii] at ho
     have eq : subR (acR x0 row oth sqq k).1 (acR x0 row oth sqq k).2 (mulR (mulR (row.getD (0 + (k : Int).toNat) (0, 0)).1 (row.getD (0 + (k : Int).toNat) (0, 0)).2 (row.getD (0 + (k : Int).toNat) (0, 0)).1 (row.getD (0 + (k : Int).toNat) (0, 0)).2).1 (mulR (row.getD (0 + (k : Int).toNat) (0, 0)).1 (row.getD (0 + (k : Int).toNat) (0, 0)).2 (row.getD (0 + (k : Int).toNat) (0, 0)).1 (row.getD (0 + (k : Int).toNat) (0, 0)).2).2 (sqq.getD (0 + (k : Int).toNat) (0, 0)).1 (sqq.getD (0 + (k : Int).toNat) (0, 0)).2).1 (mulR (mulR (row.getD (0 + (k : Int).toNat) (0, 0)).1 (row.getD (0 + (k : Int).toNat) (0, 0)).2 (row.getD (0 + (k : Int).toNat) (0, 0)).1 (row.getD (0 + (k : Int).toNat) (0, 0)).2).1 (mulR (row.getD (0 + (k : Int).toNat) (0, 0)).1 (row.getD (0 + (k : Int).toNat) (0, 0)).2 (row.getD (0 + (k : Int).toNat) (0, 0)).1 (row.getD (0 + (k : Int).toNat) (0, 0)).2).2 (sqq.getD (0 + (k : Int).toNat) (0, 0)).1 (sqq.getD (0 + (k : Int).toNat) (0, 0)).2).2 = acR x0 row oth sqq (k + 1) := by rw [e0, ho]; rfl
     ((repeat' (first | refine stp ?_ | refine zqc (d_whole _) ?_ | (refine stq ?_ ?_ <;> (intro hc; ((try simp at hc) <;> try contradiction))) | fail)) <;> try (exfalso; omega))
     refine awp_held TM [(8, _), (10, _), (4, _), (6, _)] sb rfl (fun ρs => ?_)
     refine zt1 ?_
     refine zt2 ?_
     refine zt3 ?_
     refine zt4 ?_
     refine zt5 ?_
     refine zt7 ?_
     refine zt8 ?_
     refine zt9 ?_
     refine zt10 ?_
     refine zt11 ?_
     refine w_u [0, 6] kr rfl ⟨?_, ?_, trivial⟩
     first | (refine zho ?_) | refine zqb (d_mulRI _ _ _ _) ?_ | refine zqb (d_subRI _ _ _ _) ?_
     refine w_u [6] kr rfl ⟨?_, trivial⟩
     first | (refine zho ?_) | refine zqb (d_mulRI _ _ _ _) ?_ | refine zqb (d_subRI _ _ _ _) ?_
     refine w_u [12] kr rfl ⟨?_, trivial⟩
     first | (refine zho ?_) | refine zqb (d_mulRI _ _ _ _) ?_ | refine zqb (d_subRI _ _ _ _) ?_
     refine w_u [13] kr rfl ⟨?_, trivial⟩
     first | (refine zho ?_) | refine zqb (d_mulRI _ _ _ _) ?_ | refine zqb (d_subRI _ _ _ _) ?_
     refine w_u [14] kr rfl ⟨?_, trivial⟩
     first | (refine zho ?_) | refine zqb (d_mulRI _ _ _ _) ?_ | refine zqb (d_subRI _ _ _ _) ?_
     refine w_v kr ?_
     rotate_left
     first | (refine zho ?_) | refine zqb (d_mulRI _ _ _ _) ?_ | refine zqb (d_subRI _ _ _ _) ?_
     refine w_u [0, 12] kr rfl ⟨?_, ?_, trivial⟩
     first | (refine zho ?_) | refine zqb (d_mulRI _ _ _ _) ?_ | refine zqb (d_subRI _ _ _ _) ?_
     refine w_u [12] kr rfl ⟨?_, trivial⟩
     first | (refine zho ?_) | refine zqb (d_mulRI _ _ _ _) ?_ | refine zqb (d_subRI _ _ _ _) ?_
     refine w_u [13] kr rfl ⟨?_, trivial⟩
     first | (refine zho ?_) | refine zqb (d_mulRI _ _ _ _) ?_ | refine zqb (d_subRI _ _ _ _) ?_
     refine w_u [14] kr rfl ⟨?_, trivial⟩
     first | (refine zho ?_) | refine zqb (d_mulRI _ _ _ _) ?_ | refine zqb (d_subRI _ _ _ _) ?_
     refine w_v kr ?_
     rotate_left
     first | (refine zho ?_) | refine zqb (d_mulRI _ _ _ _) ?_ | refine zqb (d_subRI _ _ _ _) ?_
     refine w_u [0] kr rfl ⟨?_, trivial⟩
     first | (refine zho ?_) | refine zqb (d_mulRI _ _ _ _) ?_ | refine zqb (d_subRI _ _ _ _) ?_
     refine w_u [13] kr rfl ⟨?_, trivial⟩
     first | (refine zho ?_) | refine zqb (d_mulRI _ _ _ _) ?_ | refine zqb (d_subRI _ _ _ _) ?_
     refine w_u [14] kr rfl ⟨?_, trivial⟩
     first | (refine zho ?_) | refine zqb (d_mulRI _ _ _ _) ?_ | refine zqb (d_subRI _ _ _ _) ?_
     refine w_v kr ?_
     rotate_left
     all_goals ((repeat' (first | refine stx ?_ | (refine stq ?_ ?_ <;> (intro hc; ((try simp at hc) <;> try contradiction))) | fail)) <;> try (exfalso; omega))
     all_goals exact ⟨[], k + 1, hkj, w_4, ⟨w_1, ⟨rfl, rfl, rfl, rfl, rfl, rfl, rfl, rfl, congrArg (fun p : RP => some (Blk.own 129 1 (.lit [.int p.1, .int p.2]))) eq, trivial⟩, rfl⟩⟩
    ·rw [if_neg hii] at ho
     have hjl : j < l.length := by omega
     have hps := hpl j (by omega)
     have ex : (l.getD (0 + (j : Int).toNat) rowD).ps = oth := by rw [show 0 + (j : Int).toNat = j by omega, ho]; exact hps.1
     have exl : (l.getD (0 + (j : Int).toNat) rowD).ps.length = j := by rw [show 0 + (j : Int).toNat = j by omega]; exact hps.2
     have exn : (l[j]?.getD rowD).ps.length = j := by rw [← List.getD_eq_getElem?_getD]; exact hps.2
     ((repeat' (first | refine stp ?_ | refine zqc (d_whole _) ?_ | (refine stq ?_ ?_ <;> (intro hc; ((try simp at hc) <;> try contradiction))) | fail)) <;> try (exfalso; omega))
     refine awp_held TM [(8, _), (10, _), (4, _), (6, _)] sb rfl (fun ρs => ?_)
     refine zt1 ?_
     refine zt2 ?_
     refine zt3 ?_
     refine zt4 ?_
     refine zt5 ?_
     refine zt7 ?_
     refine zt8 ?_
     refine zt9 ?_
     refine zt10 ?_
     refine zt11 ?_
     refine w_u [0, 6] kr rfl ⟨?_, ?_, trivial⟩
     first | (refine zho ?_) | refine zqb (d_mulRI _ _ _ _) ?_ | refine zqb (d_subRI _ _ _ _) ?_
     refine w_u [6] kr rfl ⟨?_, trivial⟩
     first | (refine zho ?_) | refine zqb (d_mulRI _ _ _ _) ?_ | refine zqb (d_subRI _ _ _ _) ?_
     refine w_u [12] kr rfl ⟨?_, trivial⟩
     first | (refine zho ?_) | refine zqb (d_mulRI _ _ _ _) ?_ | refine zqb (d_subRI _ _ _ _) ?_
     refine w_u [13] kr rfl ⟨?_, trivial⟩
     first | (refine zho ?_) | refine zqb (d_mulRI _ _ _ _) ?_ | refine zqb (d_subRI _ _ _ _) ?_
     refine w_u [14] kr rfl ⟨?_, trivial⟩
     first | (refine zho ?_) | refine zqb (d_mulRI _ _ _ _) ?_ | refine zqb (d_subRI _ _ _ _) ?_
     refine w_v kr ?_
     rotate_left
     first | (refine zho ?_) | refine zqb (d_mulRI _ _ _ _) ?_ | refine zqb (d_subRI _ _ _ _) ?_
     refine w_u [0, 12] kr rfl ⟨?_, ?_, trivial⟩
     first | (refine zho ?_) | refine zqb (d_mulRI _ _ _ _) ?_ | refine zqb (d_subRI _ _ _ _) ?_
     refine w_u [12] kr rfl ⟨?_, trivial⟩
     first | (refine zho ?_) | refine zqb (d_mulRI _ _ _ _) ?_ | refine zqb (d_subRI _ _ _ _) ?_
     refine w_u [13] kr rfl ⟨?_, trivial⟩
     first | (refine zho ?_) | refine zqb (d_mulRI _ _ _ _) ?_ | refine zqb (d_subRI _ _ _ _) ?_
     refine w_u [14] kr rfl ⟨?_, trivial⟩
     first | (refine zho ?_) | refine zqb (d_mulRI _ _ _ _) ?_ | refine zqb (d_subRI _ _ _ _) ?_
     refine w_v kr ?_
     rotate_left
     first | (refine zho ?_) | refine zqb (d_mulRI _ _ _ _) ?_ | refine zqb (d_subRI _ _ _ _) ?_
     refine w_u [0] kr rfl ⟨?_, trivial⟩
     first | (refine zho ?_) | refine zqb (d_mulRI _ _ _ _) ?_ | refine zqb (d_subRI _ _ _ _) ?_
     refine w_u [13] kr rfl ⟨?_, trivial⟩
     first | (refine zho ?_) | refine zqb (d_mulRI _ _ _ _) ?_ | refine zqb (d_subRI _ _ _ _) ?_
     refine w_u [14] kr rfl ⟨?_, trivial⟩
     first | (refine zho ?_) | refine zqb (d_mulRI _ _ _ _) ?_ | refine zqb (d_subRI _ _ _ _) ?_
     refine w_v kr ?_
     rotate_left
     all_goals ((repeat' (first | refine stx ?_ | (refine stq ?_ ?_ <;> (intro hc; ((try simp at hc) <;> try contradiction))) | fail)) <;> try (exfalso; omega))
     all_goals exact ⟨[], k + 1, hkj, w_4, ⟨w_1, ⟨rfl, rfl, rfl, rfl, rfl, rfl, rfl, rfl, congrArg (fun p : RP => some (Blk.own 129 1 (.lit [.int p.1, .int p.2]))) (by rw [e0, ex]; rfl), trivial⟩, rfl⟩⟩
   ·obtain rfl : k = j := by omega
    cases hr : ratP (acR x0 row oth sqq k) with
    | false =>
     have hno : acTo xs n n = none := by
      have h1 : acTo xs n (i + 1) = none := by
       rw [acTo, hac, Option.bind_some]
       rcases Nat.lt_or_ge k i with c | c
       ·have h2 : acRow xs n i (psX l) sqq (k + 1) = none := by
         rw [if_neg (by omega)] at ho
         rw [acRow, hrow, Option.bind_some, ← hx0, ← ho, hr]; rfl
        have h3 := acRow_none h2 (i - (k + 1))
        rw [show k + 1 + (i - (k + 1)) = i by omega] at h3
        rw [h3]; rfl
       ·obtain rfl : k = i := by omega
        rw [if_pos rfl] at ho
        rw [hrow, Option.bind_some, ← hx0]
        rw [ho] at hr
        rw [hr]; rfl
      have := acTo_none h1 (n - (i + 1))
      rwa [show i + 1 + (n - (i + 1)) = n by omega] at this
     have hrt := d_ratioI (acR x0 row oth sqq k).1 (acR x0 row oth sqq k).2
     rw [show ratioB (acR x0 row oth sqq k).1 (acR x0 row oth sqq k).2 = false from hr] at hrt
     rw [hno]
     ((repeat' (first | refine stx ?_ | refine zqc (hrt) ?_ | (refine stq ?_ ?_ <;> (intro hc; ((try simp at hc) <;> try contradiction))) | fail)) <;> try (exfalso; omega))
     exact fin rfl w_3 [] (.tup [.agg [.sl 0 1 0 0 0, .sl 0 2 0 0 0], .one (.bool false)]) [] 2 ⟨rfl, rfl, rfl⟩ rfl ⟨trivial, trivial, rfl⟩ rfl
    | true =>
     have hrt := d_ratioI (acR x0 row oth sqq k).1 (acR x0 row oth sqq k).2
     rw [show ratioB (acR x0 row oth sqq k).1 (acR x0 row oth sqq k).2 = true from hr] at hrt
     rcases Nat.lt_or_ge k i with c | c
     ·have e0 : 0 + (k : Int).toNat = k := by omega
      rw [if_neg (by omega)] at ho
      have hnx : acRow xs n i (psX l) sqq (k + 1) = some (row ++ [divP (acR x0 row oth sqq k) (sqq.getD k (0, 0))]) := by
       rw [acRow, hrow, Option.bind_some, ← hx0, ← ho, hr]; rfl
      ((repeat' (first | refine stp ?_ | refine zqc (hrt) ?_ | (refine stq ?_ ?_ <;> (intro hc; ((try simp at hc) <;> try contradiction))) | fail)) <;> try (exfalso; omega))
      refine awp_held TM [(9, _), (4, _), (6, _)] sb rfl (fun ρs => ?_)
      refine zt0 ?_
      refine zt1 ?_
      refine zt2 ?_
      refine zt3 ?_
      refine zt4 ?_
      refine zt5 ?_
      refine zt6 ?_
      refine w_u [7] kr rfl ⟨?_, trivial⟩
      first | (refine zho ?_) | refine zqb (d_divRI _ _ _ _) ?_ | (refine zqy ?_; intro cap hcap)
      refine w_u [8] kr rfl ⟨?_, trivial⟩
      first | (refine zho ?_) | refine zqb (d_divRI _ _ _ _) ?_ | (refine zqy ?_; intro cap hcap)
      refine w_u [9] kr rfl ⟨?_, trivial⟩
      first | (refine zho ?_) | refine zqb (d_divRI _ _ _ _) ?_ | (refine zqy ?_; intro cap hcap)
      refine zt10 ?_
      refine w_v kr ?_
      rotate_left
      all_goals ((repeat' (first | refine stx ?_ | (refine stq ?_ ?_ <;> (intro hc; ((try simp at hc) <;> try contradiction))) | fail)) <;> try (exfalso; omega))
      all_goals exact ⟨[(8, 11)], (k + 1, row ++ [divP (acR x0 row oth sqq k) (sqq.getD k (0, 0))], sqq, cap, cs), ⟨by dsimp only; omega, fun _ => ⟨hnx, rfl⟩, fun h => by dsimp only at h; omega⟩, w_4, ⟨w_1, ⟨rfl, rfl, rfl, rfl, rfl, rfl, rfl, own_i2A (by rw [e0]; rfl), trivial⟩, rfl⟩⟩
     ·obtain rfl : k = i := by omega
      rw [if_pos rfl] at ho
      by_cases hp : 0 < (acR x0 row oth sqq k).1
      ·have hnx : acTo xs n (k + 1) = some (psX l ++ [row], sqq ++ [acR x0 row oth sqq k]) := by
        rw [acTo, hac, Option.bind_some, hrow, Option.bind_some, ← hx0]
        rw [ho] at hr hp
        rw [hr, decide_eq_true hp, ho]; rfl
       have hpn : ¬ (acR x0 row oth sqq k).1 ≤ 0 := by omega
       ((repeat' (first | refine stx ?_ | refine zqc (hrt) ?_ | (refine zqx ?_; intro cap hcap) | (refine stq ?_ ?_ <;> (intro hc; ((try simp at hc) <;> try contradiction))) | fail)) <;> try (exfalso; omega))
       exact ⟨[(6, 11)], (k + 1, row, sqq ++ [acR x0 row oth sqq k], cr, cap), ⟨Nat.le_refl _, fun h => by dsimp only at h; omega, fun _ => ⟨hrow, hnx⟩⟩, w_4, ⟨w_1, ⟨rfl, rfl, rfl, congrArg (fun m => some (Blk.own 142 1 (.lit [.sl 5 1 0 l.length c1, .sl 11 2 0 m cap]))) (by simp), rfl, rfl, rfl, rfl, trivial⟩, rfl⟩⟩
      ·have hno : acTo xs n n = none := by
        have h1 : acTo xs n (k + 1) = none := by
         rw [acTo, hac, Option.bind_some, hrow, Option.bind_some, ← hx0]
         rw [ho] at hp
         rw [decide_eq_false hp, Bool.and_false]; rfl
        have := acTo_none h1 (n - (k + 1))
        rwa [show k + 1 + (n - (k + 1)) = n by omega] at this
       have hpn : (acR x0 row oth sqq k).1 ≤ 0 := by omega
       rw [hno]
       ((repeat' (first | refine stx ?_ | refine zqc (hrt) ?_ | (refine stq ?_ ?_ <;> (intro hc; ((try simp at hc) <;> try contradiction))) | fail)) <;> try (exfalso; omega))
       exact fin rfl w_3 [] (.tup [.agg [.sl 0 1 0 0 0, .sl 0 2 0 0 0], .one (.bool false)]) [] 2 ⟨rfl, rfl, rfl⟩ rfl ⟨trivial, trivial, rfl⟩ rfl
  ·obtain rfl : j = i + 1 := by omega
   obtain ⟨hrow, hnx⟩ := hj2 rfl
   have hjn : ¬ ((i + 1 : Nat) : Int) ≤ i := by omega
   have hjn2 : i < i + 1 := by omega
   ((first | refine awpL_ghost (Ghost.freezeP 8 7 Zz Zz) ?_ | refine awp_ghost (Ghost.freezeP 8 7 Zz Zz) ?_ | refine awpH_ghost (Ghost.freezeP 8 7 Zz Zz) ?_ | refine awpHop_ghost (Ghost.freezeP 8 7 Zz Zz) ?_); rintro _ _ ⟨ar, rfl, rfl⟩)
   ((repeat' (first | refine stx ?_ | (refine zqx ?_; intro cap hcap) | (refine stq ?_ ?_ <;> (intro hc; ((try simp at hc) <;> try contradiction))) | fail)) <;> try (exfalso; omega))
   exact ⟨[(5, 10)], (i + 1, l ++ [⟨ar, cr, [], row⟩], sqq, cap, cs), ⟨hin, by rw [hnx, psX, psX, List.map_append]; rfl⟩, w_4, ⟨w_1, ⟨rfl, rfl, rfl, congrArg (fun m => some (Blk.own 142 1 (.lit [.sl 10 1 0 m cap, .sl 6 2 0 sqq.length cs]))) (by simp), rfl, rfl, rfl, trivial⟩, rfl⟩⟩
 ·obtain rfl : i = n := by omega
  rw [hac]
  ((repeat' (first | refine stx ?_ | (refine stq ?_ ?_ <;> (intro hc; ((try simp at hc) <;> try contradiction))) | fail)) <;> try (exfalso; omega))
  exact fin rfl w_3 [(2, 5), (3, 6), (4, 7)] (.tup [.agg [.sl 2 1 0 l.length c1, .sl 3 2 0 sq.length c2], .one (.bool true)]) [(2, .own 124 c1 (.rows true true l)), (3, .own 129 c2 (.i2 sq)), (4, .tok 129 true l)] 5 ⟨l, c1, c2, rfl, rfl, rfl, rfl⟩ rfl ⟨trivial, ⟨rfl, rfl, rfl, trivial⟩, rfl⟩ rfl
end Go.Proofs.YtekpamojojfplaaGreat
