/-
  TEXTS OF THE PROOF, put together: pRels, Lay2, bSortG, bSortV, bCmpW.
-/
import Derived.Test.YtekpamojojfplaaGreatC25
import Derived.Test.YtekpamojojfplaaGreatC31
import Derived.Shelf.SlSortCmp.WholeK
import Derived.Test.YtekpamojojfplaaGreatProg
import Derived.Test.YtekpamojojfplaaGreatC26
import Derived.Test.YtekpamojojfplaaGreatC08
import Derived.Shelf.SlSortCmp.NoneTotal
import Derived.Test.YtekpamojojfplaaGreatC23
import Derived.Shelf.RegionOpenPlain
set_option linter.unusedVariables false
set_option linter.unusedSimpArgs false
namespace Go.Proofs.YtekpamojojfplaaGreat
theorem rdJ_lt {row : List RP} : ∀ {k j : Nat}, rdJ row k = some (some j) → j < k
  | 0, j, h => by cases h
  | k + 1, j, h => by
    unfold rdJ at h
    split at h
    · split at h
      · have := rdJ_lt h; omega
      · cases h; omega
    · cases h
theorem addS_two {n i j : Nat} {q : Int} {a b : List Int} {y : TwoL} (h : addS n n i j q (a, b) = some y) : addS n n i j q (b, b) = some (y.2, y.2) := by
  unfold addS at h ⊢
  split at h
  · rename_i hc
    cases h
    rw [if_pos ⟨hc.2, hc.2⟩]
  · cases h
theorem redStep_rel {n k k' : Nat} {s s' : S3} (h : OK3 n n s) (hk : 1 ≤ k ∧ k < n) (hs : redStep n k s = some (s', k')) : RelS n n (s.2.1, s.2.1) (s'.2.1, s'.2.1) := by
  have ho : OKs n n (s.2.1, s.2.1) := ⟨h.u, h.u, h.nu, h.nu⟩
  unfold redStep at hs
  obtain ⟨st, -, hs⟩ := Option.bind_eq_some_iff.1 hs
  split at hs
  · cases hs
  · rename_i j hj
    have hjk := rdJ_lt hj
    obtain ⟨s2, h2, he⟩ := Option.map_eq_some_iff.1 hs
    cases he
    obtain ⟨s1, h1, h2⟩ := Option.bind_eq_some_iff.1 h2
    simp only [row3, Option.map_eq_some_iff] at h1
    obtain ⟨y, hy, rfl⟩ := h1
    have e : s'.2.1 = y.2 := by
      unfold col3 at h2
      split at h2
      · cases h2; rfl
      · cases h2
    rw [e]
    exact RelS.add ho (by omega) (by omega) (by omega) (addS_two hy)
  · split at hs
    · cases hs
    · split at hs
      · cases hs; exact RelS.refl _
      · cases hs
        have e : (swC n n k (k - 1) (swR n n k (k - 1) s)).2.1 = swapTo s.2.1 (k * n) ((k - 1) * n) n := by
          unfold swC swR
          rw [if_neg (by omega), if_neg (by omega)]
        have := RelS.sw (p := k) (t := k - 1) ho (by omega) (by omega)
        unfold swS at this
        rw [if_neg (by omega)] at this
        rw [e]; exact this
theorem redG_rel {n : Nat} : ∀ {f k : Nat} {s s' : S3}, TurnS n s → 1 ≤ k → redG n f s k = some s' → RelS n n (s.2.1, s.2.1) (s'.2.1, s'.2.1)
  | 0, k, s, s', h, _, he => by
    rw [redG] at he
    split at he
    · cases he
    · cases he; exact RelS.refl _
  | f + 1, k, s, s', h, hk, he => by
    rw [redG] at he
    split at he
    · rename_i hkn
      obtain ⟨x, h1, h2⟩ := Option.bind_eq_some_iff.1 he
      obtain ⟨t1, t2, t3⟩ := redStep_turn h ⟨hk, hkn⟩ (s' := x.1) (k' := x.2) h1
      exact (redStep_rel h.1 ⟨hk, hkn⟩ (s' := x.1) (k' := x.2) h1).trans (redG_rel t1 t2 h2)
    · cases he; exact RelS.refl _
theorem redO_uni {n : Nat} {g : List Int} {s : S3} (h : redO n n g = some s) : s.2.1.length = n * n ∧ s.2.1.all numB = true ∧ (∀ z : Vec, ∃ q : Vec, ∀ k, k < n → comb s.2.1 n q k n = z k) ∧ ∀ q : Vec, (∀ k, k < n → comb s.2.1 n q k n = 0) → ∀ i, i < n → q i = 0 := by
  unfold redO at h
  split at h
  · rename_i hd
    obtain ⟨n', e, -, hn, hx, hnum, -, -, -⟩ := defB_all hd
    obtain rfl : n = n' := by omega
    rw [Int.toNat_natCast] at h
    have ht : TurnS n (g, idTo n n, idTo n n) := ⟨⟨hx, idTo_len, idTo_len, hnum, id_num, id_num⟩, turn_id.symm⟩
    have h1 := redG_turn ht (Nat.le_refl 1) h
    obtain ⟨T, T', r1, r2, r3, r4, r5, r6, r7⟩ := redG_rel ht (Nat.le_refl 1) h
    dsimp only at r1
    have r1' : ∀ (q : Vec) k, k < n → comb s.2.1 n q k n = T q k := fun q k hk => by rw [r1 q k hk, id_comb hk]
    refine ⟨h1.1.u, h1.1.nu, fun z => ⟨T' z, fun k hk => by rw [r1' _ k hk, r3 z k hk]⟩, fun q hq i hi => ?_⟩
    rw [← r4 q i hi, r6 (T q) (fun _ => 0) (fun l hl => by rw [← r1' q l hl, hq l hl]) i hi]
    exact r7 i hi
  · cases h
theorem comb_mul {n c : Nat} {u xs : List Int} {z : Vec} {k : Nat} (hk : k < c) : comb (mulM n n c u xs) c z k n = comb xs c (fun j => comb u n z j n) k n := by
  rw [comb_sg, comb_sg]
  have e1 : sg (fun i => z i * (mulM n n c u xs).getD (i * c + k) 0) n = sg (fun i => sg (fun j => z i * (u.getD (i * n + j) 0 * xs.getD (j * c + k) 0)) n) n := sg_congr fun i hi => by rw [mulM_getD hi hk, sg_mul]
  rw [e1, sg_swap]
  refine sg_congr fun j hj => ?_
  rw [comb_sg, Int.mul_comm, ← sg_mul]
  exact sg_congr fun i hi => by grind
theorem Piv.indep {b t : Nat} {ys : List Int} (h : Piv b t ys) {q : Vec} (h0 : ∀ k, k < b → comb ys b q k t = 0) : ∀ n, ∀ i, i < n → i < t → q i = 0 := fun n => by
  induction n with
  | zero => intro i hi; omega
  | succ n ih =>
    intro i hi ht
    by_cases c : i < n
    · exact ih i c ht
    · obtain rfl : i = n := by omega
      obtain ⟨p1, p2, p3⟩ := h.yes i ht
      have hz := h0 _ p1
      rw [comb_sg, sg_single ht fun l hl hne => by
        rcases Nat.lt_or_ge l i with c | c
        · rw [ih l c hl, Int.zero_mul]
        · rw [h.left (by omega) hl, Int.mul_zero]] at hz
      rcases Int.mul_eq_zero.1 hz with e | e
      · exact e
      · omega
theorem rels_spec {v : List Int} {b : List Int} {t : Nat} (h : relsO v = some (b, t)) : v.length ≤ 6 ∧ v.all numB = true ∧ b.length = t * v.length ∧ b.all numB = true ∧ t ≤ v.length ∧
    (∀ q : Vec, sg (fun k => q k * v.getD k 0) v.length = 0 ↔ ∃ z : Vec, ∀ k, k < v.length → q k = comb b v.length z k t) ∧ ∀ z : Vec, (∀ k, k < v.length → comb b v.length z k t = 0) → ∀ i, i < t → z i = 0 := by
  unfold relsO at h
  split at h
  · rename_i hc
    rw [Bool.and_eq_true, decide_eq_true_eq] at hc
    obtain ⟨⟨ys, t'⟩, hk, h⟩ := Option.bind_eq_some_iff.1 h
    obtain ⟨⟨p, u⟩, hp, h⟩ := Option.map_eq_some_iff.1 h
    cases h
    obtain ⟨a, c, ha, hcc, -, -, hx, hn, hko, hyl, hta⟩ := kerB_some hk
    obtain rfl : v.length = a := by omega
    obtain rfl : c = 1 := by omega
    obtain ⟨hP, -, hS⟩ := ker_spec hx hn hko
    unfold rbasO at hp
    obtain ⟨g, hg, hp⟩ := Option.bind_eq_some_iff.1 hp
    obtain ⟨s, hs, hp⟩ := Option.bind_eq_some_iff.1 hp
    obtain ⟨q, hq, he⟩ := Option.map_eq_some_iff.1 hp
    cases he
    obtain ⟨-, -, s3, s4⟩ := redO_uni hs
    have ep := mulZ_eq hq
    simp only [Int.toNat_natCast] at ep
    have hpm := isM_nat (mulZ_some hq).2.2.2
    have hcm : ∀ (z : Vec) k, k < v.length → comb p v.length z k t' = comb ys v.length (fun j => comb s.2.1 t' z j t') k t' := fun z k hk => by rw [ep]; exact comb_mul hk
    refine ⟨hc.1, hc.2, hpm.2.2.1, hpm.2.2.2, hta, fun q => ?_, fun z hz i hi => ?_⟩
    · have e : (∀ k, k < 1 → comb v 1 q k v.length = 0) ↔ sg (fun k => q k * v.getD k 0) v.length = 0 := by
        have e0 : comb v 1 q 0 v.length = sg (fun k => q k * v.getD k 0) v.length := by
          rw [comb_sg]
          exact sg_congr fun i _ => by rw [Nat.mul_one, Nat.add_zero]
        constructor
        · intro h; rw [← e0]; exact h 0 (by omega)
        · intro h k hk
          obtain rfl : k = 0 := by omega
          rw [e0]; exact h
      rw [← e, hS q]
      constructor
      · rintro ⟨w, hw⟩
        obtain ⟨z, hz⟩ := s3 w
        refine ⟨z, fun k hk => ?_⟩
        rw [hw k hk, hcm z k hk]
        exact comb_sub fun i hi => (hz i hi).symm
      · rintro ⟨z, hz⟩
        exact ⟨_, fun k hk => by rw [hz k hk, hcm z k hk]⟩
    · refine s4 z (fun k hk => ?_) i hi
      exact hP.indep (fun k hk => by rw [← hcm z k hk]; exact hz k hk) (k + 1) k (by omega) hk
  · cases h
theorem gram_bil {t c : Nat} {b G : List Int} (h : gramZ t c b = some G) (z w : Vec) : bilM t (mxL t G) z w = sg (fun k => comb b c z k t * comb b c w k t) c := by
  unfold gramZ at h
  split at h
  · have eG := mulZ_eq h
    simp only [Int.toNat_natCast] at eG
    have hG : ∀ i j, i < t → j < t → mxL t G i j = sg (fun k => b.getD (i * c + k) 0 * b.getD (j * c + k) 0) c := fun i j hi hj => by
      show G.getD (i * t + j) 0 = _
      rw [eG, mulM_getD hi hj]
      exact sg_congr fun k hk => by rw [turnM_at hj hk]
    rw [bilM_two]
    have e1 : sg (fun i => sg (fun j => z i * mxL t G i j * w j) t) t = sg (fun i => sg (fun j => sg (fun k => (z i * b.getD (i * c + k) 0) * (w j * b.getD (j * c + k) 0)) c) t) t := sg_congr fun i hi => sg_congr fun j hj => by
      rw [hG i j hi hj, Int.mul_comm, ← sg_mul, ← sg_mul]
      exact sg_congr fun k _ => by grind
    have e2 : ∀ i, sg (fun j => sg (fun k => (z i * b.getD (i * c + k) 0) * (w j * b.getD (j * c + k) 0)) c) t = sg (fun k => (z i * b.getD (i * c + k) 0) * comb b c w k t) c := fun i => by
      rw [sg_swap]
      exact sg_congr fun k _ => by rw [comb_sg, ← sg_mul]
    rw [e1, sg_congr fun i _ => e2 i, sg_swap]
    refine sg_congr fun k _ => ?_
    rw [comb_sg (q := z), Int.mul_comm, ← sg_mul]
    exact sg_congr fun i _ => by grind
  · cases h
theorem bil_neg {n : Nat} {A : Mx} {v : List Int} : bilM n A (vecL (v.map fun x => -x)) (vecL (v.map fun x => -x)) = bilM n A (vecL v) (vecL v) := by
  have e : ∀ k, vecL (v.map fun x => -x) k = - vecL v k := fun k => by
    show (v.map fun x => -x).getD k 0 = - v.getD k 0
    rw [List.getD_eq_getElem?_getD, List.getD_eq_getElem?_getD, List.getElem?_map]
    cases v[k]? <;> rfl
  rw [bilM_two, bilM_two]
  exact sg_congr fun i _ => sg_congr fun j _ => by rw [e, e]; grind
theorem shst_head {n : Nat} {g u : List Int} {S : List (List Int)} (h : shstO n n g = some (u :: S)) : u.length = n ∧ u.all numB = true ∧ 1 ≤ bilM n (mxL n g) (vecL u) (vecL u) ∧ (∀ i, i < n → bilM n (mxL n g) (vecL u) (vecL u) ≤ g.getD (i * n + i) 0) ∧
    ∀ z : List Int, z.length = n → (∃ k, z.getD k 0 ≠ 0) → bilM n (mxL n g) (vecL u) (vecL u) ≤ bilM n (mxL n g) (vecL z) (vecL z) := by
  unfold shstO at h
  split at h
  · cases h
  · rename_i m hm
    obtain ⟨hu1, zu, hzu, hz1, hzm⟩ := (sh_iff h u).1 (by simp)
    obtain ⟨n', e, -, -, hul, hun, -, rfl⟩ := vatO_some hzu
    obtain rfl : n = n' := by omega
    unfold minO at hm
    split at hm
    · rename_i hc
      rw [Int.toNat_natCast] at hm
      cases hS : shO n n g (mdTo g n n) with
      | none => rw [hS] at hm; cases hm
      | some W =>
        rw [hS] at hm
        cases W with
        | nil => cases hm
        | cons w W =>
          replace hm : vatO n n g w = some m := hm
          obtain ⟨hw1, zw, hzw, hw2, hw3⟩ := (sh_iff hS w).1 (by simp)
          rw [hm] at hzw
          cases hzw
          refine ⟨hul, hun, hz1, fun i hi => ?_, fun z hz hz0 => ?_⟩
          · have := mdTo_le (g := g) (n := n) hi
            omega
          · refine Int.le_trans hzm ?_
            rcases Int.lt_or_le (mdTo g n n) (bilM n (mxL n g) (vecL z) (vecL z)) with c | c
            · omega
            · have key : ∀ y : List Int, y.length = n → posF y = true → bilM n (mxL n g) (vecL y) (vecL y) = bilM n (mxL n g) (vecL z) (vecL z) → m ≤ bilM n (mxL n g) (vecL z) (vecL z) := fun y hy hp he => by
                have hy2 := sh_has hS hy hp (by omega)
                obtain ⟨-, zy, hzy, -, -⟩ := (sh_iff hS y).1 hy2
                have := sh_head hS hy2 hm hzy
                obtain ⟨n', e, -, -, -, -, -, rfl⟩ := vatO_some hzy
                obtain rfl : n = n' := by omega
                omega
              rcases posF_neg hz0 with hp | hp
              · exact key z hz hp rfl
              · exact key _ (by simpa using hz) hp bil_neg
    · cases hm
end Go.Proofs.YtekpamojojfplaaGreat
namespace Go.Proofs.YtekpamojojfplaaGreat
open Go.Shelf Go.Proofs
def Tryz.l6k_ren : Go.Shelf.Ren := ⟨fun | 6 => 139 | 15 => 174 | 14 => 173 | 28 => 211 | 29 => 212 | 20 => 203 | 21 => 204 | 22 => 205 | 23 => 206 | 24 => 207 | 25 => 208 | 26 => 209 | 27 => 210 | 46 => 222 | 47 => 223 | 48 => 224 | 49 => 225 | 50 => 226 | 57 => 227 | n => n, fun | 22 => 91 | 24 => 94 | 25 => 120 | 3 => 3 | 39 => 154 | 0 => 0 | 53 => 170 | 55 => 172 | 4 => 4 | 46 => 164 | 45 => 163 | 50 => 56 | 5 => 5 | 9 => 9 | 66 => 174 | 70 => 146 | 76 => 179 | 77 => 180 | n => n, fun | n => n⟩
theorem Tryz.l6k : Go.Proofs.SlLaysF0.n6 Tryz.prog Tryz.l6k_ren := {
  mixed := by kernel_rfl
  f6 := ⟨Tryz.f139.name, by decide, Tryz.func139.trans (congrArg some (by kernel_rfl))⟩
  f14 := ⟨Tryz.f173.name, by decide, Tryz.func173.trans (congrArg some (by kernel_rfl))⟩
  f15 := Tryz.func174.trans (congrArg some (by kernel_rfl))
  f20 := ⟨Tryz.f203.name, by decide, Tryz.func203.trans (congrArg some (by kernel_rfl))⟩
  f21 := ⟨Tryz.f204.name, by decide, Tryz.func204.trans (congrArg some (by kernel_rfl))⟩
  f22 := ⟨Tryz.f205.name, by decide, Tryz.func205.trans (congrArg some (by kernel_rfl))⟩
  f23 := ⟨Tryz.f206.name, by decide, Tryz.func206.trans (congrArg some (by kernel_rfl))⟩
  f24 := ⟨Tryz.f207.name, by decide, Tryz.func207.trans (congrArg some (by kernel_rfl))⟩
  f25 := ⟨Tryz.f208.name, by decide, Tryz.func208.trans (congrArg some (by kernel_rfl))⟩
  f26 := ⟨Tryz.f209.name, by decide, Tryz.func209.trans (congrArg some (by kernel_rfl))⟩
  f27 := ⟨Tryz.f210.name, by decide, Tryz.func210.trans (congrArg some (by kernel_rfl))⟩
  f28 := Tryz.func211.trans (congrArg some (by kernel_rfl))
  f29 := Tryz.func212.trans (congrArg some (by kernel_rfl))
  f46 := ⟨Tryz.f222.name, by decide, Tryz.func222.trans (congrArg some (by kernel_rfl))⟩
  f47 := Tryz.func223.trans (congrArg some (by kernel_rfl))
  f48 := Tryz.func224.trans (congrArg some (by kernel_rfl))
  f49 := ⟨Tryz.f225.name, by decide, Tryz.func225.trans (congrArg some (by kernel_rfl))⟩
  f50 := ⟨Tryz.f226.name, by decide, Tryz.func226.trans (congrArg some (by kernel_rfl))⟩
  f57 := ⟨Tryz.f227.name, by decide, Tryz.func227.trans (congrArg some (by kernel_rfl))⟩
  t0 := Tryz.underlying0
  a0 := Tryz.isAgg0
  z0 := Tryz.sizeOf0
  v0 := Tryz.zeroValue0
  t3 := Tryz.underlying3
  a3 := Tryz.isAgg3
  z3 := Tryz.sizeOf3
  v3 := Tryz.zeroValue3
  t4 := Tryz.underlying4
  a4 := Tryz.isAgg4
  z4 := Tryz.sizeOf4
  v4 := Tryz.zeroValue4
  t5 := Tryz.underlying5
  a5 := Tryz.isAgg5
  z5 := Tryz.sizeOf5
  v5 := Tryz.zeroValue5
  t9 := Tryz.underlying9
  a9 := Tryz.isAgg9
  z9 := Tryz.sizeOf9
  v9 := Tryz.zeroValue9
  t22 := Tryz.underlying91
  a22 := Tryz.isAgg91
  z22 := Tryz.sizeOf91
  v22 := Tryz.zeroValue91
  t25 := Tryz.underlying120
  a25 := Tryz.isAgg120
  z25 := Tryz.sizeOf120
  v25 := Tryz.zeroValue120
  t39 := Tryz.underlying154
  a39 := Tryz.isAgg154
  z39 := Tryz.sizeOf154
  v39 := Tryz.zeroValue154
  t45 := Tryz.underlying163
  a45 := Tryz.isAgg163
  z45 := Tryz.sizeOf163
  v45 := Tryz.zeroValue163
  t46 := Tryz.underlying164
  a46 := Tryz.isAgg164
  z46 := Tryz.sizeOf164
  v46 := Tryz.zeroValue164
  t50 := Tryz.underlying56
  a50 := Tryz.isAgg56
  z50 := Tryz.sizeOf56
  v50 := Tryz.zeroValue56
  t53 := Tryz.underlying170
  a53 := Tryz.isAgg170
  z53 := Tryz.sizeOf170
  v53 := Tryz.zeroValue170
  t55 := Tryz.underlying172
  a55 := Tryz.isAgg172
  z55 := Tryz.sizeOf172
  v55 := Tryz.zeroValue172
  t66 := Tryz.underlying174
  a66 := Tryz.isAgg174
  z66 := Tryz.sizeOf174
  v66 := Tryz.zeroValue174
  t70 := Tryz.underlying146
  a70 := Tryz.isAgg146
  z70 := Tryz.sizeOf146
  v70 := Tryz.zeroValue146
  t76 := Tryz.underlying179
  a76 := Tryz.isAgg179
  z76 := Tryz.sizeOf179
  v76 := Tryz.zeroValue179
  t77 := Tryz.underlying180
  a77 := Tryz.isAgg180
  z77 := Tryz.sizeOf180
  v77 := Tryz.zeroValue180 }
end Go.Proofs.YtekpamojojfplaaGreat
namespace Go.Proofs.YtekpamojojfplaaGreat
open Go.RowKit Go.Sort Go.Lib Go.Shelf
def encR (r : Row) : Value := r.val false
section
variable {α : Type} [Inhabited α] {enc : α → Value} {w : World} {g n : Nat} {os : Array Obj} {cur : Array Value} {e : TypeId} {fr : Nat × Nat}
theorem heap_put (d : Array α) (hb : w.heap[g]? = some (.cells cur e fr)) : (sortWorld enc w g 0 n d os).heap[g]? = some (.cells (putCells enc 0 d cur) e fr) := by
  have hg : g < w.heap.size := (Array.getElem?_eq_some_iff.1 hb).1
  unfold sortWorld
  rw [heap_grow_old _ _ (by simpa using hg)]
  simp [putRow, mapBlock, Sort.ahead, Array.getElem?_modify, hb, onCells]
theorem grown_put (d : Array α) : w.grownBy (sortWorld enc w g 0 n d os) (some g) := by
  unfold sortWorld
  refine ⟨rfl, rfl, rfl, by simp, fun k hk hne => ?_⟩
  rw [heap_grow_old _ _ (by simpa using hk)]
  have : g ≠ k := fun e => hne (by rw [e])
  simp [putRow, mapBlock, Sort.ahead, Array.getElem?_modify, this]
theorem take_put (d : Array α) (h : d.size ≤ cur.size) (m : Nat) (hm : m ≤ d.size) : (putCells enc 0 d cur).toList.take m = (d.toList.take m).map enc := by
  apply List.ext_getElem?
  intro j
  by_cases hj : j < m
  · rw [List.getElem?_take_of_lt hj, Array.getElem?_toList, List.getElem?_map, List.getElem?_take_of_lt hj]
    simp [putCells, show j < d.size by omega, show j < cur.size by omega]
  · rw [List.getElem?_take_eq_none (by omega), List.getElem?_eq_none (by simp; omega)]
theorem holds_blk (d : Array α) (hb : w.heap[g]? = some (.cells cur e (0, 0))) (ht : cur.toList.take d.size = d.toList.map enc) : Holds enc w g 0 d := by
  intro j hj
  refine ⟨?_, by simp [World.frozen?, hb]⟩
  have h1 : (cur.toList.take d.size)[j]? = (d.toList.map enc)[j]? := by rw [ht]
  rw [List.getElem?_take_of_lt hj] at h1
  simp only [World.cell?, hb, Nat.zero_add]
  simp only [Option.isSome_none, Bool.false_eq_true, if_false]
  rw [← Array.getElem?_toList, h1]
  simp [hj]
end
def ReadsR (P : Program) (g : Nat) (f : List Int → List Int → Value) : Prop := ∀ (W : World) (x y : Row), RowAt W false x → RowAt W false y → x.xs.length ≤ 1000000 → y.xs.length ≤ 1000000 →
  Calls P g #[encR x, encR y] W fun e w' => e = .returned (f x.xs y.xs) ∧ ∃ q, w' = W.drewN q
end Go.Proofs.YtekpamojojfplaaGreat
namespace Go.Proofs.YtekpamojojfplaaGreat
open Go.RowKit Go.Sort Go.Lib Go.Shelf
def encV (x : Row × Int) : List Value := [encR x.1, .int .i64 x.2]
theorem vflat_len {α : Type} {f : α → List Value} {m : Nat} (hf : ∀ x, (f x).length = m) : ∀ (l : List α), (l.flatMap f).length = l.length * m
  | [] => by simp
  | x :: l => by rw [List.flatMap_cons, List.length_append, hf, vflat_len hf l, List.length_cons, Nat.succ_mul]; omega
theorem vflat_get {α : Type} {f : α → List Value} {m : Nat} (hf : ∀ x, (f x).length = m) :
    ∀ (l : List α) (i j : Nat) (h : i < l.length), j < m → (l.flatMap f)[i * m + j]? = (f l[i])[j]?
  | [], _, _, h, _ => by simp at h
  | x :: l, 0, j, _, hj => by
    rw [List.flatMap_cons, List.getElem?_append_left (by rw [hf]; omega)]; simp
  | x :: l, i + 1, j, h, hj => by
    rw [List.flatMap_cons, List.getElem?_append_right (by rw [hf, Nat.succ_mul]; omega), hf, show (i + 1) * m + j - m = i * m + j by rw [Nat.succ_mul]; omega]
    exact vflat_get hf l i j (by simpa using h) hj
theorem flatK_list {α : Type} [Inhabited α] {f : α → List Value} (hf : ∀ x, (f x).length = 2) (d : Array α) : (flatK f 2 d).toList = d.toList.flatMap f := by
  apply List.ext_getElem?
  intro t
  by_cases ht : t < d.size * 2
  · have h1 : t / 2 < d.toList.length := by rw [Array.length_toList]; omega
    have e := vflat_get hf d.toList (t / 2) (t % 2) h1 (by omega)
    rw [show t / 2 * 2 + t % 2 = t by omega] at e
    have g := get_flatK f 2 d t ht
    have hs : t < (flatK f 2 d).size := by rw [size_flatK]; exact ht
    rw [getElem!_pos (flatK f 2 d) t hs, getElem!_pos d (t / 2) (by omega)] at g
    have h2 : t % 2 < (f d[t / 2]).length := by rw [hf]; omega
    rw [e, Array.getElem?_toList, Array.getElem?_eq_getElem hs, g]
    rw [getElem!_pos (f d[t / 2]) (t % 2) h2, ← List.getElem?_eq_getElem h2]
    simp
  · rw [List.getElem?_eq_none (by rw [Array.length_toList, size_flatK]; omega), List.getElem?_eq_none (by rw [vflat_len hf, Array.length_toList]; omega)]
theorem flat_vals (l : List (Row × Int)) (ρ : Rho) : cells ρ (Elts.vals true l).all = l.flatMap encV := by
  simp only [Elts.all, cells, List.map_flatMap]
  rfl
theorem keys_vals (l : List (Row × Int)) : (Elts.vals true l).keys = [] := vals_keys
theorem vals_over {E : Env} {ρ : Rho} {t t' : TypeId} {cap : Nat} {l l' : List (Row × Int)} {lt : List Row} {w w' : World} {g : Nat} (h : HInv E ρ (lk [(1, .own t cap (.vals true l)), (2, .tok t' false lt)]) 3 w)
    (hp : ρ 1 = some (g, 0)) (hg : w.grownBy w' (some g)) (hb : w'.ownsRow 0 t 2 (.slice (some ⟨g, 0, none⟩) l'.length cap) l'.length (l'.flatMap encV)) (hs : ∀ r ∈ l', r ∈ l) :
    HInv E ρ (lk [(1, .own t cap (.vals true l')), (2, .tok t' false lt)]) 3 w' := by
  have h1 := h.over (k := 1) (e' := .vals true l') rfl hp hg (by
    simp only [BlkOK, flat_vals]
    simpa [adr, hp, Elts.sz, Elts.len] using hb) (by rw [keys_vals]; simp) (fun x hx => by
      obtain ⟨r, hr, rfl⟩ := List.mem_map.1 hx
      exact h.rows 1 _ rfl _ (List.mem_map.2 ⟨r, hs r hr, rfl⟩)) fun k1 b1 p g' hk ho hp' hf => by
        obtain ⟨x, hx, hl, hq⟩ := hf
        obtain ⟨r, hr, rfl⟩ := List.mem_map.1 hx
        exact h.far k1 1 b1 _ p g' hk rfl ho hp' ⟨_, List.mem_map.2 ⟨r, hs r hr, rfl⟩, hl, hq⟩
  refine cast ?_ h1
  congr 1
  funext k
  by_cases e : k = 1
  · subst e; rfl
  · rw [upd_ne e]
    simp only [lk, nbeq_ne e, cond_false]
theorem vals_sealed {E : Env} {ρ' : Rho} {t t' : TypeId} {cap : Nat} {l' : List (Row × Int)} {lt : List Row} {w : World} (h : HInv E ρ' (lk [(1, .own t cap (.vals true l')), (2, .tok t' false lt)]) 3 w) (hs : ∀ r ∈ l', r.1 ∈ lt) :
    Sealed E (lk [(1, .own t cap (.vals true l')), (2, .tok t' false lt)]) :=
  BackedL.sealed h ⟨.inr ⟨2, t', lt, rfl, hs⟩, trivial, trivial⟩
theorem vals_told {E : Env} {ρ : Rho} {t t' : TypeId} {cap : Nat} {l : List (Row × Int)} {lt : List Row} {w : World} (h : HInv E ρ (lk [(1, .own t cap (.vals false l)), (2, .tok t' false lt)]) 3 w) (hs : ∀ r ∈ l, r.1 ∈ lt) : HInv E ρ (lk [(1, .own t cap (.vals true l)), (2, .tok t' false lt)]) 3 w := by
  have h1 := h.tell (k := 1) (kt := 2) (e' := .vals true l) Zz Zz Zz fun x hx => by
    obtain ⟨r, hr, rfl⟩ := List.mem_map.1 hx
    exact ⟨rfl, hs r hr⟩
  refine cast ?_ h1
  congr 1
  funext k
  by_cases e : k = 1
  · subst e; rfl
  · rw [upd_ne e]
    simp only [lk, nbeq_ne e, cond_false]
def Vx (x : Row × Int) : List Int × Int := (x.1.xs, x.2)
def VB (x : Row × Int) : Prop := x.1.xs.length ≤ 1000000 ∧ -4000000000000000000 ≤ x.2 ∧ x.2 ≤ 4000000000000000000
def ReadsV (P : Program) (g : Nat) (f : List Int × Int → List Int × Int → Int) : Prop := ∀ (W : World) (x y : Row × Int), RowAt W false x.1 → RowAt W false y.1 → VB x → VB y →
  Calls P g #[.agg (encV x).toArray, .agg (encV y).toArray] W fun e w' => e = .returned (.int .i64 (f (Vx x) (Vx y))) ∧ ∃ q os', w' = Sort.grow (W.drewN q) os'
theorem vals_at {ρ : Rho} {t : TypeId} {cap : Nat} {l : List (Row × Int)} {w : World} (h : BlkOK ρ 1 w (.own t cap (.vals true l))) (hl : l ≠ []) :
    ∃ g cur, ρ 1 = some (g, 0) ∧ w.heap[g]? = some (.cells cur t (0, 0)) ∧ l.length ≤ cap ∧ cap ≤ maxLen ∧ cur.size = cap * 2 ∧ cur.toList.take (l.length * 2) = l.flatMap encV := by
  simp only [BlkOK, flat_vals] at h
  rcases h.2 with ⟨_, h0⟩ | ⟨g, cap', cur, hv, _, hb, h1, h2, h3, h4⟩
  · exact absurd (List.eq_nil_of_length_eq_zero h0) hl
  · cases hp : ρ 1 with
    | none => simp [adr, hp] at hv
    | some p =>
      simp [adr, hp] at hv
      obtain ⟨⟨rfl, e2⟩, _, rfl⟩ := hv
      refine ⟨p.1, cur, ?_, hb, h1, h2, h3, ?_⟩
      · rw [show p = (p.1, p.2) from rfl, e2]
      · simpa [Elts.sz, Elts.len] using h4
def SortedV (t : TypeId) (cap : Nat) (t' : TypeId) (l : List (Row × Int)) (lt : List Row) (cf : List Int × Int → List Int × Int → Int) (v : AV) (Hout : List (Nat × Blk)) (n : Nat) : Prop :=
  ∃ l' : List (Row × Int), l'.Perm l ∧ (l'.Pairwise fun x y => ¬ cf (Vx y) (Vx x) < 0) ∧ v = .tup [] ∧ Hout = [(1, .own t cap (.vals true l')), (2, .tok t' false lt)] ∧ n = 3
theorem d_sortVals (g : Nat) (cf : List Int × Int → List Int × Int → Int) (hO : SWO (ltOf cf)) (eg : ∀ args w, (callFunc g args).run Tryz.prog w = .ok (.enter g args) w) (hcmp : ReadsV Tryz.prog g cf)
    (l : List (Row × Int)) (lt : List Row) (t t' : TypeId) (cap : Nat) (hl : l.length ≤ 1000000) (hr : ∀ r ∈ l, VB r) (hlt : ∀ r ∈ l, r.1 ∈ lt) :
    Does Tryz.prog 139 [.one (.sl 1 2 0 l.length cap), .one (.fn g [])] [(1, .own t cap (.vals false l)), (2, .tok t' false lt)] 3 (SortedV t cap t' l lt cf) := by
  refine ⟨?_, fun ρ w hH0 hk => ?_⟩
  · exact ⟨_, Tryz.func139, by kernel_rfl, by kernel_rfl⟩
  have hH := vals_told hH0 hlt
  clear hH0
  by_cases h0 : l = []
  · subst h0
    refine Calls.mono (AnyF.slices_SortFunc_none { Tryz.l6k with } (adr ρ 1 (0 * 2)) cap _ w) fun e w' ⟨he, hw⟩ => ?_
    subst hw
    exact ⟨ρ, .tup [], _, 3, ⟨[], List.Perm.refl _, List.Pairwise.nil, rfl, rfl, rfl⟩, he, hH, (by intro k hk; cases hk), vals_sealed hH (by simp)⟩
  · obtain ⟨b, cur, hp, hb, h1, h2, h3, h4⟩ := vals_at (hH.blk 1 _ rfl) h0
    let α := {r : Row × Int // r ∈ l}
    obtain ⟨r0, hr0⟩ := List.exists_mem_of_ne_nil l h0
    haveI : Inhabited α := ⟨⟨r0, hr0⟩⟩
    let enc : α → List Value := fun r => encV r.1
    have hk2 : ∀ x : α, (enc x).length = 2 := fun _ => rfl
    let d : Array α := l.attach.toArray
    have hds : d.size = l.length := by show l.attach.toArray.size = _; rw [List.size_toArray]; exact List.length_attach
    have hdl : (flatK enc 2 d).toList = l.flatMap encV := by
      rw [flatK_list hk2]
      show l.attach.toArray.toList.flatMap (fun r : α => encV r.1) = _
      rw [show (fun r : α => encV r.1) = fun r => encV (Subtype.val r) from rfl, ← List.flatMap_map Subtype.val encV, List.attach_map_subtype_val]
    have hrow : ∀ x ∈ l, RowAt w false x.1 := fun x hx => hH.rows 1 _ rfl _ (List.mem_map.2 ⟨x, hx, rfl⟩)
    have hfar : ∀ x ∈ l, ∀ p, x.1.a = some p → 0 < x.1.len false → p.1 ≠ b := fun x hx p hp' hl' e => hH.far 1 1 _ _ (b, 0) p.1 Zz Zz Zz hp ⟨_, List.mem_map.2 ⟨x, hx, rfl⟩, hl', p, hp', rfl⟩ e.symm
    have hs := AnyQ.slices_SortFunc (P := Tryz.prog) (ρ := Tryz.l6k_ren) (α := α) Tryz.l6k 2 Tryz.isAgg94 Tryz.sizeOf94 enc hk2 (fun x v hv => by simp only [enc, encV, List.mem_cons, List.not_mem_nil, or_false] at hv; rcases hv with rfl | rfl <;> rfl) (fun x y => cf (Vx x.1) (Vx y.1)) ⟨fun x => hO.irrefl (Vx x.1), fun x y z => hO.trans (Vx x.1) (Vx y.1) (Vx z.1), fun x y z => hO.ntrans (Vx x.1) (Vx y.1) (Vx z.1)⟩ g #[] b 0 cap d w eg
      (fun m os dk hdk x y => by
        exact hcmp _ x.1 y.1 ((hrow _ x.2).grown (grown_put (enc := id) (flatK enc 2 dk)) fun p hp' hl' e => hfar _ x.2 p hp' hl' (by injection e)) ((hrow _ y.2).grown (grown_put (enc := id) (flatK enc 2 dk)) fun p hp' hl' e => hfar _ y.2 p hp' hl' (by injection e)) (hr _ x.2) (hr _ y.2))
      (holds_blk (enc := id) (flatK enc 2 d) hb (by rw [size_flatK, hds, h4, hdl, List.map_id])) (Array.getElem?_eq_some_iff.1 hb).1 (by omega)
    have hargs : ([AV.one (.sl 1 2 0 l.length cap), AV.one (.fn g [])].map (AV.conc ρ)).toArray = #[.slice (some ⟨b, 0, none⟩) d.size cap, .func (.func g) #[] #[]] := by
      rw [hds]; simp [AV.conc, SV.conc, adr, hp]
    rw [hargs]
    refine Calls.mono hs fun e w' ⟨he, d', n, os, hperm, hsort, hw⟩ => ?_
    obtain ⟨p1, p2, p3⟩ := hperm
    have e1 : d'.extract 0 d.size = d' := by rw [← p1, Array.extract_size]
    have e2 : d.extract 0 d.size = d := Array.extract_size
    rw [e1, e2] at p3
    have hl' : (d'.toList.map Subtype.val).length = l.length := by simp [p1, hds]
    have hperm' : (d'.toList.map Subtype.val).Perm l := by
      have := p3.map Subtype.val
      rw [show d.toList = l.attach from rfl, List.attach_map_subtype_val] at this
      exact this
    have hfl : (flatK enc 2 d').toList = (d'.toList.map Subtype.val).flatMap encV := by
      rw [flatK_list hk2, List.flatMap_map]
    have hsz' : (flatK enc 2 d').size = l.length * 2 := by rw [size_flatK, p1, hds]
    have hw' : w' = sortWorld id w b 0 n (flatK enc 2 d') os := hw
    have hown : w'.ownsRow 0 t 2 (.slice (some ⟨b, 0, none⟩) (d'.toList.map Subtype.val).length cap) (d'.toList.map Subtype.val).length ((d'.toList.map Subtype.val).flatMap encV) := by
      refine ⟨by rw [vflat_len (f := encV) (m := 2) (fun _ => rfl)], .inr ⟨b, cap, _, rfl, Nat.zero_le _, by rw [hw']; exact heap_put (flatK enc 2 d') hb, by omega, h2, by simp [putCells, h3], ?_⟩⟩
      rw [hl', take_put (flatK enc 2 d') (by rw [hsz', h3]; omega) (l.length * 2) (by omega), List.take_of_length_le (by rw [Array.length_toList]; omega), List.map_id, hfl]
    have hH2 := vals_over hH hp (w' := w') (by rw [hw']; exact grown_put (enc := id) (flatK enc 2 d')) hown fun r hr => hperm'.mem_iff.1 hr
    refine ⟨ρ, .tup [], _, 3, ⟨_, hperm', ?_, rfl, rfl, rfl⟩, he, hH2, (by intro k hk; cases hk), vals_sealed hH2 fun r hr => hlt r (hperm'.mem_iff.1 hr)⟩
    rw [List.pairwise_map, List.pairwise_iff_getElem]
    intro i j hi hj hij
    have := hsort i j (Nat.zero_le _) hij (by rw [← p1]; simpa using hj)
    simp only [Array.length_toList] at hi hj
    simp only [getElem!_pos d' i hi, getElem!_pos d' j hj, ltOf, decide_eq_false_iff_not] at this
    simpa using this
end Go.Proofs.YtekpamojojfplaaGreat
namespace Go.Proofs.YtekpamojojfplaaGreat
open Go.RowKit Go.Sort Go.Lib Go.Shelf
theorem RowAt.cellAt {w : World} {r : Row} (h : RowAt w false r) {k : Nat} (hk : k < r.xs.length) : ∃ b o, r.val false = .slice (some ⟨b, o, none⟩) r.xs.length r.cap ∧ w.cell? ⟨b, o + k, none⟩ = some (.int .i64 r.xs[k]) := by
  unfold RowAt at h
  cases hp : r.a with
  | none => rw [hp] at h; simp only [Row.len] at h; omega
  | some p =>
    rw [hp] at h
    refine ⟨p.1, p.2, by simp [Row.val, hp, Row.len], ?_⟩
    exact h.2 k (.int r.xs[k]) (by simp [Row.svs, hk])
theorem val_len (r : Row) : r.val false = .slice (r.a.map fun p => ⟨p.1, p.2, none⟩) r.xs.length r.cap := rfl
set_option maxHeartbeats 400000 in
theorem isNaN_any (n : Int) (w : World) : Calls Tryz.prog 213 #[.int .i64 n] w fun e w' => e = .returned (.bool false) ∧ w = w' := by
  go_enter Tryz.func213, Tryz.ntmps213
  go_wp2
  go_ret
  exact ⟨ret_bool (by simp), rfl⟩
def cmpI (a b : Int) : Int := if a < b then -1 else if b < a then 1 else 0
set_option maxHeartbeats 1000000 in
theorem cmpInt_any (a b : Int) (w : World) : Calls Tryz.prog 175 #[.int .i64 a, .int .i64 b] w fun e w' => e = .returned (.int .i64 (cmpI a b)) ∧ w = w' := by
  go_enter Tryz.func175, Tryz.ntmps175
  go_wp2_with (go_at_call 213; refine (isNaN_any _ _).mono ?_; rintro e w' ⟨rfl, rfl⟩)
  all_goals go_ret
  all_goals exact ⟨ret_int (by unfold cmpI; first | (rw [if_pos ‹_›]; done) | (rw [if_neg ‹_›, if_pos ‹_›]; done) | (rw [if_neg (by omega), if_pos (by omega)]; done) | (rw [if_neg (by omega), if_neg (by omega)])), rfl⟩
theorem cmpI_neg {a b : Int} (h : a < b) : cmpI a b = -1 := by simp [cmpI, h]
theorem cmpI_pos {a b : Int} (h : b < a) : cmpI a b = 1 := by unfold cmpI; rw [if_neg (by omega), if_pos h]
theorem cmpI_eq (a : Int) : cmpI a a = 0 := by simp [cmpI]
theorem cmpL_drop : ∀ {k : Nat} {s t : List Int}, k ≤ s.length → k ≤ t.length → s.take k = t.take k → cmpL s t = cmpL (s.drop k) (t.drop k)
  | 0, _, _, _, _, _ => by simp
  | k + 1, [], _, h, _, _ => by simp at h
  | k + 1, _ :: _, [], _, h, _ => by simp at h
  | k + 1, a :: s, b :: t, h1, h2, h => by
    simp only [List.take_succ_cons, List.cons.injEq] at h
    obtain ⟨rfl, h⟩ := h
    rw [cmpL, if_neg (by omega), if_neg (by omega), List.drop_succ_cons, List.drop_succ_cons]
    exact cmpL_drop (by simpa using h1) (by simpa using h2) h
theorem cmpL_at {k : Nat} {s t : List Int} (h1 : k < s.length) (h2 : k < t.length) (h : s.take k = t.take k) (hne : s[k] ≠ t[k]) : cmpL s t = if s[k] < t[k] then -1 else 1 := by
  rw [cmpL_drop (by omega) (by omega) h, List.drop_eq_getElem_cons h1, List.drop_eq_getElem_cons h2, cmpL]
  split
  · rfl
  · rw [if_pos (by omega)]
theorem cmpL_longer {s t : List Int} (h1 : t.length < s.length) (h : s.take t.length = t) : cmpL s t = 1 := by
  rw [cmpL_drop (k := t.length) (by omega) (Nat.le_refl _) (by rw [h]; simp), List.drop_of_length_le (Nat.le_refl t.length)]
  cases hd : s.drop t.length with
  | nil =>
    have := congrArg List.length hd
    rw [List.length_drop] at this
    simp at this; omega
  | cons a l => rfl
theorem cmpL_end {s t : List Int} (h1 : s.length ≤ t.length) (h : s = t.take s.length) : cmpL s t = if s.length < t.length then -1 else 0 := by
  rw [cmpL_drop (k := s.length) (Nat.le_refl _) h1 (by rw [← h]; simp), List.drop_of_length_le (Nat.le_refl _)]
  split
  · rename_i hlt
    rw [List.drop_eq_getElem_cons hlt]; simp [cmpL]
  · rw [List.drop_of_length_le (by omega)]; rfl
set_option maxHeartbeats 4000000 in
theorem cmpR_any (x y : Row) (w : World) (hx : RowAt w false x) (hy : RowAt w false y) (lx : x.xs.length ≤ 1000000) (ly : y.xs.length ≤ 1000000) :
    Calls Tryz.prog 141 #[encR x, encR y] w fun e w' => e = .returned (.int .i64 (cmpL x.xs y.xs)) ∧ w = w' := by
  have HX : Aside (∀ k (hk : k < x.xs.length), ∃ b o, x.val false = .slice (some ⟨b, o, none⟩) x.xs.length x.cap ∧ w.cell? ⟨b, o + k, none⟩ = some (.int .i64 x.xs[k])) := fun k hk => hx.cellAt hk
  have HY : Aside (∀ k (hk : k < y.xs.length), ∃ b o, y.val false = .slice (some ⟨b, o, none⟩) y.xs.length y.cap ∧ w.cell? ⟨b, o + k, none⟩ = some (.int .i64 y.xs[k])) := fun k hk => hy.cellAt hk
  clear hx hy
  simp only [encR]
  rw [val_len] at HX
  rw [val_len] at HY
  rw [val_len, val_len]
  generalize x.a.map (fun p => (⟨p.1, p.2, none⟩ : Addr)) = A at *
  generalize y.a.map (fun p => (⟨p.1, p.2, none⟩ : Addr)) = B at *
  generalize x.xs = xs at *
  generalize y.xs = ys at *
  generalize x.cap = cx at *
  generalize y.cap = cy at *
  go_enter Tryz.func141, Tryz.ntmps141
  go_wp2
  go_loopw [11] (fun i wr => ∃ k : Nat, k ≤ xs.length ∧ k ≤ ys.length ∧ i = .int .i64 k ∧ Hid (xs.take k = ys.take k) ∧ wr = w) (fun i _ => xs.length - (intOf i).toNat)
  case atStart => exact ⟨0, Nat.zero_le _, Nat.zero_le _, rfl, rfl, rfl⟩
  case round =>
    obtain ⟨k, hk, hk', rfl, he, rfl⟩ := hrel
    by_cases h1 : k < xs.length
    · obtain ⟨b, o, e1, c1⟩ := HX.out k h1
      injection e1 with e1 _ _
      subst e1
      by_cases h2 : k < ys.length
      · obtain ⟨b', o', e2, c2⟩ := HY.out k h2
        injection e2 with e2 _ _
        subst e2
        have K : Aside (xs.take k = ys.take k) := he
        clear he
        have E1 : Aside (cmpL xs ys = if xs[k] < ys[k] then -1 else if ys[k] < xs[k] then 1 else cmpL xs ys) := by
          show _ = _
          by_cases e : xs[k] = ys[k]
          · rw [if_neg (by omega), if_neg (by omega)]
          · have := cmpL_at h1 h2 K.out e
            rw [this]
            split
            · rfl
            · rw [if_pos (by omega)]
        have E2 : Aside (xs[k] = ys[k] → xs.take (k + 1) = ys.take (k + 1)) := by
          show _ → _
          intro e
          rw [List.take_succ_eq_append_getElem h1, List.take_succ_eq_append_getElem h2, K.out, e]
        generalize xs[k] = a at *
        generalize ys[k] = b at *
        rcases Int.lt_trichotomy a b with hab | rfl | hab
        · have hc := cmpI_neg hab
          go_wp2_with (go_at_call 175; refine (cmpInt_any _ _ _).mono ?_; rintro e w' ⟨rfl, rfl⟩; rw [hc])
          go_ret
          refine ⟨ret_int ?_, rfl⟩
          rw [E1.out, if_pos hab]
        · have hc := cmpI_eq a
          go_wp2_with (go_at_call 175; refine (cmpInt_any _ _ _).mono ?_; rintro e w' ⟨rfl, rfl⟩; rw [hc])
          go_roundw
          case rel => exact ⟨k + 1, h1, h2, by go_num, E2.out trivial, by first | rfl | trivial⟩
          case measure => simp [intOf]; omega
        · have hc := cmpI_pos hab
          go_wp2_with (go_at_call 175; refine (cmpInt_any _ _ _).mono ?_; rintro e w' ⟨rfl, rfl⟩; rw [hc])
          go_ret
          refine ⟨ret_int ?_, rfl⟩
          rw [E1.out, if_neg (by omega), if_pos hab]
      · have hk2 : k = ys.length := by omega
        have R : Aside (cmpL xs ys = 1) := by
          refine cmpL_longer (by omega) ?_
          have := he.out
          rw [hk2, List.take_of_length_le (Nat.le_refl ys.length)] at this
          exact this
        clear he
        subst hk2
        go_wp2
        go_ret
        exact ⟨ret_int R.out.symm, rfl⟩
    · have hk2 : k = xs.length := by omega
      have R : Aside (cmpL xs ys = if xs.length < ys.length then -1 else 0) := by
        refine cmpL_end (by omega) ?_
        have := he.out
        rw [hk2, List.take_of_length_le (Nat.le_refl xs.length)] at this
        exact this
      clear he
      by_cases hlt : xs.length < ys.length
      · go_wp2
        go_ret
        refine ⟨ret_int ?_, rfl⟩
        rw [R.out, if_pos hlt]
      · go_wp2
        go_ret
        refine ⟨ret_int ?_, rfl⟩
        rw [R.out, if_neg hlt]
end Go.Proofs.YtekpamojojfplaaGreat
