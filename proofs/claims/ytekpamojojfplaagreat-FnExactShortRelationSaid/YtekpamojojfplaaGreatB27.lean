/-
  TEXTS OF THE PROOF, put together: pShort, bPos, bTimes, bVal, bNeg, bPart.
-/
import Derived.Test.YtekpamojojfplaaGreatB26
import Derived.Test.YtekpamojojfplaaGreatB11
import Derived.Test.YtekpamojojfplaaGreatB06
import Derived.Test.YtekpamojojfplaaGreatB19
import Derived.Test.YtekpamojojfplaaGreatB25
import Derived.Test.YtekpamojojfplaaGreatB10
set_option linter.unusedVariables false
set_option linter.unusedSimpArgs false
namespace Go.Proofs.YtekpamojojfplaaGreat
def conS (r c : Int) (g : List Int) (b : Int) (v : List Int) : Bool := posF v && (match vatO r c g v with
  | some n => decide (1 ≤ n ∧ n ≤ b)
  | none => false)
def baseS (r c : Int) (g : List Int) (b : Int) (L : List (List Int)) : List (List Int × Int) := (L.filter (conS r c g b)).map fun v => (v, (vatO r c g v).getD 0)
def shV (r c : Int) (g : List Int) (b : Int) : Option (List (List Int × Int)) := ((boxG r c g b).bind fun w => boxO (w.map fun x => -x) w).map fun L => putsV (baseS r c g b L)
def shO (r c : Int) (g : List Int) (b : Int) : Option (List (List Int)) := (shV r c g b).map fun S => S.map Prod.fst
theorem root_le {x m : Int} (hm : 0 ≤ m) (h : x * x ≤ m) : -((rootN m : Nat) : Int) ≤ x ∧ x ≤ (rootN m : Nat) := by
  have hr := (rootN_spec hm).2
  constructor
  · rcases Int.lt_or_le x (-((rootN m : Nat) : Int)) with c | c
    · have := Int.mul_le_mul (show ((rootN m : Nat) + 1 : Int) ≤ -x by omega) (show ((rootN m : Nat) + 1 : Int) ≤ -x by omega) (by omega) (by omega)
      rw [Int.neg_mul_neg] at this; omega
    · exact c
  · rcases Int.lt_or_le ((rootN m : Nat) : Int) x with c | c
    · have := Int.mul_le_mul (show ((rootN m : Nat) + 1 : Int) ≤ x by omega) (show ((rootN m : Nat) + 1 : Int) ≤ x by omega) (by omega) (by omega)
      omega
    · exact c
theorem bxTo_at {a : List Int} {n : Nat} {b d : Int} : ∀ {i : Nat} {l : List Int}, bxTo a n b d i = some l → ∀ k, k < i → l.getD k 0 = ((rootN ((b * a.getD (k * n + k) 0).tdiv d) : Nat) : Int) ∧ numB (b * a.getD (k * n + k) 0) = true
  | 0, l, h, k, hk => by omega
  | i + 1, l, h, k, hk => by
    rw [bxTo, Option.bind_eq_some_iff] at h
    obtain ⟨l0, h1, h2⟩ := h
    have hl := bxTo_len h1
    split at h2
    · rename_i hn
      cases h2
      by_cases c : k < i
      · rw [getD_app (by omega)]; exact bxTo_at h1 k c
      · obtain rfl : k = i := by omega
        rw [getD_apR (by omega), hl, Nat.sub_self]
        exact ⟨rfl, hn⟩
    · cases h2
theorem box_has {lo hi : List Int} : ∀ {t : Nat} {v : List Int}, v.length = t → (∀ k, k < t → lo.getD k 0 ≤ v.getD k 0 ∧ v.getD k 0 ≤ hi.getD k 0) → v ∈ boxTo lo hi t
  | 0, v, hv, _ => by
    obtain rfl : v = [] := List.eq_nil_of_length_eq_zero hv
    simp [boxTo]
  | t + 1, v, hv, h => by
    rw [boxTo, List.mem_flatMap]
    have ht : t < v.length := by omega
    refine ⟨v.take t, box_has (by rw [List.length_take]; omega) fun k hk => ?_, List.mem_map.2 ⟨v.getD t 0, ?_, ?_⟩⟩
    · rw [List.getD_eq_getElem?_getD (l := v.take t), List.getElem?_take, if_pos hk, ← List.getD_eq_getElem?_getD]
      exact h k (by omega)
    · obtain ⟨h1, h2⟩ := h t (by omega)
      refine List.mem_map.2 ⟨(v.getD t 0 - lo.getD t 0).toNat, List.mem_range.2 ?_, by omega⟩
      unfold widW; omega
    · rw [getD_in ht, ← List.take_succ_eq_append_getElem ht, List.take_of_length_le (by omega)]
theorem cofV_W {m k : Nat} {g : List Int} (hk : k < m + 1) (h : numB (cofV g (m + 1) k k) = true) : cofV g (m + 1) k k = cofW m (mxL (m + 1) g) k k := by
  unfold cofV at h ⊢
  split
  · rename_i d hd
    rw [if_neg (by omega)]
    show d = sgnN (k + k) * detF m (minF (mxL (m + 1) g) k k)
    rw [sgnN_add, sgnN_sq, Int.one_mul, detZ_F hd]
    exact detF_congr fun a b ha hb => by
      show (minM g (m + 1) k k (m + 1)).getD (a * m + b) 0 = g.getD (skp k a * (m + 1) + skp k b) 0
      exact minM_at hk (skp_lt ha) hb
  · rename_i hd
    rw [hd] at h
    cases h
theorem boxG_some {r c : Int} {g w : List Int} {b : Int} (h : boxG r c g b = some w) : ∃ n : Nat, r = n ∧ c = n ∧ n ≤ 6 ∧ defB r c g = true ∧ 0 ≤ b ∧ b ≤ 10000 ∧ w.length = n ∧ (∀ k, 0 ≤ w.getD k 0 ∧ w.getD k 0 ≤ 400000000) ∧
    ∀ x : Vec, bilM n (mxL n g) x x ≤ b → ∀ k, k < n → -(w.getD k 0) ≤ x k ∧ x k ≤ w.getD k 0 := by
  unfold boxG at h
  obtain ⟨a, ha, h⟩ := Option.bind_eq_some_iff.1 h
  split at h
  · rename_i hc
    rw [Bool.and_eq_true] at hc
    obtain ⟨n, rfl, rfl, hn, hx, hnum, hsym, hpos, hdet⟩ := defB_pos hc.1
    obtain ⟨d, hd, hd0⟩ := defB_det hc.1
    have hb := inB_true.1 hc.2
    rw [hd, Int.toNat_natCast, Option.getD_some] at h
    have hwl := bxTo_len h
    have hwb : ∀ k, 0 ≤ w.getD k 0 ∧ w.getD k 0 ≤ 400000000 := fun k => by
      by_cases hk : k < n
      · obtain ⟨e, e2⟩ := bxTo_at h k hk
        rw [e]
        refine ⟨by omega, ?_⟩
        have hnb := numB_true.1 e2
        have htb := tdiv_bdN (d := d) hnb
        have := root_bd ((b * a.getD (k * n + k) 0).tdiv d)
        omega
      · rw [List.getD_eq_getElem?_getD, List.getElem?_eq_none (by omega)]
        exact ⟨Int.le_refl 0, by decide⟩
    refine ⟨n, rfl, rfl, hn, hc.1, hb.1, hb.2, hwl, hwb, fun x hxb k hk => ?_⟩
    obtain ⟨m, rfl⟩ : ∃ m, n = m + 1 := ⟨n - 1, by omega⟩
    have hak : a.getD (k * (m + 1) + k) 0 = cofW m (mxL (m + 1) g) k k ∧ numB (cofV g (m + 1) k k) = true := by
      unfold adjZ at ha
      split at ha
      · rename_i hca
        rw [Bool.and_eq_true, Int.toNat_natCast] at hca
        rw [Int.toNat_natCast] at ha
        cases ha
        have := numB_true.2 (num_getD hca.2 (k * (m + 1) + k))
        rw [cofL_at hk hk] at this
        rw [turnM_at (P := cofL g (m + 1)) hk hk, cofL_at hk hk]
        exact ⟨cofV_W hk this, this⟩
      · cases ha
    have hdd : d = detF (m + 1) (mxL (m + 1) g) := by
      unfold detB at hd
      split at hd
      · rw [Int.toNat_natCast] at hd; exact detZ_F hd
      · cases hd
    have h1 := adj_bound hsym hpos (by rw [← hdd]; exact hd0) hk x
    have h2 := cof_pos hpos (by rw [← hdd]; exact hd0) hk
    rw [← hdd, ← hak.1] at h1
    rw [← hak.1] at h2
    have h3 : x k * x k * d ≤ b * a.getD (k * (m + 1) + k) 0 := Int.le_trans h1 (Int.mul_le_mul_of_nonneg_right hxb (by omega))
    rw [(bxTo_at h k hk).1]
    have h4 : 0 ≤ b * a.getD (k * (m + 1) + k) 0 := Int.mul_nonneg hb.1 (by omega)
    refine root_le ?_ ?_
    · rw [Int.tdiv_eq_ediv_of_nonneg h4]; exact Int.ediv_nonneg h4 (by omega)
    · rw [Int.tdiv_eq_ediv_of_nonneg h4]; exact (Int.le_ediv_iff_mul_le hd0).2 h3
  · cases h
theorem shO_some {r c : Int} {g : List Int} {b : Int} {S : List (List Int)} (h : shO r c g b = some S) : ∃ (w : List Int) (L : List (List Int)), boxG r c g b = some w ∧ boxO (w.map fun x => -x) w = some L ∧ shV r c g b = some (putsV (baseS r c g b L)) ∧ S = (putsV (baseS r c g b L)).map Prod.fst := by
  unfold shO at h
  obtain ⟨P, hP, rfl⟩ := Option.map_eq_some_iff.1 h
  have hP' := hP
  unfold shV at hP
  obtain ⟨L, hL, rfl⟩ := Option.map_eq_some_iff.1 hP
  obtain ⟨w, h1, h2⟩ := Option.bind_eq_some_iff.1 hL
  exact ⟨w, L, h1, h2, hP', rfl⟩
theorem sh_iff {r c : Int} {g : List Int} {b : Int} {S : List (List Int)} (h : shO r c g b = some S) (v : List Int) : v ∈ S ↔ posF v = true ∧ ∃ z, vatO r c g v = some z ∧ 1 ≤ z ∧ z ≤ b := by
  obtain ⟨w, L, h1, h2, -, rfl⟩ := shO_some h
  obtain ⟨n, rfl, rfl, hn, hd, hb0, hb, hwl, hw0, hbox⟩ := boxG_some h1
  have hL : L = boxTo (w.map fun x => -x) w n := by
    unfold boxO at h2
    split at h2
    · cases h2; rw [List.length_map, hwl]
    · cases h2
  have hm : v ∈ (putsV (baseS n n g b L)).map Prod.fst ↔ v ∈ L ∧ conS n n g b v = true := by
    rw [List.mem_map]
    constructor
    · rintro ⟨x, hx, rfl⟩
      obtain ⟨u, hu, rfl⟩ := List.mem_map.1 (mem_puts.1 hx)
      exact List.mem_filter.1 hu
    · intro hv
      exact ⟨_, mem_puts.2 (List.mem_map.2 ⟨v, List.mem_filter.2 hv, rfl⟩), rfl⟩
  have hcon : conS n n g b v = true ↔ posF v = true ∧ ∃ z, vatO n n g v = some z ∧ 1 ≤ z ∧ z ≤ b := by
    unfold conS
    rw [Bool.and_eq_true]
    cases hvo : vatO n n g v with
    | none => simp
    | some z => simp
  rw [hm, hcon]
  refine ⟨fun h => h.2, fun h => ⟨?_, h⟩⟩
  obtain ⟨hp, z, hz, hz1, hzb⟩ := h
  obtain ⟨n', e, -, -, hvl, -, -, rfl⟩ := vatO_some hz
  obtain rfl : n = n' := by omega
  rw [hL]
  refine box_has hvl fun k hk => ?_
  have := hbox (vecL v) hzb k hk
  have e2 : (w.map fun x => -x).getD k 0 = -(w.getD k 0) := by
    rw [List.getD_eq_getElem?_getD, List.getD_eq_getElem?_getD, List.getElem?_map]
    cases w[k]? <;> rfl
  rw [e2]
  exact this
theorem boxO_nodup {lo hi : List Int} {L : List (List Int)} (h : boxO lo hi = some L) : L.Nodup := by
  unfold boxO at h
  split at h
  · cases h; exact box_nodup _
  · cases h
theorem baseS_nodup {r c : Int} {g : List Int} {b : Int} {L : List (List Int)} (h : L.Nodup) : (baseS r c g b L).Nodup := by
  refine List.pairwise_map.2 ((h.filter _).imp fun {x y} h e => h ?_)
  exact (Prod.ext_iff.1 e).1
end Go.Proofs.YtekpamojojfplaaGreat
namespace Go.Proofs.YtekpamojojfplaaGreat
open Go.RowKit
theorem posF_at : ∀ {v : List Int} {k : Nat}, (∀ i, i < k → v.getD i 0 = 0) → v.getD k 0 ≠ 0 → posF v = decide (0 < v.getD k 0)
  | [], k, _, h => by simp at h
  | x :: t, 0, _, h => by
    have hx : x ≠ 0 := by simpa using h
    rw [posF, if_neg hx]; simp
  | x :: t, k + 1, h0, h => by
    have hx : x = 0 := by simpa using h0 0 (by omega)
    rw [posF, if_pos hx, posF_at (k := k) (fun i hi => by simpa using h0 (i + 1) (by omega)) (by simpa using h)]; simp
theorem posF_no : ∀ {v : List Int}, (∀ i, i < v.length → v.getD i 0 = 0) → posF v = false
  | [], _ => rfl
  | x :: t, h0 => by
    have hx : x = 0 := by simpa using h0 0 (by simp)
    rw [posF, if_pos hx, posF_no fun i hi => by simpa using h0 (i + 1) (by simpa using hi)]
theorem d_posI (v : List Int) (n c : Nat) (hn : n = v.length) (hl : v.length ≤ 1099511627776) : Does Tryz.prog 94 [vS 1 1 0 n c] [(1, .ro (.ints v))] 2 (Ret (vB (posF v)) 2) := by
 subst hn
 refine Does.intro TT Tryz.func94 rfl (by kernel_rfl) Zz Zz fun E hE => ?_
 ((repeat' (first | refine stx ?_ | ((refine w_E (d_firstCell v 0 v.length _ (by omega) hl) Zz Zz Zz Zz Zz Zz Zz ft rfl ?_); rintro w Hout n1 ⟨j, rfl, rfl, rfl, hj⟩; rcases hj with ⟨h0, rfl⟩ | ⟨k, hk, rfl, hz, h0⟩) | (refine stq ?_ ?_ <;> (intro hc; ((try simp at hc) <;> try contradiction))) | fail)) <;> try (exfalso; omega))
 ·refine fin_ret rfl w_3 (congrArg vB (posF_no fun i hi => by have := h0 i hi; rwa [Nat.zero_add] at this).symm) rfl
 ·have e : v.getD (0 + (k : Int).toNat) 0 = v.getD k 0 := by rw [show 0 + (k : Int).toNat = k by omega]
  refine fin_ret rfl w_3 (congrArg vB (by rw [posF_at (k := k) (fun i hi => by have := h0 i hi; rwa [Nat.zero_add] at this) (by rwa [Nat.zero_add] at hz), e])) rfl
theorem d_posS (v : List Int) (n c : Nat) (hn : n = v.length) (hl : v.length ≤ 1099511627776) : Does Tryz.prog 169 [vS 1 1 0 n c] [(1, .ro (.ints v))] 2 (Ret (vB (posF v)) 2) := by
 subst hn
 refine Does.intro TT Tryz.func169 rfl (by kernel_rfl) Zz Zz fun E hE => ?_
 ((repeat' (first | refine stx ?_ | (refine stq ?_ ?_ <;> (intro hc; ((try simp at hc) <;> try contradiction))) | fail)) <;> try (exfalso; omega))
 refine w_G hE (fun k : Nat => k ≤ v.length ∧ ∀ i, i < k → v.getD i 0 = 0) (fun k => v.length - k)
  (fun k => [(0, vS 1 1 0 v.length c), (3, vI k)]) (fun _ => [(1, .ro (.ints v))]) 2 [] 0 ⟨Nat.zero_le _, fun i hi => by omega⟩ ⟨w_1, w_2, rfl⟩ ?_
 rintro k ⟨h1, h2⟩
 have e : v.getD (0 + (k : Int).toNat) 0 = v.getD k 0 := by rw [show 0 + (k : Int).toNat = k by omega]
 by_cases hk : k < v.length
 ·by_cases hz : v.getD k 0 = 0
  ·have hz2 : v[k]?.getD 0 = 0 := by rw [← List.getD_eq_getElem?_getD]; exact hz
   ((repeat' (first | refine stx ?_ | (refine stq ?_ ?_ <;> (intro hc; ((try simp at hc) <;> try contradiction))) | fail)) <;> try (exfalso; omega))
   refine ⟨[], k + 1, ⟨hk, fun i hi => ?_⟩, w_4, ⟨w_1, w_2, rfl⟩⟩
   rcases Nat.lt_or_ge i k with q | q
   ·exact h2 i q
   ·obtain rfl : i = k := by omega
    exact hz
  ·have hz2 : ¬ v[k]?.getD 0 = 0 := by rw [← List.getD_eq_getElem?_getD]; exact hz
   rw [posF_at h2 hz]
   ((repeat' (first | refine stx ?_ | (refine stq ?_ ?_ <;> (intro hc; ((try simp at hc) <;> try contradiction))) | fail)) <;> try (exfalso; omega))
   all_goals refine fin_ret rfl w_3 (congrArg vB (by rw [e])) rfl
 ·obtain rfl : k = v.length := by omega
  rw [posF_no h2]
  ((repeat' (first | refine stx ?_ | (refine stq ?_ ?_ <;> (intro hc; ((try simp at hc) <;> try contradiction))) | fail)) <;> try (exfalso; omega))
  all_goals refine fin_ret rfl w_3 (rfl) rfl
end Go.Proofs.YtekpamojojfplaaGreat
namespace Go.Proofs.YtekpamojojfplaaGreat
open Go.RowKit
def RowM (r c : Int) (t : TypeId) (xs : List Int) (v : AV) (Hout : List (Nat × Blk)) (n1 : Nat) : Prop := ∃ cap, xs.length ≤ cap ∧ v = vM r c 2 xs.length cap ∧ Hout = [(2, .own t cap (.ints xs))] ∧ n1 = 3
theorem RowM.out {r c : Int} {t : TypeId} {xs : List Int} : ∀ v Hout n1, RowM r c t xs v Hout n1 → ∃ b, Hout = [(2, b)] ∧ n1 = 2 + 1 ∧ b.keys = [] := fun _ _ _ ⟨_, _, _, h2, h3⟩ => ⟨_, h2, h3, by simp [Blk.keys, Elts.keys, Elts.all, ints_keys]⟩
theorem d_row (xs : List Int) (c : Nat) (hl : xs.length ≤ 1099511627776) : Does Tryz.prog 77 [vS 1 1 0 xs.length c] [(1, .ro (.ints xs))] 2 (RowM 1 xs.length 3 xs) := by
 refine Does.intro TT Tryz.func77 rfl (by kernel_rfl) Zz Zz fun E hE => ?_
 (repeat' (first | refine stx ?_ | (refine zqx ?_; intro cap hcap) | (refine stq ?_ ?_ <;> (intro hc; ((try simp at hc) <;> try contradiction))) | fail))
 rw [Nat.zero_add] at hcap
 rw [show 0 + xs.length = xs.length from Nat.zero_add _]
 exact fin rfl w_3 [(2, 4)] (vM 1 xs.length 2 xs.length cap) [(2, .own 3 cap (.ints xs))] 3 (⟨cap, hcap, rfl, rfl, rfl⟩) rfl ⟨trivial, ⟨own_ints (by simp), trivial⟩, rfl⟩ rfl
theorem d_col (xs : List Int) (c : Nat) (hl : xs.length ≤ 1099511627776) : Does Tryz.prog 70 [vS 1 1 0 xs.length c] [(1, .ro (.ints xs))] 2 (RowM xs.length 1 3 xs) := by
 refine Does.intro TT Tryz.func70 rfl (by kernel_rfl) Zz Zz fun E hE => ?_
 (repeat' (first | refine stx ?_ | (refine zqx ?_; intro cap hcap) | (refine stq ?_ ?_ <;> (intro hc; ((try simp at hc) <;> try contradiction))) | fail))
 rw [Nat.zero_add] at hcap
 rw [show 0 + xs.length = xs.length from Nat.zero_add _]
 exact fin rfl w_3 [(2, 4)] (vM xs.length 1 2 xs.length cap) [(2, .own 3 cap (.ints xs))] 3 (⟨cap, hcap, rfl, rfl, rfl⟩) rfl ⟨trivial, ⟨own_ints (by simp), trivial⟩, rfl⟩ rfl
theorem mulZ_len {r n n' c : Int} {xs ys zs : List Int} (h : mulZ r n n' c xs ys = some zs) : zs.length = r.toNat * c.toNat := by
  unfold mulZ at h
  split at h
  · cases h; exact mulM_len
  · cases h
def GotSl (t : TypeId) (o : Option (List Int)) (k : Nat) (v : AV) (Hout : List (Nat × Blk)) (n1 : Nat) : Prop :=
  ∃ cap, (o.getD []).length ≤ cap ∧ v = .tup [.one (.sl k 1 0 (o.getD []).length cap), .one (.bool o.isSome)] ∧ Hout = [(k, .own t cap (.ints (o.getD [])))] ∧ n1 = k + 1
theorem GotSl.out {t : TypeId} {o : Option (List Int)} {k : Nat} : ∀ v Hout n1, GotSl t o k v Hout n1 → ∃ b, Hout = [(k, b)] ∧ n1 = k + 1 ∧ b.keys = [] := fun _ _ _ ⟨_, _, _, h2, h3⟩ => ⟨_, h2, h3, by simp [Blk.keys, Elts.keys, Elts.all, ints_keys]⟩
end Go.Proofs.YtekpamojojfplaaGreat
namespace Go.Proofs.YtekpamojojfplaaGreat
open Go.RowKit
def valT (o : Option Int) : AV := .tup [.one (.int (o.getD 0)), .one (.bool o.isSome)]
theorem vatO_no {r c : Int} {g v : List Int} (h : gramB r c g = false ∨ ¬ (v.length : Int) = r) : vatO r c g v = none := by
  unfold vatO
  rw [if_neg]
  rcases h with h | h
  · rw [h]; simp
  · simp [h]
theorem vatO_yes {n : Nat} {g v : List Int} (h : gramB n n g = true) (hv : v.length = n) : vatO n n g v = (mulZ 1 n n n v g).bind fun p => (mulZ 1 n n 1 p v).map fun z => z.getD 0 0 := by
  unfold vatO
  rw [if_pos (by rw [h, hv]; simp), hv]
theorem mulZ_1 {n n' : Int} {xs ys p : List Int} (h : mulZ 1 n n' 1 xs ys = some p) : p.length = 1 := by rw [mulZ_len h]; rfl
set_option maxRecDepth 100000 in
set_option maxHeartbeats 4000000 in
theorem d_valI (r c : Int) (g v : List Int) (ca cv : Nat) (hl : g.length ≤ 1099511627776) (hl' : v.length ≤ 1099511627776) :
    Does Tryz.prog 95 [vM r c 1 g.length ca, vS 2 1 0 v.length cv] [(1, .ro (.ints g)), (2, .ro (.ints v))] 3 (Ret (valT (vatO r c g v)) 3) := by
  refine Does.intro TT Tryz.func95 rfl (by kernel_rfl) Zz Zz fun E hE => ?_
  have hgr := d_gramI r c g ca hl
  cases hG : gramB r c g with
  | false =>
    rw [hG] at hgr
    rw [vatO_no (.inl hG)]
    ((repeat' (first | refine stx ?_ | refine zqc (hgr) ?_ | (refine stq ?_ ?_ <;> (intro hc; ((try simp at hc) <;> try contradiction))) | fail)) <;> try (exfalso; omega))
    all_goals exact fin rfl w_3 [] (.tup [.one (.int 0), .one (.bool false)]) [] 3 ⟨rfl, rfl, rfl⟩ rfl ⟨trivial, trivial, rfl⟩ rfl
  | true =>
    rw [hG] at hgr
    obtain ⟨n, rfl, rfl, hn, hx, hnum, -⟩ := gramB_nat hG
    by_cases hv : v.length = n
    · subst hv
      have hrow := fun cc => d_row v cc hl'
      have hcol := fun cc => d_col v cc hl'
      have hm1 := fun cc => d_mulI 1 v.length v.length v.length v g cc ca hl' hl
      rw [vatO_yes hG rfl]
      cases hp : mulZ 1 v.length v.length v.length v g with
      | none =>
        rw [hp] at hm1
        ((repeat' (first | refine stp ?_ | refine zqc (hgr) ?_ | (refine stq ?_ ?_ <;> (intro hc; ((try simp at hc) <;> try contradiction))) | fail)) <;> try (exfalso; omega))
        refine awp_held TM [(2, _), (3, _)] sb rfl (fun ρs => ?_)
        refine zt0 ?_
        refine zt2 ?_
        refine w_u [1, 7] kr rfl ⟨?_, ?_, trivial⟩
        first | (refine zho ?_) | (refine zqf (hrow _) ?_; rintro v Hout n1 ⟨c1, hc1, rfl, rfl, rfl⟩; refine ⟨sb, ?_⟩) | (refine zqf (hm1 _) ?_; rintro v Hout n1 ⟨rfl, rfl, rfl⟩; refine ⟨sb, ?_⟩)
        refine w_u [3, 7] kr rfl ⟨?_, ?_, trivial⟩
        first | (refine zho ?_) | (refine zqf (hrow _) ?_; rintro v Hout n1 ⟨c1, hc1, rfl, rfl, rfl⟩; refine ⟨sb, ?_⟩) | (refine zqf (hm1 _) ?_; rintro v Hout n1 ⟨rfl, rfl, rfl⟩; refine ⟨sb, ?_⟩)
        refine zt4 ?_
        refine zt5 ?_
        refine zt6 ?_
        refine w_u [7] kr rfl ⟨?_, trivial⟩
        first | (refine zho ?_) | (refine zqf (hrow _) ?_; rintro v Hout n1 ⟨c1, hc1, rfl, rfl, rfl⟩; refine ⟨sb, ?_⟩) | (refine zqf (hm1 _) ?_; rintro v Hout n1 ⟨rfl, rfl, rfl⟩; refine ⟨sb, ?_⟩)
        refine w_u [8] kr rfl ⟨?_, trivial⟩
        first | (refine zho ?_) | (refine zqf (hrow _) ?_; rintro v Hout n1 ⟨c1, hc1, rfl, rfl, rfl⟩; refine ⟨sb, ?_⟩) | (refine zqf (hm1 _) ?_; rintro v Hout n1 ⟨rfl, rfl, rfl⟩; refine ⟨sb, ?_⟩)
        refine zt9 ?_
        refine w_v kr ?_
        rotate_left
        first | (refine zho ?_) | (refine zqf (hrow _) ?_; rintro v Hout n1 ⟨c1, hc1, rfl, rfl, rfl⟩; refine ⟨sb, ?_⟩) | (refine zqf (hm1 _) ?_; rintro v Hout n1 ⟨rfl, rfl, rfl⟩; refine ⟨sb, ?_⟩)
        refine w_u [3] kr rfl ⟨?_, trivial⟩
        first | (refine zho ?_) | (refine zqf (hrow _) ?_; rintro v Hout n1 ⟨c1, hc1, rfl, rfl, rfl⟩; refine ⟨sb, ?_⟩) | (refine zqf (hm1 _) ?_; rintro v Hout n1 ⟨rfl, rfl, rfl⟩; refine ⟨sb, ?_⟩)
        refine zt4 ?_
        refine zt5 ?_
        refine zt6 ?_
        refine w_u [8] kr rfl ⟨?_, trivial⟩
        first | (refine zho ?_) | (refine zqf (hrow _) ?_; rintro v Hout n1 ⟨c1, hc1, rfl, rfl, rfl⟩; refine ⟨sb, ?_⟩) | (refine zqf (hm1 _) ?_; rintro v Hout n1 ⟨rfl, rfl, rfl⟩; refine ⟨sb, ?_⟩)
        refine zt9 ?_
        refine w_v kr ?_
        rotate_left
        first | (refine zho ?_) | (refine zqf (hrow _) ?_; rintro v Hout n1 ⟨c1, hc1, rfl, rfl, rfl⟩; refine ⟨sb, ?_⟩) | (refine zqf (hm1 _) ?_; rintro v Hout n1 ⟨rfl, rfl, rfl⟩; refine ⟨sb, ?_⟩)
        refine w_u [1] kr rfl ⟨?_, trivial⟩
        first | (refine zho ?_) | (refine zqf (hrow _) ?_; rintro v Hout n1 ⟨c1, hc1, rfl, rfl, rfl⟩; refine ⟨sb, ?_⟩) | (refine zqf (hm1 _) ?_; rintro v Hout n1 ⟨rfl, rfl, rfl⟩; refine ⟨sb, ?_⟩)
        refine w_u [3] kr rfl ⟨?_, trivial⟩
        first | (refine zho ?_) | (refine zqf (hrow _) ?_; rintro v Hout n1 ⟨c1, hc1, rfl, rfl, rfl⟩; refine ⟨sb, ?_⟩) | (refine zqf (hm1 _) ?_; rintro v Hout n1 ⟨rfl, rfl, rfl⟩; refine ⟨sb, ?_⟩)
        refine zt4 ?_
        refine zt5 ?_
        refine zt6 ?_
        refine w_u [8] kr rfl ⟨?_, trivial⟩
        first | (refine zho ?_) | (refine zqf (hrow _) ?_; rintro v Hout n1 ⟨c1, hc1, rfl, rfl, rfl⟩; refine ⟨sb, ?_⟩) | (refine zqf (hm1 _) ?_; rintro v Hout n1 ⟨rfl, rfl, rfl⟩; refine ⟨sb, ?_⟩)
        refine zt9 ?_
        refine w_v kr ?_
        rotate_left
        all_goals ((repeat' (first | refine stx ?_ | (refine stq ?_ ?_ <;> (intro hc; ((try simp at hc) <;> try contradiction))) | fail)) <;> try (exfalso; omega))
        all_goals exact fin rfl w_3 [] (.tup [.one (.int 0), .one (.bool false)]) [] 3 ⟨rfl, rfl, rfl⟩ rfl ⟨trivial, trivial, rfl⟩ rfl
      | some p =>
        rw [hp] at hm1
        have hpl := isM_le (mulZ_some hp).2.2.2
        have hm2 := fun cp cc => d_mulI 1 v.length v.length 1 p v cp cc (by omega) hl'
        rw [Option.bind_some]
        cases hq : mulZ 1 v.length v.length 1 p v with
        | none =>
          rw [hq] at hm2
          ((repeat' (first | refine stp ?_ | refine zqc (hgr) ?_ | (refine stq ?_ ?_ <;> (intro hc; ((try simp at hc) <;> try contradiction))) | fail)) <;> try (exfalso; omega))
          refine awp_held TM [(2, _), (3, _)] sb rfl (fun ρs => ?_)
          refine zt0 ?_
          refine zt2 ?_
          refine w_u [1, 7] kr rfl ⟨?_, ?_, trivial⟩
          first | (refine zho ?_) | (refine zqf (hrow _) ?_; rintro v Hout n1 ⟨c1, hc1, rfl, rfl, rfl⟩; refine ⟨sb, ?_⟩) | (refine zqf (hm1 _) ?_; rintro v Hout n1 ⟨c2, hc2, rfl, rfl, rfl⟩; refine ⟨sb, ?_⟩)
          refine w_u [3, 7] kr rfl ⟨?_, ?_, trivial⟩
          first | (refine zho ?_) | (refine zqf (hrow _) ?_; rintro v Hout n1 ⟨c1, hc1, rfl, rfl, rfl⟩; refine ⟨sb, ?_⟩) | (refine zqf (hm1 _) ?_; rintro v Hout n1 ⟨c2, hc2, rfl, rfl, rfl⟩; refine ⟨sb, ?_⟩)
          refine zt4 ?_
          refine zt5 ?_
          refine zt6 ?_
          refine w_u [7] kr rfl ⟨?_, trivial⟩
          first | (refine zho ?_) | (refine zqf (hrow _) ?_; rintro v Hout n1 ⟨c1, hc1, rfl, rfl, rfl⟩; refine ⟨sb, ?_⟩) | (refine zqf (hm1 _) ?_; rintro v Hout n1 ⟨c2, hc2, rfl, rfl, rfl⟩; refine ⟨sb, ?_⟩)
          refine w_u [8] kr rfl ⟨?_, trivial⟩
          first | (refine zho ?_) | (refine zqf (hrow _) ?_; rintro v Hout n1 ⟨c1, hc1, rfl, rfl, rfl⟩; refine ⟨sb, ?_⟩) | (refine zqf (hm1 _) ?_; rintro v Hout n1 ⟨c2, hc2, rfl, rfl, rfl⟩; refine ⟨sb, ?_⟩)
          refine zt9 ?_
          refine w_v kr ?_
          rotate_left
          first | (refine zho ?_) | (refine zqf (hrow _) ?_; rintro v Hout n1 ⟨c1, hc1, rfl, rfl, rfl⟩; refine ⟨sb, ?_⟩) | (refine zqf (hm1 _) ?_; rintro v Hout n1 ⟨c2, hc2, rfl, rfl, rfl⟩; refine ⟨sb, ?_⟩)
          refine w_u [3] kr rfl ⟨?_, trivial⟩
          first | (refine zho ?_) | (refine zqf (hrow _) ?_; rintro v Hout n1 ⟨c1, hc1, rfl, rfl, rfl⟩; refine ⟨sb, ?_⟩) | (refine zqf (hm1 _) ?_; rintro v Hout n1 ⟨c2, hc2, rfl, rfl, rfl⟩; refine ⟨sb, ?_⟩)
          refine zt4 ?_
          refine zt5 ?_
          refine zt6 ?_
          refine w_u [8] kr rfl ⟨?_, trivial⟩
          first | (refine zho ?_) | (refine zqf (hrow _) ?_; rintro v Hout n1 ⟨c1, hc1, rfl, rfl, rfl⟩; refine ⟨sb, ?_⟩) | (refine zqf (hm1 _) ?_; rintro v Hout n1 ⟨c2, hc2, rfl, rfl, rfl⟩; refine ⟨sb, ?_⟩)
          refine zt9 ?_
          refine w_v kr ?_
          rotate_left
          first | (refine zho ?_) | (refine zqf (hrow _) ?_; rintro v Hout n1 ⟨c1, hc1, rfl, rfl, rfl⟩; refine ⟨sb, ?_⟩) | (refine zqf (hm1 _) ?_; rintro v Hout n1 ⟨c2, hc2, rfl, rfl, rfl⟩; refine ⟨sb, ?_⟩)
          refine w_u [1] kr rfl ⟨?_, trivial⟩
          first | (refine zho ?_) | (refine zqf (hrow _) ?_; rintro v Hout n1 ⟨c1, hc1, rfl, rfl, rfl⟩; refine ⟨sb, ?_⟩) | (refine zqf (hm1 _) ?_; rintro v Hout n1 ⟨c2, hc2, rfl, rfl, rfl⟩; refine ⟨sb, ?_⟩)
          refine w_u [3] kr rfl ⟨?_, trivial⟩
          first | (refine zho ?_) | (refine zqf (hrow _) ?_; rintro v Hout n1 ⟨c1, hc1, rfl, rfl, rfl⟩; refine ⟨sb, ?_⟩) | (refine zqf (hm1 _) ?_; rintro v Hout n1 ⟨c2, hc2, rfl, rfl, rfl⟩; refine ⟨sb, ?_⟩)
          refine zt4 ?_
          refine zt5 ?_
          refine zt6 ?_
          refine w_u [8] kr rfl ⟨?_, trivial⟩
          first | (refine zho ?_) | (refine zqf (hrow _) ?_; rintro v Hout n1 ⟨c1, hc1, rfl, rfl, rfl⟩; refine ⟨sb, ?_⟩) | (refine zqf (hm1 _) ?_; rintro v Hout n1 ⟨c2, hc2, rfl, rfl, rfl⟩; refine ⟨sb, ?_⟩)
          refine zt9 ?_
          refine w_v kr ?_
          rotate_left
          all_goals ((repeat' (first | refine stp ?_ | (refine stq ?_ ?_ <;> (intro hc; ((try simp at hc) <;> try contradiction))) | fail)) <;> try (exfalso; omega))
          all_goals
            refine awp_held TM [(2, _), (4, _), (5, _), (6, _)] sb rfl (fun ρs => ?_)
            refine zt0 ?_
            refine zt1 ?_
            refine w_u [2, 7] kr rfl ⟨?_, ?_, trivial⟩
            first | (refine zho ?_) | (refine zqf (hcol _) ?_; rintro v Hout n1 ⟨c3, hc3, rfl, rfl, rfl⟩; refine ⟨sb, ?_⟩) | (refine zqf (hm2 _ _) ?_; rintro v Hout n1 ⟨rfl, rfl, rfl⟩; refine ⟨sb, ?_⟩)
            refine w_u [3, 7] kr rfl ⟨?_, ?_, trivial⟩
            first | (refine zho ?_) | (refine zqf (hcol _) ?_; rintro v Hout n1 ⟨c3, hc3, rfl, rfl, rfl⟩; refine ⟨sb, ?_⟩) | (refine zqf (hm2 _ _) ?_; rintro v Hout n1 ⟨rfl, rfl, rfl⟩; refine ⟨sb, ?_⟩)
            refine zt4 ?_
            refine zt5 ?_
            refine zt6 ?_
            refine w_u [7] kr rfl ⟨?_, trivial⟩
            first | (refine zho ?_) | (refine zqf (hcol _) ?_; rintro v Hout n1 ⟨c3, hc3, rfl, rfl, rfl⟩; refine ⟨sb, ?_⟩) | (refine zqf (hm2 _ _) ?_; rintro v Hout n1 ⟨rfl, rfl, rfl⟩; refine ⟨sb, ?_⟩)
            refine w_u [8] kr rfl ⟨?_, trivial⟩
            first | (refine zho ?_) | (refine zqf (hcol _) ?_; rintro v Hout n1 ⟨c3, hc3, rfl, rfl, rfl⟩; refine ⟨sb, ?_⟩) | (refine zqf (hm2 _ _) ?_; rintro v Hout n1 ⟨rfl, rfl, rfl⟩; refine ⟨sb, ?_⟩)
            refine zt9 ?_
            refine w_v kr ?_
            rotate_left
            first | (refine zho ?_) | (refine zqf (hcol _) ?_; rintro v Hout n1 ⟨c3, hc3, rfl, rfl, rfl⟩; refine ⟨sb, ?_⟩) | (refine zqf (hm2 _ _) ?_; rintro v Hout n1 ⟨rfl, rfl, rfl⟩; refine ⟨sb, ?_⟩)
            refine w_u [3] kr rfl ⟨?_, trivial⟩
            first | (refine zho ?_) | (refine zqf (hcol _) ?_; rintro v Hout n1 ⟨c3, hc3, rfl, rfl, rfl⟩; refine ⟨sb, ?_⟩) | (refine zqf (hm2 _ _) ?_; rintro v Hout n1 ⟨rfl, rfl, rfl⟩; refine ⟨sb, ?_⟩)
            refine zt4 ?_
            refine zt5 ?_
            refine zt6 ?_
            refine w_u [8] kr rfl ⟨?_, trivial⟩
            first | (refine zho ?_) | (refine zqf (hcol _) ?_; rintro v Hout n1 ⟨c3, hc3, rfl, rfl, rfl⟩; refine ⟨sb, ?_⟩) | (refine zqf (hm2 _ _) ?_; rintro v Hout n1 ⟨rfl, rfl, rfl⟩; refine ⟨sb, ?_⟩)
            refine zt9 ?_
            refine w_v kr ?_
            rotate_left
            first | (refine zho ?_) | (refine zqf (hcol _) ?_; rintro v Hout n1 ⟨c3, hc3, rfl, rfl, rfl⟩; refine ⟨sb, ?_⟩) | (refine zqf (hm2 _ _) ?_; rintro v Hout n1 ⟨rfl, rfl, rfl⟩; refine ⟨sb, ?_⟩)
            refine w_u [2] kr rfl ⟨?_, trivial⟩
            first | (refine zho ?_) | (refine zqf (hcol _) ?_; rintro v Hout n1 ⟨c3, hc3, rfl, rfl, rfl⟩; refine ⟨sb, ?_⟩) | (refine zqf (hm2 _ _) ?_; rintro v Hout n1 ⟨rfl, rfl, rfl⟩; refine ⟨sb, ?_⟩)
            refine w_u [3] kr rfl ⟨?_, trivial⟩
            first | (refine zho ?_) | (refine zqf (hcol _) ?_; rintro v Hout n1 ⟨c3, hc3, rfl, rfl, rfl⟩; refine ⟨sb, ?_⟩) | (refine zqf (hm2 _ _) ?_; rintro v Hout n1 ⟨rfl, rfl, rfl⟩; refine ⟨sb, ?_⟩)
            refine zt4 ?_
            refine zt5 ?_
            refine zt6 ?_
            refine w_u [8] kr rfl ⟨?_, trivial⟩
            first | (refine zho ?_) | (refine zqf (hcol _) ?_; rintro v Hout n1 ⟨c3, hc3, rfl, rfl, rfl⟩; refine ⟨sb, ?_⟩) | (refine zqf (hm2 _ _) ?_; rintro v Hout n1 ⟨rfl, rfl, rfl⟩; refine ⟨sb, ?_⟩)
            refine zt9 ?_
            refine w_v kr ?_
            rotate_left
            all_goals ((repeat' (first | refine stx ?_ | (refine stq ?_ ?_ <;> (intro hc; ((try simp at hc) <;> try contradiction))) | fail)) <;> try (exfalso; omega))
            all_goals exact fin rfl w_3 [] (.tup [.one (.int 0), .one (.bool false)]) [] 3 ⟨rfl, rfl, rfl⟩ rfl ⟨trivial, trivial, rfl⟩ rfl
        | some z =>
          rw [hq] at hm2
          have hz1 := mulZ_1 hq
          ((repeat' (first | refine stp ?_ | refine zqc (hgr) ?_ | (refine stq ?_ ?_ <;> (intro hc; ((try simp at hc) <;> try contradiction))) | fail)) <;> try (exfalso; omega))
          refine awp_held TM [(2, _), (3, _)] sb rfl (fun ρs => ?_)
          refine zt0 ?_
          refine zt2 ?_
          refine w_u [1, 7] kr rfl ⟨?_, ?_, trivial⟩
          first | (refine zho ?_) | (refine zqf (hrow _) ?_; rintro v Hout n1 ⟨c1, hc1, rfl, rfl, rfl⟩; refine ⟨sb, ?_⟩) | (refine zqf (hm1 _) ?_; rintro v Hout n1 ⟨c2, hc2, rfl, rfl, rfl⟩; refine ⟨sb, ?_⟩)
          refine w_u [3, 7] kr rfl ⟨?_, ?_, trivial⟩
          first | (refine zho ?_) | (refine zqf (hrow _) ?_; rintro v Hout n1 ⟨c1, hc1, rfl, rfl, rfl⟩; refine ⟨sb, ?_⟩) | (refine zqf (hm1 _) ?_; rintro v Hout n1 ⟨c2, hc2, rfl, rfl, rfl⟩; refine ⟨sb, ?_⟩)
          refine zt4 ?_
          refine zt5 ?_
          refine zt6 ?_
          refine w_u [7] kr rfl ⟨?_, trivial⟩
          first | (refine zho ?_) | (refine zqf (hrow _) ?_; rintro v Hout n1 ⟨c1, hc1, rfl, rfl, rfl⟩; refine ⟨sb, ?_⟩) | (refine zqf (hm1 _) ?_; rintro v Hout n1 ⟨c2, hc2, rfl, rfl, rfl⟩; refine ⟨sb, ?_⟩)
          refine w_u [8] kr rfl ⟨?_, trivial⟩
          first | (refine zho ?_) | (refine zqf (hrow _) ?_; rintro v Hout n1 ⟨c1, hc1, rfl, rfl, rfl⟩; refine ⟨sb, ?_⟩) | (refine zqf (hm1 _) ?_; rintro v Hout n1 ⟨c2, hc2, rfl, rfl, rfl⟩; refine ⟨sb, ?_⟩)
          refine zt9 ?_
          refine w_v kr ?_
          rotate_left
          first | (refine zho ?_) | (refine zqf (hrow _) ?_; rintro v Hout n1 ⟨c1, hc1, rfl, rfl, rfl⟩; refine ⟨sb, ?_⟩) | (refine zqf (hm1 _) ?_; rintro v Hout n1 ⟨c2, hc2, rfl, rfl, rfl⟩; refine ⟨sb, ?_⟩)
          refine w_u [3] kr rfl ⟨?_, trivial⟩
          first | (refine zho ?_) | (refine zqf (hrow _) ?_; rintro v Hout n1 ⟨c1, hc1, rfl, rfl, rfl⟩; refine ⟨sb, ?_⟩) | (refine zqf (hm1 _) ?_; rintro v Hout n1 ⟨c2, hc2, rfl, rfl, rfl⟩; refine ⟨sb, ?_⟩)
          refine zt4 ?_
          refine zt5 ?_
          refine zt6 ?_
          refine w_u [8] kr rfl ⟨?_, trivial⟩
          first | (refine zho ?_) | (refine zqf (hrow _) ?_; rintro v Hout n1 ⟨c1, hc1, rfl, rfl, rfl⟩; refine ⟨sb, ?_⟩) | (refine zqf (hm1 _) ?_; rintro v Hout n1 ⟨c2, hc2, rfl, rfl, rfl⟩; refine ⟨sb, ?_⟩)
          refine zt9 ?_
          refine w_v kr ?_
          rotate_left
          first | (refine zho ?_) | (refine zqf (hrow _) ?_; rintro v Hout n1 ⟨c1, hc1, rfl, rfl, rfl⟩; refine ⟨sb, ?_⟩) | (refine zqf (hm1 _) ?_; rintro v Hout n1 ⟨c2, hc2, rfl, rfl, rfl⟩; refine ⟨sb, ?_⟩)
          refine w_u [1] kr rfl ⟨?_, trivial⟩
          first | (refine zho ?_) | (refine zqf (hrow _) ?_; rintro v Hout n1 ⟨c1, hc1, rfl, rfl, rfl⟩; refine ⟨sb, ?_⟩) | (refine zqf (hm1 _) ?_; rintro v Hout n1 ⟨c2, hc2, rfl, rfl, rfl⟩; refine ⟨sb, ?_⟩)
          refine w_u [3] kr rfl ⟨?_, trivial⟩
          first | (refine zho ?_) | (refine zqf (hrow _) ?_; rintro v Hout n1 ⟨c1, hc1, rfl, rfl, rfl⟩; refine ⟨sb, ?_⟩) | (refine zqf (hm1 _) ?_; rintro v Hout n1 ⟨c2, hc2, rfl, rfl, rfl⟩; refine ⟨sb, ?_⟩)
          refine zt4 ?_
          refine zt5 ?_
          refine zt6 ?_
          refine w_u [8] kr rfl ⟨?_, trivial⟩
          first | (refine zho ?_) | (refine zqf (hrow _) ?_; rintro v Hout n1 ⟨c1, hc1, rfl, rfl, rfl⟩; refine ⟨sb, ?_⟩) | (refine zqf (hm1 _) ?_; rintro v Hout n1 ⟨c2, hc2, rfl, rfl, rfl⟩; refine ⟨sb, ?_⟩)
          refine zt9 ?_
          refine w_v kr ?_
          rotate_left
          all_goals ((repeat' (first | refine stp ?_ | (refine stq ?_ ?_ <;> (intro hc; ((try simp at hc) <;> try contradiction))) | fail)) <;> try (exfalso; omega))
          all_goals
            refine awp_held TM [(2, _), (4, _), (5, _), (6, _)] sb rfl (fun ρs => ?_)
            refine zt0 ?_
            refine zt1 ?_
            refine w_u [2, 7] kr rfl ⟨?_, ?_, trivial⟩
            first | (refine zho ?_) | (refine zqf (hcol _) ?_; rintro v Hout n1 ⟨c3, hc3, rfl, rfl, rfl⟩; refine ⟨sb, ?_⟩) | (refine zqf (hm2 _ _) ?_; rintro v Hout n1 ⟨c4, hc4, rfl, rfl, rfl⟩; refine ⟨sb, ?_⟩)
            refine w_u [3, 7] kr rfl ⟨?_, ?_, trivial⟩
            first | (refine zho ?_) | (refine zqf (hcol _) ?_; rintro v Hout n1 ⟨c3, hc3, rfl, rfl, rfl⟩; refine ⟨sb, ?_⟩) | (refine zqf (hm2 _ _) ?_; rintro v Hout n1 ⟨c4, hc4, rfl, rfl, rfl⟩; refine ⟨sb, ?_⟩)
            refine zt4 ?_
            refine zt5 ?_
            refine zt6 ?_
            refine w_u [7] kr rfl ⟨?_, trivial⟩
            first | (refine zho ?_) | (refine zqf (hcol _) ?_; rintro v Hout n1 ⟨c3, hc3, rfl, rfl, rfl⟩; refine ⟨sb, ?_⟩) | (refine zqf (hm2 _ _) ?_; rintro v Hout n1 ⟨c4, hc4, rfl, rfl, rfl⟩; refine ⟨sb, ?_⟩)
            refine w_u [8] kr rfl ⟨?_, trivial⟩
            first | (refine zho ?_) | (refine zqf (hcol _) ?_; rintro v Hout n1 ⟨c3, hc3, rfl, rfl, rfl⟩; refine ⟨sb, ?_⟩) | (refine zqf (hm2 _ _) ?_; rintro v Hout n1 ⟨c4, hc4, rfl, rfl, rfl⟩; refine ⟨sb, ?_⟩)
            refine zt9 ?_
            refine w_v kr ?_
            rotate_left
            first | (refine zho ?_) | (refine zqf (hcol _) ?_; rintro v Hout n1 ⟨c3, hc3, rfl, rfl, rfl⟩; refine ⟨sb, ?_⟩) | (refine zqf (hm2 _ _) ?_; rintro v Hout n1 ⟨c4, hc4, rfl, rfl, rfl⟩; refine ⟨sb, ?_⟩)
            refine w_u [3] kr rfl ⟨?_, trivial⟩
            first | (refine zho ?_) | (refine zqf (hcol _) ?_; rintro v Hout n1 ⟨c3, hc3, rfl, rfl, rfl⟩; refine ⟨sb, ?_⟩) | (refine zqf (hm2 _ _) ?_; rintro v Hout n1 ⟨c4, hc4, rfl, rfl, rfl⟩; refine ⟨sb, ?_⟩)
            refine zt4 ?_
            refine zt5 ?_
            refine zt6 ?_
            refine w_u [8] kr rfl ⟨?_, trivial⟩
            first | (refine zho ?_) | (refine zqf (hcol _) ?_; rintro v Hout n1 ⟨c3, hc3, rfl, rfl, rfl⟩; refine ⟨sb, ?_⟩) | (refine zqf (hm2 _ _) ?_; rintro v Hout n1 ⟨c4, hc4, rfl, rfl, rfl⟩; refine ⟨sb, ?_⟩)
            refine zt9 ?_
            refine w_v kr ?_
            rotate_left
            first | (refine zho ?_) | (refine zqf (hcol _) ?_; rintro v Hout n1 ⟨c3, hc3, rfl, rfl, rfl⟩; refine ⟨sb, ?_⟩) | (refine zqf (hm2 _ _) ?_; rintro v Hout n1 ⟨c4, hc4, rfl, rfl, rfl⟩; refine ⟨sb, ?_⟩)
            refine w_u [2] kr rfl ⟨?_, trivial⟩
            first | (refine zho ?_) | (refine zqf (hcol _) ?_; rintro v Hout n1 ⟨c3, hc3, rfl, rfl, rfl⟩; refine ⟨sb, ?_⟩) | (refine zqf (hm2 _ _) ?_; rintro v Hout n1 ⟨c4, hc4, rfl, rfl, rfl⟩; refine ⟨sb, ?_⟩)
            refine w_u [3] kr rfl ⟨?_, trivial⟩
            first | (refine zho ?_) | (refine zqf (hcol _) ?_; rintro v Hout n1 ⟨c3, hc3, rfl, rfl, rfl⟩; refine ⟨sb, ?_⟩) | (refine zqf (hm2 _ _) ?_; rintro v Hout n1 ⟨c4, hc4, rfl, rfl, rfl⟩; refine ⟨sb, ?_⟩)
            refine zt4 ?_
            refine zt5 ?_
            refine zt6 ?_
            refine w_u [8] kr rfl ⟨?_, trivial⟩
            first | (refine zho ?_) | (refine zqf (hcol _) ?_; rintro v Hout n1 ⟨c3, hc3, rfl, rfl, rfl⟩; refine ⟨sb, ?_⟩) | (refine zqf (hm2 _ _) ?_; rintro v Hout n1 ⟨c4, hc4, rfl, rfl, rfl⟩; refine ⟨sb, ?_⟩)
            refine zt9 ?_
            refine w_v kr ?_
            rotate_left
            all_goals ((repeat' (first | refine stx ?_ | (refine stq ?_ ?_ <;> (intro hc; ((try simp at hc) <;> try contradiction))) | fail)) <;> try (exfalso; omega))
            all_goals exact fin rfl w_3 [] (.tup [.one (.int (z.getD 0 0)), .one (.bool true)]) [] 3 ⟨rfl, rfl, rfl⟩ rfl ⟨trivial, trivial, rfl⟩ rfl
    · rw [vatO_no (.inr (by omega))]
      ((repeat' (first | refine stx ?_ | refine zqc (hgr) ?_ | (refine stq ?_ ?_ <;> (intro hc; ((try simp at hc) <;> try contradiction))) | fail)) <;> try (exfalso; omega))
      all_goals exact fin rfl w_3 [] (.tup [.one (.int 0), .one (.bool false)]) [] 3 ⟨rfl, rfl, rfl⟩ rfl ⟨trivial, trivial, rfl⟩ rfl
set_option maxRecDepth 100000 in
set_option maxHeartbeats 4000000 in
theorem d_valS (r c : Int) (g v : List Int) (ca cv : Nat) (hl : g.length ≤ 1099511627776) (hl' : v.length ≤ 1099511627776) :
    Does Tryz.prog 166 [vM r c 1 g.length ca, vS 2 1 0 v.length cv] [(1, .ro (.ints g)), (2, .ro (.ints v))] 3 (Ret (valT (vatO r c g v)) 3) := by
  refine Does.intro TT Tryz.func166 rfl (by kernel_rfl) Zz Zz fun E hE => ?_
  have hgr := d_gramS r c g ca hl
  cases hG : gramB r c g with
  | false =>
    rw [hG] at hgr
    rw [vatO_no (.inl hG)]
    ((repeat' (first | refine stx ?_ | refine zqc (hgr) ?_ | (refine stq ?_ ?_ <;> (intro hc; ((try simp at hc) <;> try contradiction))) | fail)) <;> try (exfalso; omega))
    all_goals exact fin rfl w_3 [] (.tup [.one (.int 0), .one (.bool false)]) [] 3 ⟨rfl, rfl, rfl⟩ rfl ⟨trivial, trivial, rfl⟩ rfl
  | true =>
    rw [hG] at hgr
    obtain ⟨n, rfl, rfl, hn, hx, hnum, -⟩ := gramB_nat hG
    by_cases hv : v.length = n
    · subst hv
      have hm1 := fun cc => d_mulS 1 v.length v.length v.length v g cc ca hl' hl
      rw [vatO_yes hG rfl]
      cases hp : mulZ 1 v.length v.length v.length v g with
      | none =>
        rw [hp] at hm1
        ((repeat' (first | refine stx ?_ | refine zqc (hgr) ?_ | ((refine zqe (hm1 _) ?_); rintro w Hout n1 ⟨rfl, rfl, rfl⟩) | (refine stq ?_ ?_ <;> (intro hc; ((try simp at hc) <;> try contradiction))) | fail)) <;> try (exfalso; omega))
        all_goals exact fin rfl w_3 [] (.tup [.one (.int 0), .one (.bool false)]) [] 3 ⟨rfl, rfl, rfl⟩ rfl ⟨trivial, trivial, rfl⟩ rfl
      | some p =>
        rw [hp] at hm1
        have hpl := isM_le (mulZ_some hp).2.2.2
        have hm2 := fun cp cc => d_mulS 1 v.length v.length 1 p v cp cc (by omega) hl'
        rw [Option.bind_some]
        cases hq : mulZ 1 v.length v.length 1 p v with
        | none =>
          rw [hq] at hm2
          ((repeat' (first | refine stx ?_ | refine zqc (hgr) ?_ | ((refine zqe (hm1 _) ?_); rintro w Hout n1 ⟨c2, hc2, rfl, rfl, rfl⟩) | ((refine zqe (hm2 _ _) ?_); rintro w Hout n1 ⟨rfl, rfl, rfl⟩) | (refine stq ?_ ?_ <;> (intro hc; ((try simp at hc) <;> try contradiction))) | fail)) <;> try (exfalso; omega))
          all_goals exact fin rfl w_3 [] (.tup [.one (.int 0), .one (.bool false)]) [] 3 ⟨rfl, rfl, rfl⟩ rfl ⟨trivial, trivial, rfl⟩ rfl
        | some z =>
          rw [hq] at hm2
          have hz1 := mulZ_1 hq
          ((repeat' (first | refine stx ?_ | refine zqc (hgr) ?_ | ((refine zqe (hm1 _) ?_); rintro w Hout n1 ⟨c2, hc2, rfl, rfl, rfl⟩) | ((refine zqe (hm2 _ _) ?_); rintro w Hout n1 ⟨c4, hc4, rfl, rfl, rfl⟩) | (refine stq ?_ ?_ <;> (intro hc; ((try simp at hc) <;> try contradiction))) | fail)) <;> try (exfalso; omega))
          all_goals exact fin rfl w_3 [] (.tup [.one (.int (z.getD 0 0)), .one (.bool true)]) [] 3 ⟨rfl, rfl, rfl⟩ rfl ⟨trivial, trivial, rfl⟩ rfl
    · rw [vatO_no (.inr (by omega))]
      ((repeat' (first | refine stx ?_ | refine zqc (hgr) ?_ | (refine stq ?_ ?_ <;> (intro hc; ((try simp at hc) <;> try contradiction))) | fail)) <;> try (exfalso; omega))
      all_goals exact fin rfl w_3 [] (.tup [.one (.int 0), .one (.bool false)]) [] 3 ⟨rfl, rfl, rfl⟩ rfl ⟨trivial, trivial, rfl⟩ rfl
end Go.Proofs.YtekpamojojfplaaGreat
namespace Go.Proofs.YtekpamojojfplaaGreat
open Go.RowKit
theorem d_negated (xs : List Int) (n c : Nat) (hn : n = xs.length) (hl : xs.length ≤ 1000000) (hx : xs.all numB = true) : Does Tryz.prog 93 [vS 1 1 0 n c] [(1, .ro (.ints xs))] 2 (MadeI (xs.map fun x => -x) 2) := by
 subst hn
 refine Does.intro TT Tryz.func93 rfl (by kernel_rfl) Zz Zz fun E hE => ?_
 ((repeat' (first | refine stx ?_ | (refine stq ?_ ?_ <;> (intro hc; ((try simp at hc) <;> try contradiction))) | fail)) <;> try (exfalso; omega))
 refine w_G hE (fun x : Nat × Nat => x.1 ≤ xs.length ∧ x.1 ≤ x.2) (fun x => xs.length - x.1)
  (fun x => [(3, vS 2 1 0 x.1 x.2), (7, vS 1 1 0 xs.length c), (8, vI xs.length), (9, vI x.1)]) (fun x => [(1, .ro (.ints xs)), (2, .own 3 x.2 (.ints ((xs.take x.1).map fun x => -x)))]) 3 [] (0, 0) ⟨Nat.zero_le _, Nat.zero_le _⟩ ⟨w_1, w_2, rfl⟩ ?_
 rintro ⟨k, cap⟩ ⟨h1, h2⟩
 dsimp only at h1 h2
 have e1 := num_getD hx (0 + (k : Int).toNat)
 have e2 := num_getD hx k
 by_cases hk : k < xs.length
 ·have en : ((xs.take (k + 1)).map fun x => -x) = ((xs.take k).map fun x => -x) ++ [-(xs.getD (0 + (k : Int).toNat) 0)] := by
   rw [List.take_succ_eq_append_getElem hk, List.map_append]; simp [hk]
  have ek : ((xs.take k).map fun x => -x).length = k := by simp; omega
  ((repeat' (first | refine stx ?_ | (refine zqx ?_; intro cap hcap) | (refine stq ?_ ?_ <;> (intro hc; ((try simp at hc) <;> try contradiction))) | fail)) <;> try (exfalso; omega))
  refine ⟨[(2, 4)], (k + 1, cap), ⟨hk, by dsimp only at hcap ⊢; omega⟩, w_4, ⟨w_1, ⟨rfl, own_ints en.symm, trivial⟩, rfl⟩⟩
 ·obtain rfl : k = xs.length := by omega
  ((repeat' (first | refine stx ?_ | (refine stq ?_ ?_ <;> (intro hc; ((try simp at hc) <;> try contradiction))) | fail)) <;> try (exfalso; omega))
  refine fin rfl w_3 [] (vS 2 1 0 (xs.map fun x => -x).length cap) [(2, .own 3 cap (.ints (xs.map fun x => -x)))] 3 ⟨cap, by simpa using h2, rfl, rfl, rfl⟩ (by rw [List.length_map]; rfl) ⟨trivial, ⟨own_ints (by simp), trivial⟩, rfl⟩ rfl
end Go.Proofs.YtekpamojojfplaaGreat
namespace Go.Proofs.YtekpamojojfplaaGreat
open Go.RowKit
def partP (xs : List Int) (c : Nat) (is : List Nat) (i j : Nat) : List Int := pickR xs c (is.take i) ++ (xs.drop (is.getD i 0 * c)).take j
theorem own_litP {t : TypeId} {c : Nat} {x x' y : Int} {k k' a b cp : Nat} {m : Nat → Nat} (hx : x = x') (h : a = b) (hk : k' = m k := by rfl) : some (Blk.own t c (.lit [.int x, .int y, .sl k' 1 0 a cp])) = some ((Blk.own t c (.lit [.int x', .int y, .sl k 1 0 b cp])).ren m) := by subst hx h hk; rfl
theorem natsI_getD {is : List Nat} {i : Nat} : (natsI is).getD i 0 = ((is.getD i 0 : Nat) : Int) := by
  simp only [natsI, List.getD_eq_getElem?_getD, List.getElem?_map]
  cases is[i]? <;> simp
theorem range_getD {n i : Nat} (h : i < n) : (List.range n).getD i 0 = i := by rw [getD_in (by simpa using h)]; simp
end Go.Proofs.YtekpamojojfplaaGreat
