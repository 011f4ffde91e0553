/-
  TEXTS OF THE PROOF, put together: pHil, pHil4, pShort, Cont, Ratio, Ratio2, bRatio, bDiv.
-/
import Derived.Test.YtekpamojojfplaaGreatC22
import Derived.Test.YtekpamojojfplaaGreatC23
import Derived.Test.YtekpamojojfplaaGreatC08
import Derived.Test.YtekpamojojfplaaGreatC07
set_option linter.unusedVariables false
set_option linter.unusedSimpArgs false
namespace Go.Proofs.YtekpamojojfplaaGreat
theorem box_le {lo hi : List Int} : ∀ {t : Nat}, t ≤ lo.length → ∀ v ∈ boxTo lo hi t, ∀ k, k < t → lo.getD k 0 ≤ v.getD k 0 ∧ v.getD k 0 < lo.getD k 0 + widW lo hi k
  | 0, _, v, _, k, hk => by omega
  | t + 1, ht, v, h, k, hk => by
    simp only [boxTo, extL, spanL, List.mem_flatMap, List.mem_map, List.mem_range] at h
    obtain ⟨u, hu, n, ⟨m, hm, rfl⟩, rfl⟩ := h
    have hul := box_row u hu
    by_cases c : k < t
    · have := box_le (by omega) u hu k c
      rw [getD_appL (by omega)]; exact this
    · obtain rfl : k = t := by omega
      have e : (u ++ [lo.getD k 0 + (m : Int)]).getD k 0 = lo.getD k 0 + (m : Int) := by
        rw [getD_appR (by omega), show k - u.length = 0 by omega]; rfl
      rw [e]
      have : 0 < widW lo hi k := by omega
      omega
theorem ok_wid {lo hi : List Int} (hw : ∀ k, k < lo.length → 1 ≤ widW lo hi k) : ∀ {t : Nat}, t ≤ lo.length → okTo lo hi t = true → ∀ k, k < t → widW lo hi k ≤ 4000
  | 0, _, _, k, hk => by omega
  | t + 1, ht, h, k, hk => by
    rw [okTo, Bool.and_eq_true, decide_eq_true_eq, cntW] at h
    by_cases c : k < t
    · exact ok_wid hw (by omega) h.1 k c
    · obtain rfl : k = t := by omega
      have h1 := (box_len hw k (by omega)).2
      have h2 := hw k ht
      have := Int.mul_le_mul_of_nonneg_right h1 (show 0 ≤ widW lo hi k by omega)
      omega
theorem box_sm {w : List Int} {L : List (List Int)} (hw : ∀ k, 0 ≤ w.getD k 0) (h : boxO (w.map fun x => -x) w = some L) : ∀ v ∈ L, v.length = w.length ∧ ∀ k, k < w.length → -2000 ≤ v.getD k 0 ∧ v.getD k 0 ≤ 2000 := by
  have hn : ∀ k, (w.map fun x => -x).getD k 0 = -(w.getD k 0) := fun k => by
    simp only [List.getD_eq_getElem?_getD, List.getElem?_map]; cases w[k]? <;> simp
  have hwd : ∀ k, widW (w.map fun x => -x) w k = 2 * w.getD k 0 + 1 := fun k => by rw [widW, hn]; omega
  have hl : (w.map fun x => -x).length = w.length := List.length_map _
  unfold boxO at h
  split at h
  · rename_i hok
    injection h with h
    subst h
    intro v hv
    rw [hl] at hv
    refine ⟨box_row v hv, fun k hk => ?_⟩
    have h1 := box_le (by omega) v hv k hk
    have h2 := ok_wid (fun k _ => by rw [hwd]; have := hw k; omega) (Nat.le_refl _) hok k (by omega)
    rw [hwd] at h1 h2
    rw [hn] at h1
    omega
  · cases h
theorem box_4000 {lo hi : List Int} {L : List (List Int)} (hw : ∀ k, k < lo.length → 1 ≤ widW lo hi k) (h : boxO lo hi = some L) : L.length ≤ 4000 := by
  unfold boxO at h
  split at h
  · rename_i hok
    injection h with h
    have h1 := (box_len hw lo.length (Nat.le_refl _)).1
    have h2 := okTo_cnt hok
    rw [h] at h1; omega
  · cases h
theorem neg_wid {w : List Int} (hw : ∀ k, 0 ≤ w.getD k 0) (k : Nat) : 1 ≤ widW (w.map fun x => -x) w k := by
  have hn : (w.map fun x => -x).getD k 0 = -(w.getD k 0) := by
    simp only [List.getD_eq_getElem?_getD, List.getElem?_map]; cases w[k]? <;> simp
  rw [widW, hn]; have := hw k; omega
theorem neg_num {w : List Int} (h : w.all numB = true) : ∀ n ∈ w.map fun x => -x, numB n = true := fun n hn => by
  obtain ⟨m, hm, rfl⟩ := List.mem_map.1 hn
  have := numB_true.1 (List.all_eq_true.1 h m hm)
  exact numB_true.2 (by omega)
theorem all_num {v : List Int} (h : ∀ k, k < v.length → -400000000 ≤ v.getD k 0 ∧ v.getD k 0 ≤ 400000000) : v.all numB = true := List.all_eq_true.2 fun x hx => by
  obtain ⟨k, hk, rfl⟩ := List.mem_iff_getElem.1 hx
  have := h k hk
  rw [getD_in hk] at this
  exact numB_true.2 this
end Go.Proofs.YtekpamojojfplaaGreat
namespace Go.Proofs.YtekpamojojfplaaGreat
theorem box_nodup {lo hi : List Int} : ∀ t, (boxTo lo hi t).Nodup
  | 0 => by simp [boxTo]
  | t + 1 => by
    have ih := box_nodup (lo := lo) (hi := hi) t
    rw [boxTo, List.flatMap, List.Nodup, List.pairwise_flatten]
    refine ⟨fun l hl => ?_, List.pairwise_map.2 (ih.imp_of_mem ?_)⟩
    · obtain ⟨u, hu, rfl⟩ := List.mem_map.1 hl
      unfold extL spanL
      rw [List.map_map]
      refine List.pairwise_map.2 (List.nodup_range.imp fun {x y} h e => h ?_)
      have := List.append_cancel_left e
      simp at this
      omega
    · intro u v hu hv hne x hx y hy e
      subst e
      unfold extL at hx hy
      obtain ⟨n, _, rfl⟩ := List.mem_map.1 hx
      obtain ⟨m, _, e⟩ := List.mem_map.1 hy
      exact hne (List.append_inj_left e.symm (by rw [box_row u hu, box_row v hv]))
end Go.Proofs.YtekpamojojfplaaGreat
namespace Go.Proofs.YtekpamojojfplaaGreat
def conS (r c : Int) (g : List Int) (b : Int) (v : List Int) : Bool := posF v && (match vatO r c g v with
  | some n => decide (1 ≤ n ∧ n ≤ b)
  | none => false)
def baseS (r c : Int) (g : List Int) (b : Int) (L : List (List Int)) : List (List Int × Int) := (L.filter (conS r c g b)).map fun v => (v, (vatO r c g v).getD 0)
def shV (r c : Int) (g : List Int) (b : Int) : Option (List (List Int × Int)) := ((boxG r c g b).bind fun w => boxO (w.map fun x => -x) w).map fun L => putsV (baseS r c g b L)
def shO (r c : Int) (g : List Int) (b : Int) : Option (List (List Int)) := (shV r c g b).map fun S => S.map Prod.fst
theorem root_le {x m : Int} (hm : 0 ≤ m) (h : x * x ≤ m) : -((rootN m : Nat) : Int) ≤ x ∧ x ≤ (rootN m : Nat) := by
  have hr := (rootN_spec hm).2
  constructor
  · rcases Int.lt_or_le x (-((rootN m : Nat) : Int)) with c | c
    · have := Int.mul_le_mul (show ((rootN m : Nat) + 1 : Int) ≤ -x by omega) (show ((rootN m : Nat) + 1 : Int) ≤ -x by omega) (by omega) (by omega)
      rw [Int.neg_mul_neg] at this; omega
    · exact c
  · rcases Int.lt_or_le ((rootN m : Nat) : Int) x with c | c
    · have := Int.mul_le_mul (show ((rootN m : Nat) + 1 : Int) ≤ x by omega) (show ((rootN m : Nat) + 1 : Int) ≤ x by omega) (by omega) (by omega)
      omega
    · exact c
theorem bxTo_at {a : List Int} {n : Nat} {b d : Int} : ∀ {i : Nat} {l : List Int}, bxTo a n b d i = some l → ∀ k, k < i → l.getD k 0 = ((rootN ((b * a.getD (k * n + k) 0).tdiv d) : Nat) : Int) ∧ numB (b * a.getD (k * n + k) 0) = true
  | 0, l, h, k, hk => by omega
  | i + 1, l, h, k, hk => by
    rw [bxTo, Option.bind_eq_some_iff] at h
    obtain ⟨l0, h1, h2⟩ := h
    have hl := bxTo_len h1
    split at h2
    · rename_i hn
      cases h2
      by_cases c : k < i
      · rw [getD_app (by omega)]; exact bxTo_at h1 k c
      · obtain rfl : k = i := by omega
        rw [getD_apR (by omega), hl, Nat.sub_self]
        exact ⟨rfl, hn⟩
    · cases h2
theorem box_has {lo hi : List Int} : ∀ {t : Nat} {v : List Int}, v.length = t → (∀ k, k < t → lo.getD k 0 ≤ v.getD k 0 ∧ v.getD k 0 ≤ hi.getD k 0) → v ∈ boxTo lo hi t
  | 0, v, hv, _ => by
    obtain rfl : v = [] := List.eq_nil_of_length_eq_zero hv
    simp [boxTo]
  | t + 1, v, hv, h => by
    rw [boxTo, List.mem_flatMap]
    have ht : t < v.length := by omega
    refine ⟨v.take t, box_has (by rw [List.length_take]; omega) fun k hk => ?_, List.mem_map.2 ⟨v.getD t 0, ?_, ?_⟩⟩
    · rw [List.getD_eq_getElem?_getD (l := v.take t), List.getElem?_take, if_pos hk, ← List.getD_eq_getElem?_getD]
      exact h k (by omega)
    · obtain ⟨h1, h2⟩ := h t (by omega)
      refine List.mem_map.2 ⟨(v.getD t 0 - lo.getD t 0).toNat, List.mem_range.2 ?_, by omega⟩
      unfold widW; omega
    · rw [getD_in ht, ← List.take_succ_eq_append_getElem ht, List.take_of_length_le (by omega)]
theorem cofV_W {m k : Nat} {g : List Int} (hk : k < m + 1) (h : numB (cofV g (m + 1) k k) = true) : cofV g (m + 1) k k = cofW m (mxL (m + 1) g) k k := by
  unfold cofV at h ⊢
  split
  · rename_i d hd
    rw [if_neg (by omega)]
    show d = sgnN (k + k) * detF m (minF (mxL (m + 1) g) k k)
    rw [sgnN_add, sgnN_sq, Int.one_mul, detZ_F hd]
    exact detF_congr fun a b ha hb => by
      show (minM g (m + 1) k k (m + 1)).getD (a * m + b) 0 = g.getD (skp k a * (m + 1) + skp k b) 0
      exact minM_at hk (skp_lt ha) hb
  · rename_i hd
    rw [hd] at h
    cases h
theorem boxG_some {r c : Int} {g w : List Int} {b : Int} (h : boxG r c g b = some w) : ∃ n : Nat, r = n ∧ c = n ∧ n ≤ 6 ∧ defB r c g = true ∧ 0 ≤ b ∧ b ≤ 10000 ∧ w.length = n ∧ (∀ k, 0 ≤ w.getD k 0 ∧ w.getD k 0 ≤ 400000000) ∧
    ∀ x : Vec, bilM n (mxL n g) x x ≤ b → ∀ k, k < n → -(w.getD k 0) ≤ x k ∧ x k ≤ w.getD k 0 := by
  unfold boxG at h
  obtain ⟨a, ha, h⟩ := Option.bind_eq_some_iff.1 h
  split at h
  · rename_i hc
    rw [Bool.and_eq_true] at hc
    obtain ⟨n, rfl, rfl, hn, hx, hnum, hsym, hpos, hdet⟩ := defB_pos hc.1
    obtain ⟨d, hd, hd0⟩ := defB_det hc.1
    have hb := inB_true.1 hc.2
    rw [hd, Int.toNat_natCast, Option.getD_some] at h
    have hwl := bxTo_len h
    have hwb : ∀ k, 0 ≤ w.getD k 0 ∧ w.getD k 0 ≤ 400000000 := fun k => by
      by_cases hk : k < n
      · obtain ⟨e, e2⟩ := bxTo_at h k hk
        rw [e]
        refine ⟨by omega, ?_⟩
        have hnb := numB_true.1 e2
        have htb := tdiv_bdN (d := d) hnb
        have := root_bd ((b * a.getD (k * n + k) 0).tdiv d)
        omega
      · rw [List.getD_eq_getElem?_getD, List.getElem?_eq_none (by omega)]
        exact ⟨Int.le_refl 0, by decide⟩
    refine ⟨n, rfl, rfl, hn, hc.1, hb.1, hb.2, hwl, hwb, fun x hxb k hk => ?_⟩
    obtain ⟨m, rfl⟩ : ∃ m, n = m + 1 := ⟨n - 1, by omega⟩
    have hak : a.getD (k * (m + 1) + k) 0 = cofW m (mxL (m + 1) g) k k ∧ numB (cofV g (m + 1) k k) = true := by
      unfold adjZ at ha
      split at ha
      · rename_i hca
        rw [Bool.and_eq_true, Int.toNat_natCast] at hca
        rw [Int.toNat_natCast] at ha
        cases ha
        have := numB_true.2 (num_getD hca.2 (k * (m + 1) + k))
        rw [cofL_at hk hk] at this
        rw [turnM_at (P := cofL g (m + 1)) hk hk, cofL_at hk hk]
        exact ⟨cofV_W hk this, this⟩
      · cases ha
    have hdd : d = detF (m + 1) (mxL (m + 1) g) := by
      unfold detB at hd
      split at hd
      · rw [Int.toNat_natCast] at hd; exact detZ_F hd
      · cases hd
    have h1 := adj_bound hsym hpos (by rw [← hdd]; exact hd0) hk x
    have h2 := cof_pos hpos (by rw [← hdd]; exact hd0) hk
    rw [← hdd, ← hak.1] at h1
    rw [← hak.1] at h2
    have h3 : x k * x k * d ≤ b * a.getD (k * (m + 1) + k) 0 := Int.le_trans h1 (Int.mul_le_mul_of_nonneg_right hxb (by omega))
    rw [(bxTo_at h k hk).1]
    have h4 : 0 ≤ b * a.getD (k * (m + 1) + k) 0 := Int.mul_nonneg hb.1 (by omega)
    refine root_le ?_ ?_
    · rw [Int.tdiv_eq_ediv_of_nonneg h4]; exact Int.ediv_nonneg h4 (by omega)
    · rw [Int.tdiv_eq_ediv_of_nonneg h4]; exact (Int.le_ediv_iff_mul_le hd0).2 h3
  · cases h
theorem vat_ex {n : Nat} {g v : List Int} (hd : defB n n g = true) (hv : v.length = n) (hvn : v.all numB = true) (hb : bilM n (mxL n g) (vecL v) (vecL v) ≤ 400000000) : vatO n n g v = some (bilM n (mxL n g) (vecL v) (vecL v)) := by
  obtain ⟨n', e, -, hn, hx, hnum, hsym, hpos, -⟩ := defB_pos hd
  obtain rfl : n = n' := by omega
  have hG : gramB n n g = true := by simp only [defB, Bool.and_eq_true] at hd; exact hd.2
  have hp0 := hpos.nonneg (vecL v)
  have h1 : isM 1 n v = true := by
    simp only [isM, Bool.and_eq_true, decide_eq_true_eq]
    exact ⟨⟨by omega, by omega, by omega, by omega, by omega⟩, hvn⟩
  have h1' : isM n 1 v = true := by
    simp only [isM, Bool.and_eq_true, decide_eq_true_eq]
    exact ⟨⟨by omega, by omega, by omega, by omega, by omega⟩, hvn⟩
  have h2 : isM n n g = true := by
    simp only [isM, Bool.and_eq_true, decide_eq_true_eq]
    exact ⟨⟨by omega, by omega, by omega, by omega, by rw [hx]; exact Int.natCast_mul n n⟩, hnum⟩
  have hpj : ∀ j, j < n → (mulM 1 n n v g).getD j 0 = bilM n (mxL n g) (vecL v) (unitV j) := fun j hj => by
    have := mulM_getD (r := 1) (n := n) (c := n) (i := 0) (j := j) (xs := v) (ys := g) (by omega) hj
    rw [Nat.zero_mul, Nat.zero_add] at this
    rw [this, bil_unit hj]
    exact sg_congr fun t _ => by rw [Nat.zero_add]; rfl
  have hpn : (mulM 1 n n v g).all numB = true := List.all_eq_true.2 fun z hz => by
    obtain ⟨j, hj, rfl⟩ := List.mem_iff_getElem.1 hz
    rw [← getD_in (d := 0) hj]
    rw [mulM_len, Nat.one_mul] at hj
    rw [hpj j hj]
    have h3 := cauchy hsym hpos (vecL v) (unitV j)
    have h4 : bilM n (mxL n g) (unitV j) (unitV j) ≤ 400000000 := by
      rw [bil_unit hj, sg_single hj fun k hk hne => by simp [unitV, hne]]
      have := num_getD hnum (j * n + j)
      show (if j = j then 1 else 0) * g.getD (j * n + j) 0 ≤ _
      rw [if_pos rfl, Int.one_mul]; exact this.2
    have h5 := hpos.nonneg (unitV j)
    have h6 : bilM n (mxL n g) (vecL v) (vecL v) * bilM n (mxL n g) (unitV j) (unitV j) ≤ 400000000 * 400000000 := Int.mul_le_mul hb h4 h5 (by decide)
    exact numB_true.2 (sq_le (by decide) (Int.le_trans h3 h6))
  have hq0 : (mulM 1 n 1 (mulM 1 n n v g) v).getD 0 0 = bilM n (mxL n g) (vecL v) (vecL v) := by
    have := mulM_getD (r := 1) (n := n) (c := 1) (i := 0) (j := 0) (xs := mulM 1 n n v g) (ys := v) (by omega) (by omega)
    rw [show 0 * 1 + 0 = 0 from rfl] at this
    rw [this, bilM_sym hsym, bilM_two, sg_swap]
    refine sg_congr fun t ht => ?_
    rw [Nat.zero_mul, Nat.zero_add, hpj t ht, bil_unit ht, Int.mul_comm, ← sg_mul]
    refine sg_congr fun k hk => ?_
    show v.getD (t * 1 + 0) 0 * (v.getD k 0 * mxL n g k t) = v.getD k 0 * mxL n g k t * v.getD t 0
    rw [Nat.mul_one, Nat.add_zero]; grind
  have hqn : (mulM 1 n 1 (mulM 1 n n v g) v).all numB = true := List.all_eq_true.2 fun z hz => by
    obtain ⟨j, hj, rfl⟩ := List.mem_iff_getElem.1 hz
    rw [← getD_in (d := 0) hj]
    rw [mulM_len] at hj
    obtain rfl : j = 0 := by omega
    rw [hq0]
    exact numB_true.2 ⟨by omega, hb⟩
  have hm1 := mulZ_yes (r := 1) (n := n) (c := n) (by simpa using h1) h2 hpn
  have h3 : isM 1 n (mulM 1 n n v g) = true := by
    simp only [isM, Bool.and_eq_true, decide_eq_true_eq]
    exact ⟨⟨by omega, by omega, by omega, by omega, by rw [mulM_len]; omega⟩, hpn⟩
  have hm2 := mulZ_yes (r := 1) (n := n) (c := 1) (by simpa using h3) (by simpa using h1') hqn
  unfold vatO
  rw [hG, Bool.true_and, if_pos (by rw [hv]; exact decide_eq_true rfl), hv]
  simp only [Int.natCast_one] at hm1 hm2
  rw [hm1, Option.bind_some, hm2, Option.map_some, hq0]
theorem shO_some {r c : Int} {g : List Int} {b : Int} {S : List (List Int)} (h : shO r c g b = some S) : ∃ (w : List Int) (L : List (List Int)), boxG r c g b = some w ∧ boxO (w.map fun x => -x) w = some L ∧ shV r c g b = some (putsV (baseS r c g b L)) ∧ S = (putsV (baseS r c g b L)).map Prod.fst := by
  unfold shO at h
  obtain ⟨P, hP, rfl⟩ := Option.map_eq_some_iff.1 h
  have hP' := hP
  unfold shV at hP
  obtain ⟨L, hL, rfl⟩ := Option.map_eq_some_iff.1 hP
  obtain ⟨w, h1, h2⟩ := Option.bind_eq_some_iff.1 hL
  exact ⟨w, L, h1, h2, hP', rfl⟩
theorem sh_iff {r c : Int} {g : List Int} {b : Int} {S : List (List Int)} (h : shO r c g b = some S) (v : List Int) : v ∈ S ↔ posF v = true ∧ ∃ z, vatO r c g v = some z ∧ 1 ≤ z ∧ z ≤ b := by
  obtain ⟨w, L, h1, h2, -, rfl⟩ := shO_some h
  obtain ⟨n, rfl, rfl, hn, hd, hb0, hb, hwl, hw0, hbox⟩ := boxG_some h1
  have hL : L = boxTo (w.map fun x => -x) w n := by
    unfold boxO at h2
    split at h2
    · cases h2; rw [List.length_map, hwl]
    · cases h2
  have hm : v ∈ (putsV (baseS n n g b L)).map Prod.fst ↔ v ∈ L ∧ conS n n g b v = true := by
    rw [List.mem_map]
    constructor
    · rintro ⟨x, hx, rfl⟩
      obtain ⟨u, hu, rfl⟩ := List.mem_map.1 (mem_puts.1 hx)
      exact List.mem_filter.1 hu
    · intro hv
      exact ⟨_, mem_puts.2 (List.mem_map.2 ⟨v, List.mem_filter.2 hv, rfl⟩), rfl⟩
  have hcon : conS n n g b v = true ↔ posF v = true ∧ ∃ z, vatO n n g v = some z ∧ 1 ≤ z ∧ z ≤ b := by
    unfold conS
    rw [Bool.and_eq_true]
    cases hvo : vatO n n g v with
    | none => simp
    | some z => simp
  rw [hm, hcon]
  refine ⟨fun h => h.2, fun h => ⟨?_, h⟩⟩
  obtain ⟨hp, z, hz, hz1, hzb⟩ := h
  obtain ⟨n', e, -, -, hvl, -, -, rfl⟩ := vatO_some hz
  obtain rfl : n = n' := by omega
  rw [hL]
  refine box_has hvl fun k hk => ?_
  have := hbox (vecL v) hzb k hk
  have e2 : (w.map fun x => -x).getD k 0 = -(w.getD k 0) := by
    rw [List.getD_eq_getElem?_getD, List.getD_eq_getElem?_getD, List.getElem?_map]
    cases w[k]? <;> rfl
  rw [e2]
  exact this
theorem sh_has {n : Nat} {g : List Int} {b : Int} {S : List (List Int)} (h : shO n n g b = some S) {v : List Int} (hv : v.length = n) (hp : posF v = true) (hb : bilM n (mxL n g) (vecL v) (vecL v) ≤ b) : v ∈ S := by
  obtain ⟨w, L, h1, h2, -, -⟩ := shO_some h
  obtain ⟨n', e, -, hn, hd, hb0, hb1, hwl, hw0, hbox⟩ := boxG_some h1
  obtain rfl : n = n' := by omega
  have hvn : v.all numB = true := all_num fun k hk => by
    have h3 := hbox (vecL v) hb k (by omega)
    have h4 := hw0 k
    have e2 : vecL v k = v.getD k 0 := rfl
    rw [e2] at h3; omega
  have hz := vat_ex hd hv hvn (by omega)
  exact (sh_iff h v).2 ⟨hp, _, hz, vat_pos hd hp hz, hb⟩
theorem boxO_nodup {lo hi : List Int} {L : List (List Int)} (h : boxO lo hi = some L) : L.Nodup := by
  unfold boxO at h
  split at h
  · cases h; exact box_nodup _
  · cases h
theorem baseS_nodup {r c : Int} {g : List Int} {b : Int} {L : List (List Int)} (h : L.Nodup) : (baseS r c g b L).Nodup := by
  refine List.pairwise_map.2 ((h.filter _).imp fun {x y} h e => h ?_)
  exact (Prod.ext_iff.1 e).1
theorem cmpV_le {x y : List Int × Int} (h : cmpV x y < 0) : x.2 ≤ y.2 := by
  rcases Int.lt_or_le y.2 x.2 with c | c
  · have := cmpV_trans h (cmpV_lt c)
    rw [cmpV_self] at this; omega
  · exact c
theorem sh_head {r c : Int} {g w y : List Int} {b m z : Int} {W : List (List Int)} (h : shO r c g b = some (w :: W)) (hy : y ∈ w :: W) (hm : vatO r c g w = some m) (hz : vatO r c g y = some z) : m ≤ z := by
  obtain ⟨w', L, h1, h2, h3, he⟩ := shO_some h
  have hst := puts_strict (baseS_nodup (r := r) (c := c) (g := g) (b := b) (boxO_nodup h2))
  cases hP : putsV (baseS r c g b L) with
  | nil => rw [hP] at he; cases he
  | cons x P =>
    have hmem : ∀ p ∈ x :: P, p.2 = (vatO r c g p.1).getD 0 := fun p hp => by
      rw [← hP] at hp
      obtain ⟨r, hr, rfl⟩ := List.mem_map.1 (mem_puts.1 hp)
      rfl
    rw [hP] at he hst
    have hx2 : x.2 = m := by
      have e := (List.cons.inj he).1
      rw [hmem x (by simp), ← e, hm]; rfl
    rw [he] at hy
    obtain ⟨p, hp, rfl⟩ := List.mem_map.1 hy
    have hp2 : p.2 = z := by rw [hmem p hp, hz]; rfl
    rcases List.mem_cons.1 hp with rfl | hp'
    · omega
    · have := cmpV_le ((List.pairwise_cons.1 hst).1 p hp')
      omega
end Go.Proofs.YtekpamojojfplaaGreat
namespace Go.Proofs.YtekpamojojfplaaGreat
open Go.RowKit
def ratioB (n d : Int) : Bool := decide (1 ≤ d ∧ d ≤ 400000000 ∧ -400000000 ≤ n ∧ n ≤ 400000000) && ((Int.gcd n d : Int) == 1)
theorem ratioB_true {n d : Int} (h : ratioB n d = true) : 1 ≤ d ∧ d ≤ 400000000 ∧ -400000000 ≤ n ∧ n ≤ 400000000 ∧ Int.gcd n d = 1 := by
  simp only [ratioB, Bool.and_eq_true, decide_eq_true_eq, beq_iff_eq] at h
  obtain ⟨⟨h1, h2, h3, h4⟩, h5⟩ := h
  exact ⟨h1, h2, h3, h4, by omega⟩
def cfTerms (n : Int) (d : Nat) : List Int := if _h : d = 0 then [] else (n / (d : Int)) :: cfTerms d (n % (d : Int)).toNat
termination_by d
decreasing_by
  have h1 := Int.emod_lt_of_pos n (show 0 < (d : Int) by omega)
  have h2 := Int.emod_nonneg n (show (d : Int) ≠ 0 by omega)
  omega
def cfOf (n d : Int) : List Int := if ratioB n d then cfTerms n d.toNat else []
def CRel (n : Int) (D : Nat) (w : World) (ov av bv : Value) (wr : World) : Prop :=
  ∃ (A : Option Addr) (k c : Nat) (ys : List Int) (a : Int) (b : Nat), ov = .slice A k c ∧ av = .int .i64 a ∧ bv = .int .i64 b ∧ OI wr w.heap.size A k c ys ∧ Hid (ys ++ cfTerms a b = cfTerms n D) ∧ k + b ≤ D ∧ -400000000 ≤ a ∧ a ≤ 400000000 ∧ Below w.heap.size w wr
def GotInts (base : Nat) (ok : Bool) (ys : List Int) (w0 : World) (e : Ending) (w' : World) : Prop :=
  ∃ A c, e = .returned (.tuple #[.slice A ys.length c, .bool ok]) ∧ OI w' base A ys.length c ys ∧ ∃ x : Ext w0, w' = x.val
end Go.Proofs.YtekpamojojfplaaGreat
namespace Go.Proofs.YtekpamojojfplaaGreat
open Go.RowKit
def redR (x y : Int) : Int × Int := if ratioB x y then (x, y) else (0, 0)
def lowR (n d : Int) : Int × Int :=
  if d < 0 then redR (-(n / (Int.gcd n d : Int))) (-(d / (Int.gcd n d : Int))) else redR (n / (Int.gcd n d : Int)) (d / (Int.gcd n d : Int))
theorem gcd_pos_of {n d : Int} (h : d ≠ 0) : 0 < (Int.gcd n d : Int) := by
  have := Int.gcd_pos_of_ne_zero_right n h; omega
theorem tdiv_left {n d : Int} (_h : d ≠ 0) : n.tdiv (Int.gcd n d) = n / (Int.gcd n d : Int) :=
  (Int.tdiv_eq_ediv_of_dvd (Int.gcd_dvd_left n d))
theorem tdiv_right {n d : Int} (_h : d ≠ 0) : d.tdiv (Int.gcd n d) = d / (Int.gcd n d : Int) :=
  (Int.tdiv_eq_ediv_of_dvd (Int.gcd_dvd_right n d))
theorem lowR_pos {n d : Int} (h : 0 < d) : lowR n d = redR (n.tdiv (Int.gcd n d)) (d.tdiv (Int.gcd n d)) := by
  rw [lowR, if_neg (by omega), tdiv_left (by omega), tdiv_right (by omega)]
theorem lowR_neg {n d : Int} (h : d < 0) : lowR n d = redR (-(n.tdiv (Int.gcd n d))) (-(d.tdiv (Int.gcd n d))) := by
  rw [lowR, if_pos h, tdiv_left (by omega), tdiv_right (by omega)]
@[go_sem low] theorem alloc_frozen {W : World} (c : Array Value) (t : TypeId) (b o : Nat) : (W.alloc (.cells c t)).frozen? ⟨b, o, none⟩ = if b < W.heap.size then W.frozen? ⟨b, o, none⟩ else false := by
  rw [frozen?_alloc_cells]
  split
  · rfl
  · have e : W.heap[b]? = none := by simp; omega
    simp [World.frozen?, e]
end Go.Proofs.YtekpamojojfplaaGreat
namespace Go.Proofs.YtekpamojojfplaaGreat
open Go.RowKit
attribute [-go_sem] alloc_frozen
theorem prod_bd {a b : Int} (h1 : -400000000 ≤ a) (h2 : a ≤ 400000000) (h3 : -400000000 ≤ b) (h4 : b ≤ 400000000) : -160000000000000000 ≤ a * b ∧ a * b ≤ 160000000000000000 := by
  have h : (a * b).natAbs ≤ 400000000 * 400000000 := by
    rw [Int.natAbs_mul]; exact Nat.mul_le_mul (by omega) (by omega)
  omega
def addR (a b c d : Int) : Int × Int := if ratioB a b && ratioB c d then lowR (a * d + c * b) (b * d) else (0, 0)
def divR (a b c d : Int) : Int × Int := if ratioB a b && ratioB c d && !(c == 0) then lowR (a * d) (b * c) else (0, 0)
end Go.Proofs.YtekpamojojfplaaGreat
namespace Go.Proofs.YtekpamojojfplaaGreat
open Go.RowKit
def vR (p : Int × Int) : AV := .agg [.int p.1, .int p.2]
theorem vR_eq {a b : Int} {p : Int × Int} (h : p = (a, b)) : AV.agg [.int a, .int b] = vR p := by rw [h]; rfl
theorem d_ratioI (n d : Int) : Does Tryz.prog 195 [.agg [.int n, .int d]] [] 1 (Ret (vB (ratioB n d)) 1) := by
 refine Does.intro TT Tryz.func195 rfl (by kernel_rfl) Zz Zz fun E hE => ?_
 (repeat' (first | refine stx ?_ | refine zqc (d_numI _) ?_ | (first | refine w_z (d_gcd _ _ (by have := numB_true.1 (by assumption); omega) (by omega)) Zz Zz Zz Zz Zz Zz Zz Zz ft Zz Zz ?_ | refine w_A (d_gcd _ _ (by have := numB_true.1 (by assumption); omega) (by omega)) Zz Zz Zz Zz Zz Zz Zz Zz ft Zz Zz ?_) | (refine stq ?_ ?_ <;> (intro hc; ((try simp at hc) <;> try contradiction))) | fail))
 all_goals refine fin_ret rfl trivial (congrArg vB ?_) rfl
 all_goals simp [ratioB, numB_true, numB_false] at *
 ·rw [Bool.eq_iff_iff]; simp; omega
 all_goals omega
theorem d_ratioS (n d : Int) : Does Tryz.prog 150 [.agg [.int n, .int d]] [] 1 (Ret (vB (ratioB n d)) 1) := by
 refine Does.intro TT Tryz.func150 rfl (by kernel_rfl) Zz Zz fun E hE => ?_
 (repeat' (first | refine stx ?_ | refine zqc (d_l1In _ _ _) ?_ | refine zqc (d_numS _) ?_ | refine zqc (d_gcdOf _ _) ?_ | (refine stq ?_ ?_ <;> (intro hc; ((try simp at hc) <;> try contradiction))) | fail))
 all_goals refine fin_ret rfl trivial (congrArg vB ?_) rfl
 ·have h1 := numB_true.1 (by assumption : numB n = true)
  have h2 := inB_true.1 (by assumption : inB d 1 400000000 = true)
  rw [gcdOf_eq (by assumption) (numB_true.2 (by omega))]
  simp [ratioB]
  rw [Bool.eq_iff_iff]; simp; omega
 ·have h1 := numB_false.1 (by assumption : numB n = false)
  simp [ratioB]; omega
 ·have h2 := inB_false.1 (by assumption : inB d 1 400000000 = false)
  simp [ratioB]; omega
theorem q_bd (n : Int) {g : Int} (h1 : -1000000000000000000 ≤ n) (h2 : n ≤ 1000000000000000000) : -1000000000000000000 ≤ n.tdiv g ∧ n.tdiv g ≤ 1000000000000000000 := by
  have hq1 := tdiv_bd n g
  omega
theorem lowR_of {n d : Int} {x y : Int} {b : Bool} (h : (n.tdiv (Int.gcd n d) = x ∧ d.tdiv (Int.gcd n d) = y ∧ 0 < d) ∨ (-(n.tdiv (Int.gcd n d)) = x ∧ -(d.tdiv (Int.gcd n d)) = y ∧ d < 0)) (hb : ratioB x y = b) : lowR n d = if b then (x, y) else (0, 0) := by
  rcases h with ⟨h1, h2, h⟩ | ⟨h1, h2, h⟩
  · rw [lowR_pos h, h1, h2, redR, hb]
  · rw [lowR_neg h, h1, h2, redR, hb]
theorem d_lowest (n d : Int) (hn : -1000000000000000000 ≤ n ∧ n ≤ 1000000000000000000) (hd : -1000000000000000000 ≤ d ∧ d ≤ 1000000000000000000) (h0 : d ≠ 0) : Does Tryz.prog 217 [vI n, vI d] [] 1 (Ret (vR (lowR n d)) 1) := by
 have hg0 := gcd_pos_of (n := n) h0
 have hg1 : (Int.gcd n d : Int) ≤ 1000000000000000000 := gcd_le_left hn.1 hn.2 hd.1 hd.2
 have hq1 := q_bd n (g := (Int.gcd n d : Int)) hn.1 hn.2
 have hq2 := q_bd d (g := (Int.gcd n d : Int)) hd.1 hd.2
 have hq3 := q_bd n (g := -(Int.gcd n d : Int)) hn.1 hn.2
 have hq4 := q_bd d (g := -(Int.gcd n d : Int)) hd.1 hd.2
 refine Does.intro TT Tryz.func217 rfl (by kernel_rfl) Zz Zz fun E hE => ?_
 (repeat' (first | refine stx ?_ | (first | refine w_z (d_gcd _ _ (by omega) (by omega)) Zz Zz Zz Zz Zz Zz Zz Zz ft Zz Zz ?_ | refine w_A (d_gcd _ _ (by omega) (by omega)) Zz Zz Zz Zz Zz Zz Zz Zz ft Zz Zz ?_) | (refine stq ?_ ?_ <;> (intro hc; ((try simp at hc) <;> try contradiction))) | fail))
 all_goals
  refine awp_held TM [] sb rfl (fun ρs => ?_)
  refine zt0 ?_
  refine zt1 ?_
  refine zt2 ?_
  refine zt3 ?_
  refine zt4 ?_
  refine zt5 ?_
  refine zt6 ?_
  refine w_u [7] kr rfl ⟨?_, trivial⟩
  first | (refine zho ?_)
  refine w_u [8] kr rfl ⟨?_, trivial⟩
  first | (refine zho ?_)
  refine w_v kr ?_
  rotate_left
  (repeat' (first | refine stx ?_ | refine zqc (d_ratioI _ _) ?_ | (refine stq ?_ ?_ <;> (intro hc; ((try simp at hc) <;> try contradiction))) | fail))
 all_goals refine fin_ret rfl w_3 (vR_eq ?_) rfl
 all_goals try simp only [Int.tdiv_neg] at *
 all_goals rw [lowR_of (by first | exact .inr ⟨rfl, rfl, by omega⟩ | exact .inl ⟨rfl, rfl, by omega⟩) hc]
 all_goals rfl
theorem gcd_nn {n d : Int} : Int.gcd (-n) (-d) = Int.gcd n d := by rw [Int.gcd_neg, Int.neg_gcd]
theorem d_l2Make (n d : Int) (hn : -1000000000000000000 ≤ n ∧ n ≤ 1000000000000000000) (hd : -1000000000000000000 ≤ d ∧ d ≤ 1000000000000000000) : Does Tryz.prog 214 [vI n, vI d] [] 1 (Ret (vR (if d = 0 then (0, 0) else lowR n d)) 1) := by
 refine Does.intro TT Tryz.func214 rfl (by kernel_rfl) Zz Zz fun E hE => ?_
 (repeat' (first | refine stx ?_ | (refine stq ?_ ?_ <;> (intro hc; ((try simp at hc) <;> try contradiction))) | fail))
 ·refine fin_ret rfl w_3 (vR_eq ?_) rfl
  rw [if_pos hc]
 ·rw [if_neg (show ¬ d = 0 by assumption)]
  have h0 : d ≠ 0 := by assumption
  have hg0 := gcd_pos_of (n := n) h0
  have hg1 : (Int.gcd n d : Int) ≤ 1000000000000000000 := gcd_le_left hn.1 hn.2 hd.1 hd.2
  have hq1 := q_bd (-n) (g := (Int.gcd n d : Int)) (by omega) (by omega)
  have hq2 := q_bd (-d) (g := (Int.gcd n d : Int)) (by omega) (by omega)
  refine w_G hE (fun p : Int × Int => (-1000000000000000000 ≤ p.1 ∧ p.1 ≤ 1000000000000000000) ∧ (-1000000000000000000 ≤ p.2 ∧ p.2 ≤ 1000000000000000000) ∧ Int.gcd p.1 p.2 = Int.gcd (-n) (-d)) (fun p => p.2.natAbs)
   (fun p => [(0, vI (-n)), (1, vI (-d)), (4, .one (.ptr 1 2 0 0)), (5, vI p.1), (6, vI p.2)]) (fun _ => [(1, .own 129 1 (.lit [.int 0, .int 0]))]) 2 [] (-n, -d) ⟨by omega, by omega, rfl⟩ ⟨⟨rfl, rfl, rfl, rfl, rfl, trivial⟩, ⟨rfl, trivial⟩, rfl⟩ ?_
  rintro ⟨x, y⟩ ⟨h1, h2, h5⟩
  dsimp only at *
  (repeat' (first | refine stx ?_ | (first | refine w_z (d_l1Abs _ (by omega) (by omega)) Zz Zz Zz Zz Zz Zz Zz Zz ft Zz Zz ?_ | refine w_A (d_l1Abs _ (by omega) (by omega)) Zz Zz Zz Zz Zz Zz Zz Zz ft Zz Zz ?_) | (refine stq ?_ ?_ <;> (intro hc; ((try simp at hc) <;> try contradiction))) | fail))
  ·obtain ⟨h6, h7⟩ := gcd_round h1 h2 hc h5
   exact ⟨[], (y, x.tmod y), h6, h7, ⟨rfl, rfl, rfl, rfl, rfl, trivial⟩, ⟨rfl, trivial⟩, rfl⟩
  ·subst hc
   have e : (x.natAbs : Int) = (Int.gcd n d : Int) := by rw [← gcd_nn, ← h5]; simp
   rw [e]
   refine awp_held TM [] sb rfl (fun ρs => ?_)
   refine zt0 ?_
   refine zt1 ?_
   refine zt2 ?_
   refine zt3 ?_
   refine zt4 ?_
   refine zt5 ?_
   refine zt6 ?_
   refine w_u [7] kr rfl ⟨?_, trivial⟩
   first | (refine zho ?_)
   refine w_u [8] kr rfl ⟨?_, trivial⟩
   first | (refine zho ?_)
   refine w_v kr ?_
   rotate_left
   (repeat' (first | refine stx ?_ | refine zqc (d_ratioS _ _) ?_ | (refine stq ?_ ?_ <;> (intro hc; ((try simp at hc) <;> try contradiction))) | fail))
   all_goals refine fin_ret rfl w_3 (vR_eq ?_) rfl
   all_goals simp only [Int.neg_tdiv] at *
   all_goals rw [lowR_of (.inr ⟨rfl, rfl, by omega⟩) hc]
   all_goals rfl
 ·rw [if_neg (show ¬ d = 0 by assumption)]
  have h0 : d ≠ 0 := by assumption
  have hg0 := gcd_pos_of (n := n) h0
  have hg1 : (Int.gcd n d : Int) ≤ 1000000000000000000 := gcd_le_left hn.1 hn.2 hd.1 hd.2
  have hq1 := q_bd n (g := (Int.gcd n d : Int)) (by omega) (by omega)
  have hq2 := q_bd d (g := (Int.gcd n d : Int)) (by omega) (by omega)
  refine w_G hE (fun p : Int × Int => (-1000000000000000000 ≤ p.1 ∧ p.1 ≤ 1000000000000000000) ∧ (-1000000000000000000 ≤ p.2 ∧ p.2 ≤ 1000000000000000000) ∧ Int.gcd p.1 p.2 = Int.gcd n d) (fun p => p.2.natAbs)
   (fun p => [(0, vI n), (1, vI d), (4, .one (.ptr 1 2 0 0)), (5, vI p.1), (6, vI p.2)]) (fun _ => [(1, .own 129 1 (.lit [.int 0, .int 0]))]) 2 [] (n, d) ⟨by omega, by omega, rfl⟩ ⟨⟨rfl, rfl, rfl, rfl, rfl, trivial⟩, ⟨rfl, trivial⟩, rfl⟩ ?_
  rintro ⟨x, y⟩ ⟨h1, h2, h5⟩
  dsimp only at *
  (repeat' (first | refine stx ?_ | (first | refine w_z (d_l1Abs _ (by omega) (by omega)) Zz Zz Zz Zz Zz Zz Zz Zz ft Zz Zz ?_ | refine w_A (d_l1Abs _ (by omega) (by omega)) Zz Zz Zz Zz Zz Zz Zz Zz ft Zz Zz ?_) | (refine stq ?_ ?_ <;> (intro hc; ((try simp at hc) <;> try contradiction))) | fail))
  ·obtain ⟨h6, h7⟩ := gcd_round h1 h2 hc h5
   exact ⟨[], (y, x.tmod y), h6, h7, ⟨rfl, rfl, rfl, rfl, rfl, trivial⟩, ⟨rfl, trivial⟩, rfl⟩
  ·subst hc
   have e : (x.natAbs : Int) = (Int.gcd n d : Int) := by rw [← h5]; simp
   rw [e]
   refine awp_held TM [] sb rfl (fun ρs => ?_)
   refine zt0 ?_
   refine zt1 ?_
   refine zt2 ?_
   refine zt3 ?_
   refine zt4 ?_
   refine zt5 ?_
   refine zt6 ?_
   refine w_u [7] kr rfl ⟨?_, trivial⟩
   first | (refine zho ?_)
   refine w_u [8] kr rfl ⟨?_, trivial⟩
   first | (refine zho ?_)
   refine w_v kr ?_
   rotate_left
   (repeat' (first | refine stx ?_ | refine zqc (d_ratioS _ _) ?_ | (refine stq ?_ ?_ <;> (intro hc; ((try simp at hc) <;> try contradiction))) | fail))
   all_goals refine fin_ret rfl w_3 (vR_eq ?_) rfl
   all_goals rw [lowR_of (.inl ⟨rfl, rfl, by omega⟩) hc]
   all_goals rfl
theorem prod_in {a b : Int} (h1 : -400000000 ≤ a ∧ a ≤ 400000000) (h2 : -400000000 ≤ b ∧ b ≤ 400000000) : -160000000000000000 ≤ a * b ∧ a * b ≤ 160000000000000000 := prod_bd h1.1 h1.2 h2.1 h2.2
theorem ratio_in {n d : Int} (h : ratioB n d = true) : (-400000000 ≤ n ∧ n ≤ 400000000) ∧ (-400000000 ≤ d ∧ d ≤ 400000000) ∧ 1 ≤ d := by
  obtain ⟨h1, h2, h3, h4, _⟩ := ratioB_true h
  omega
theorem ratio_prods {a b c d : Int} (h1 : ratioB a b = true) (h2 : ratioB c d = true) : (-160000000000000000 ≤ a * d ∧ a * d ≤ 160000000000000000) ∧ (-160000000000000000 ≤ c * b ∧ c * b ≤ 160000000000000000) ∧ (-160000000000000000 ≤ b * d ∧ b * d ≤ 160000000000000000) ∧ (-160000000000000000 ≤ b * c ∧ b * c ≤ 160000000000000000) ∧ b * d ≠ 0 ∧ (c ≠ 0 → b * c ≠ 0) := by
  have ⟨a1, a2, a3⟩ := ratio_in h1
  have ⟨b1, b2, b3⟩ := ratio_in h2
  exact ⟨prod_in a1 b2, prod_in b1 a2, prod_in a2 b2, prod_in a2 b1, Int.mul_ne_zero (by omega) (by omega), fun h => Int.mul_ne_zero (by omega) h⟩
theorem d_addRI (a b c d : Int) : Does Tryz.prog 215 [.agg [.int a, .int b], .agg [.int c, .int d]] [] 1 (Ret (vR (addR a b c d)) 1) := by
 have hp := @ratio_prods a b c d
 refine Does.intro TT Tryz.func215 rfl (by kernel_rfl) Zz Zz fun E hE => ?_
 cases h1 : ratioB a b <;> cases h2 : ratioB c d
 all_goals simp only [h1, h2, forall_const] at hp
 all_goals (repeat' (first | refine stx ?_ | (refine zqc (d_ratioI _ _) ?_ <;> simp only [h1, h2]) | (first | refine w_z (d_lowest _ _ (by omega) (by omega) (by omega)) Zz Zz Zz Zz Zz Zz Zz Zz ft Zz Zz ?_ | refine w_A (d_lowest _ _ (by omega) (by omega) (by omega)) Zz Zz Zz Zz Zz Zz Zz Zz ft Zz Zz ?_) | (refine stq ?_ ?_ <;> (intro hc; ((try simp at hc) <;> try contradiction))) | fail))
 all_goals refine fin_ret rfl w_3 (vR_eq ?_) rfl
 all_goals simp_all [addR]
 all_goals try rw [if_neg (by intro e; rcases Int.mul_eq_zero.1 e with e | e <;> omega)]
theorem d_addRS (a b c d : Int) : Does Tryz.prog 180 [.agg [.int a, .int b], .agg [.int c, .int d]] [] 1 (Ret (vR (addR a b c d)) 1) := by
 have hp := @ratio_prods a b c d
 refine Does.intro TT Tryz.func180 rfl (by kernel_rfl) Zz Zz fun E hE => ?_
 cases h1 : ratioB a b <;> cases h2 : ratioB c d
 all_goals simp only [h1, h2, forall_const] at hp
 all_goals (repeat' (first | refine stx ?_ | (refine zqc (d_ratioS _ _) ?_ <;> simp only [h1, h2]) | (first | refine w_z (d_l2Make _ _ (by omega) (by omega)) Zz Zz Zz Zz Zz Zz Zz Zz ft Zz Zz ?_ | refine w_A (d_l2Make _ _ (by omega) (by omega)) Zz Zz Zz Zz Zz Zz Zz Zz ft Zz Zz ?_) | (refine stq ?_ ?_ <;> (intro hc; ((try simp at hc) <;> try contradiction))) | fail))
 all_goals refine fin_ret rfl w_3 (vR_eq ?_) rfl
 all_goals simp_all [addR]
 all_goals try rw [if_neg (by intro e; rcases Int.mul_eq_zero.1 e with e | e <;> omega)]
theorem d_divRI (a b c d : Int) : Does Tryz.prog 196 [.agg [.int a, .int b], .agg [.int c, .int d]] [] 1 (Ret (vR (divR a b c d)) 1) := by
 have hp := @ratio_prods a b c d
 refine Does.intro TT Tryz.func196 rfl (by kernel_rfl) Zz Zz fun E hE => ?_
 cases h1 : ratioB a b <;> cases h2 : ratioB c d
 all_goals simp only [h1, h2, forall_const] at hp
 all_goals (repeat' (first | refine stx ?_ | (refine zqc (d_ratioI _ _) ?_ <;> simp only [h1, h2]) | (first | refine w_z (d_lowest _ _ (by omega) (by omega) (by omega)) Zz Zz Zz Zz Zz Zz Zz Zz ft Zz Zz ?_ | refine w_A (d_lowest _ _ (by omega) (by omega) (by omega)) Zz Zz Zz Zz Zz Zz Zz Zz ft Zz Zz ?_) | (refine stq ?_ ?_ <;> (intro hc; ((try simp at hc) <;> try contradiction))) | fail))
 all_goals refine fin_ret rfl w_3 (vR_eq ?_) rfl
 all_goals simp_all [divR]
 all_goals try rw [if_neg (by intro e; rcases Int.mul_eq_zero.1 e with e | e <;> omega)]
theorem d_divRS (a b c d : Int) : Does Tryz.prog 183 [.agg [.int a, .int b], .agg [.int c, .int d]] [] 1 (Ret (vR (divR a b c d)) 1) := by
 have hp := @ratio_prods a b c d
 refine Does.intro TT Tryz.func183 rfl (by kernel_rfl) Zz Zz fun E hE => ?_
 cases h1 : ratioB a b <;> cases h2 : ratioB c d
 all_goals simp only [h1, h2, forall_const] at hp
 all_goals (repeat' (first | refine stx ?_ | (refine zqc (d_ratioS _ _) ?_ <;> simp only [h1, h2]) | (first | refine w_z (d_l2Make _ _ (by omega) (by omega)) Zz Zz Zz Zz Zz Zz Zz Zz ft Zz Zz ?_ | refine w_A (d_l2Make _ _ (by omega) (by omega)) Zz Zz Zz Zz Zz Zz Zz Zz ft Zz Zz ?_) | (refine stq ?_ ?_ <;> (intro hc; ((try simp at hc) <;> try contradiction))) | fail))
 all_goals refine fin_ret rfl w_3 (vR_eq ?_) rfl
 all_goals simp_all [divR]
 all_goals try rw [if_neg (by intro e; rcases Int.mul_eq_zero.1 e with e | e <;> omega)]
theorem d_whole (n : Int) : Does Tryz.prog 192 [vI n] [] 1 (Ret (vR (n, 1)) 1) := by
 refine Does.intro TT Tryz.func192 rfl (by kernel_rfl) Zz Zz fun E hE => ?_
 (repeat' (first | refine stx ?_ | (refine stq ?_ ?_ <;> (intro hc; ((try simp at hc) <;> try contradiction))) | fail))
 all_goals refine fin_ret rfl w_3 (rfl) rfl
def mkR (n d : Int) : Int × Int := if numB n && numB d && !(d == 0) then lowR n d else (0, 0)
end Go.Proofs.YtekpamojojfplaaGreat
namespace Go.Proofs.YtekpamojojfplaaGreat
open Go.RowKit
theorem d_floorI (n d : Int) (h1 : -1000000000000000000 ≤ n) (h2 : n ≤ 1000000000000000000) (hd : 0 < d) : Does Tryz.prog 219 [vI n, vI d] [] 1 (Ret (vI (n / d)) 1) := by
 have hb := tdiv_bd n d
 refine Does.intro TT Tryz.func219 rfl (by kernel_rfl) Zz Zz fun E hE => ?_
 (repeat' (first | refine stx ?_ | (refine stq ?_ ?_ <;> (intro hc; ((try simp at hc) <;> try contradiction))) | fail))
 ·have hn : n < 0 := by omega
  have := tmod_sign_nonpos (n := n) (d := d) (by omega)
  refine fin_ret rfl w_3 (congrArg vI (tdiv_floor_neg hd (by omega))) rfl
 ·have := tmod_sign_nonneg (n := n) (d := d) (by omega)
  refine fin_ret rfl w_3 (congrArg vI (tdiv_floor_nonneg hd (by omega))) rfl
 ·refine fin_ret rfl w_3 (congrArg vI (tdiv_floor_nonneg hd (by omega))) rfl
theorem d_floorS (n d : Int) (h1 : -1000000000000000000 ≤ n) (h2 : n ≤ 1000000000000000000) (hd : 0 < d) : Does Tryz.prog 185 [vI n, vI d] [] 1 (Ret (vI (n / d)) 1) := by
 have hb := tdiv_bd n d
 refine Does.intro TT Tryz.func185 rfl (by kernel_rfl) Zz Zz fun E hE => ?_
 (repeat' (first | refine stx ?_ | (refine stq ?_ ?_ <;> (intro hc; ((try simp at hc) <;> try contradiction))) | fail))
 ·refine fin_ret rfl w_3 (congrArg vI (tdiv_floor_neg hd hc)) rfl
 ·refine fin_ret rfl w_3 (congrArg vI (tdiv_floor_nonneg hd hc)) rfl
end Go.Proofs.YtekpamojojfplaaGreat
