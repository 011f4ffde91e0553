/-
  TEXTS OF THE PROOF, put together: pShort, pIsoO, pSchM, bDraw, bDrawM.
-/
import Derived.Test.YtekpamojojfplaaGreatD19
import Derived.Test.YtekpamojojfplaaGreatD08
import Derived.Test.YtekpamojojfplaaGreatD07
set_option linter.unusedVariables false
set_option linter.unusedSimpArgs false
namespace Go.Proofs.YtekpamojojfplaaGreat
def conS (r c : Int) (g : List Int) (b : Int) (v : List Int) : Bool := posF v && (match vatO r c g v with
  | some n => decide (1 ≤ n ∧ n ≤ b)
  | none => false)
def baseS (r c : Int) (g : List Int) (b : Int) (L : List (List Int)) : List (List Int × Int) := (L.filter (conS r c g b)).map fun v => (v, (vatO r c g v).getD 0)
def shV (r c : Int) (g : List Int) (b : Int) : Option (List (List Int × Int)) := ((boxG r c g b).bind fun w => boxO (w.map fun x => -x) w).map fun L => putsV (baseS r c g b L)
def shO (r c : Int) (g : List Int) (b : Int) : Option (List (List Int)) := (shV r c g b).map fun S => S.map Prod.fst
theorem root_le {x m : Int} (hm : 0 ≤ m) (h : x * x ≤ m) : -((rootN m : Nat) : Int) ≤ x ∧ x ≤ (rootN m : Nat) := by
  have hr := (rootN_spec hm).2
  constructor
  · rcases Int.lt_or_le x (-((rootN m : Nat) : Int)) with c | c
    · have := Int.mul_le_mul (show ((rootN m : Nat) + 1 : Int) ≤ -x by omega) (show ((rootN m : Nat) + 1 : Int) ≤ -x by omega) (by omega) (by omega)
      rw [Int.neg_mul_neg] at this; omega
    · exact c
  · rcases Int.lt_or_le ((rootN m : Nat) : Int) x with c | c
    · have := Int.mul_le_mul (show ((rootN m : Nat) + 1 : Int) ≤ x by omega) (show ((rootN m : Nat) + 1 : Int) ≤ x by omega) (by omega) (by omega)
      omega
    · exact c
theorem bxTo_at {a : List Int} {n : Nat} {b d : Int} : ∀ {i : Nat} {l : List Int}, bxTo a n b d i = some l → ∀ k, k < i → l.getD k 0 = ((rootN ((b * a.getD (k * n + k) 0).tdiv d) : Nat) : Int) ∧ numB (b * a.getD (k * n + k) 0) = true
  | 0, l, h, k, hk => by omega
  | i + 1, l, h, k, hk => by
    rw [bxTo, Option.bind_eq_some_iff] at h
    obtain ⟨l0, h1, h2⟩ := h
    have hl := bxTo_len h1
    split at h2
    · rename_i hn
      cases h2
      by_cases c : k < i
      · rw [getD_app (by omega)]; exact bxTo_at h1 k c
      · obtain rfl : k = i := by omega
        rw [getD_apR (by omega), hl, Nat.sub_self]
        exact ⟨rfl, hn⟩
    · cases h2
theorem box_has {lo hi : List Int} : ∀ {t : Nat} {v : List Int}, v.length = t → (∀ k, k < t → lo.getD k 0 ≤ v.getD k 0 ∧ v.getD k 0 ≤ hi.getD k 0) → v ∈ boxTo lo hi t
  | 0, v, hv, _ => by
    obtain rfl : v = [] := List.eq_nil_of_length_eq_zero hv
    simp [boxTo]
  | t + 1, v, hv, h => by
    rw [boxTo, List.mem_flatMap]
    have ht : t < v.length := by omega
    refine ⟨v.take t, box_has (by rw [List.length_take]; omega) fun k hk => ?_, List.mem_map.2 ⟨v.getD t 0, ?_, ?_⟩⟩
    · rw [List.getD_eq_getElem?_getD (l := v.take t), List.getElem?_take, if_pos hk, ← List.getD_eq_getElem?_getD]
      exact h k (by omega)
    · obtain ⟨h1, h2⟩ := h t (by omega)
      refine List.mem_map.2 ⟨(v.getD t 0 - lo.getD t 0).toNat, List.mem_range.2 ?_, by omega⟩
      unfold widW; omega
    · rw [getD_in ht, ← List.take_succ_eq_append_getElem ht, List.take_of_length_le (by omega)]
theorem cofV_W {m k : Nat} {g : List Int} (hk : k < m + 1) (h : numB (cofV g (m + 1) k k) = true) : cofV g (m + 1) k k = cofW m (mxL (m + 1) g) k k := by
  unfold cofV at h ⊢
  split
  · rename_i d hd
    rw [if_neg (by omega)]
    show d = sgnN (k + k) * detF m (minF (mxL (m + 1) g) k k)
    rw [sgnN_add, sgnN_sq, Int.one_mul, detZ_F hd]
    exact detF_congr fun a b ha hb => by
      show (minM g (m + 1) k k (m + 1)).getD (a * m + b) 0 = g.getD (skp k a * (m + 1) + skp k b) 0
      exact minM_at hk (skp_lt ha) hb
  · rename_i hd
    rw [hd] at h
    cases h
theorem boxG_some {r c : Int} {g w : List Int} {b : Int} (h : boxG r c g b = some w) : ∃ n : Nat, r = n ∧ c = n ∧ n ≤ 6 ∧ defB r c g = true ∧ 0 ≤ b ∧ b ≤ 10000 ∧ w.length = n ∧ (∀ k, 0 ≤ w.getD k 0 ∧ w.getD k 0 ≤ 400000000) ∧
    ∀ x : Vec, bilM n (mxL n g) x x ≤ b → ∀ k, k < n → -(w.getD k 0) ≤ x k ∧ x k ≤ w.getD k 0 := by
  unfold boxG at h
  obtain ⟨a, ha, h⟩ := Option.bind_eq_some_iff.1 h
  split at h
  · rename_i hc
    rw [Bool.and_eq_true] at hc
    obtain ⟨n, rfl, rfl, hn, hx, hnum, hsym, hpos, hdet⟩ := defB_pos hc.1
    obtain ⟨d, hd, hd0⟩ := defB_det hc.1
    have hb := inB_true.1 hc.2
    rw [hd, Int.toNat_natCast, Option.getD_some] at h
    have hwl := bxTo_len h
    have hwb : ∀ k, 0 ≤ w.getD k 0 ∧ w.getD k 0 ≤ 400000000 := fun k => by
      by_cases hk : k < n
      · obtain ⟨e, e2⟩ := bxTo_at h k hk
        rw [e]
        refine ⟨by omega, ?_⟩
        have hnb := numB_true.1 e2
        have htb := tdiv_bdN (d := d) hnb
        have := root_bd ((b * a.getD (k * n + k) 0).tdiv d)
        omega
      · rw [List.getD_eq_getElem?_getD, List.getElem?_eq_none (by omega)]
        exact ⟨Int.le_refl 0, by decide⟩
    refine ⟨n, rfl, rfl, hn, hc.1, hb.1, hb.2, hwl, hwb, fun x hxb k hk => ?_⟩
    obtain ⟨m, rfl⟩ : ∃ m, n = m + 1 := ⟨n - 1, by omega⟩
    have hak : a.getD (k * (m + 1) + k) 0 = cofW m (mxL (m + 1) g) k k ∧ numB (cofV g (m + 1) k k) = true := by
      unfold adjZ at ha
      split at ha
      · rename_i hca
        rw [Bool.and_eq_true, Int.toNat_natCast] at hca
        rw [Int.toNat_natCast] at ha
        cases ha
        have := numB_true.2 (num_getD hca.2 (k * (m + 1) + k))
        rw [cofL_at hk hk] at this
        rw [turnM_at (P := cofL g (m + 1)) hk hk, cofL_at hk hk]
        exact ⟨cofV_W hk this, this⟩
      · cases ha
    have hdd : d = detF (m + 1) (mxL (m + 1) g) := by
      unfold detB at hd
      split at hd
      · rw [Int.toNat_natCast] at hd; exact detZ_F hd
      · cases hd
    have h1 := adj_bound hsym hpos (by rw [← hdd]; exact hd0) hk x
    have h2 := cof_pos hpos (by rw [← hdd]; exact hd0) hk
    rw [← hdd, ← hak.1] at h1
    rw [← hak.1] at h2
    have h3 : x k * x k * d ≤ b * a.getD (k * (m + 1) + k) 0 := Int.le_trans h1 (Int.mul_le_mul_of_nonneg_right hxb (by omega))
    rw [(bxTo_at h k hk).1]
    have h4 : 0 ≤ b * a.getD (k * (m + 1) + k) 0 := Int.mul_nonneg hb.1 (by omega)
    refine root_le ?_ ?_
    · rw [Int.tdiv_eq_ediv_of_nonneg h4]; exact Int.ediv_nonneg h4 (by omega)
    · rw [Int.tdiv_eq_ediv_of_nonneg h4]; exact (Int.le_ediv_iff_mul_le hd0).2 h3
  · cases h
theorem vat_ex {n : Nat} {g v : List Int} (hd : defB n n g = true) (hv : v.length = n) (hvn : v.all numB = true) (hb : bilM n (mxL n g) (vecL v) (vecL v) ≤ 400000000) : vatO n n g v = some (bilM n (mxL n g) (vecL v) (vecL v)) := by
  obtain ⟨n', e, -, hn, hx, hnum, hsym, hpos, -⟩ := defB_pos hd
  obtain rfl : n = n' := by omega
  have hG : gramB n n g = true := by simp only [defB, Bool.and_eq_true] at hd; exact hd.2
  have hp0 := hpos.nonneg (vecL v)
  have h1 : isM 1 n v = true := by
    simp only [isM, Bool.and_eq_true, decide_eq_true_eq]
    exact ⟨⟨by omega, by omega, by omega, by omega, by omega⟩, hvn⟩
  have h1' : isM n 1 v = true := by
    simp only [isM, Bool.and_eq_true, decide_eq_true_eq]
    exact ⟨⟨by omega, by omega, by omega, by omega, by omega⟩, hvn⟩
  have h2 : isM n n g = true := by
    simp only [isM, Bool.and_eq_true, decide_eq_true_eq]
    exact ⟨⟨by omega, by omega, by omega, by omega, by rw [hx]; exact Int.natCast_mul n n⟩, hnum⟩
  have hpj : ∀ j, j < n → (mulM 1 n n v g).getD j 0 = bilM n (mxL n g) (vecL v) (unitV j) := fun j hj => by
    have := mulM_getD (r := 1) (n := n) (c := n) (i := 0) (j := j) (xs := v) (ys := g) (by omega) hj
    rw [Nat.zero_mul, Nat.zero_add] at this
    rw [this, bil_unit hj]
    exact sg_congr fun t _ => by rw [Nat.zero_add]; rfl
  have hpn : (mulM 1 n n v g).all numB = true := List.all_eq_true.2 fun z hz => by
    obtain ⟨j, hj, rfl⟩ := List.mem_iff_getElem.1 hz
    rw [← getD_in (d := 0) hj]
    rw [mulM_len, Nat.one_mul] at hj
    rw [hpj j hj]
    have h3 := cauchy hsym hpos (vecL v) (unitV j)
    have h4 : bilM n (mxL n g) (unitV j) (unitV j) ≤ 400000000 := by
      rw [bil_unit hj, sg_single hj fun k hk hne => by simp [unitV, hne]]
      have := num_getD hnum (j * n + j)
      show (if j = j then 1 else 0) * g.getD (j * n + j) 0 ≤ _
      rw [if_pos rfl, Int.one_mul]; exact this.2
    have h5 := hpos.nonneg (unitV j)
    have h6 : bilM n (mxL n g) (vecL v) (vecL v) * bilM n (mxL n g) (unitV j) (unitV j) ≤ 400000000 * 400000000 := Int.mul_le_mul hb h4 h5 (by decide)
    exact numB_true.2 (sq_le (by decide) (Int.le_trans h3 h6))
  have hq0 : (mulM 1 n 1 (mulM 1 n n v g) v).getD 0 0 = bilM n (mxL n g) (vecL v) (vecL v) := by
    have := mulM_getD (r := 1) (n := n) (c := 1) (i := 0) (j := 0) (xs := mulM 1 n n v g) (ys := v) (by omega) (by omega)
    rw [show 0 * 1 + 0 = 0 from rfl] at this
    rw [this, bilM_sym hsym, bilM_two, sg_swap]
    refine sg_congr fun t ht => ?_
    rw [Nat.zero_mul, Nat.zero_add, hpj t ht, bil_unit ht, Int.mul_comm, ← sg_mul]
    refine sg_congr fun k hk => ?_
    show v.getD (t * 1 + 0) 0 * (v.getD k 0 * mxL n g k t) = v.getD k 0 * mxL n g k t * v.getD t 0
    rw [Nat.mul_one, Nat.add_zero]; grind
  have hqn : (mulM 1 n 1 (mulM 1 n n v g) v).all numB = true := List.all_eq_true.2 fun z hz => by
    obtain ⟨j, hj, rfl⟩ := List.mem_iff_getElem.1 hz
    rw [← getD_in (d := 0) hj]
    rw [mulM_len] at hj
    obtain rfl : j = 0 := by omega
    rw [hq0]
    exact numB_true.2 ⟨by omega, hb⟩
  have hm1 := mulZ_yes (r := 1) (n := n) (c := n) (by simpa using h1) h2 hpn
  have h3 : isM 1 n (mulM 1 n n v g) = true := by
    simp only [isM, Bool.and_eq_true, decide_eq_true_eq]
    exact ⟨⟨by omega, by omega, by omega, by omega, by rw [mulM_len]; omega⟩, hpn⟩
  have hm2 := mulZ_yes (r := 1) (n := n) (c := 1) (by simpa using h3) (by simpa using h1') hqn
  unfold vatO
  rw [hG, Bool.true_and, if_pos (by rw [hv]; exact decide_eq_true rfl), hv]
  simp only [Int.natCast_one] at hm1 hm2
  rw [hm1, Option.bind_some, hm2, Option.map_some, hq0]
theorem shO_some {r c : Int} {g : List Int} {b : Int} {S : List (List Int)} (h : shO r c g b = some S) : ∃ (w : List Int) (L : List (List Int)), boxG r c g b = some w ∧ boxO (w.map fun x => -x) w = some L ∧ shV r c g b = some (putsV (baseS r c g b L)) ∧ S = (putsV (baseS r c g b L)).map Prod.fst := by
  unfold shO at h
  obtain ⟨P, hP, rfl⟩ := Option.map_eq_some_iff.1 h
  have hP' := hP
  unfold shV at hP
  obtain ⟨L, hL, rfl⟩ := Option.map_eq_some_iff.1 hP
  obtain ⟨w, h1, h2⟩ := Option.bind_eq_some_iff.1 hL
  exact ⟨w, L, h1, h2, hP', rfl⟩
theorem sh_iff {r c : Int} {g : List Int} {b : Int} {S : List (List Int)} (h : shO r c g b = some S) (v : List Int) : v ∈ S ↔ posF v = true ∧ ∃ z, vatO r c g v = some z ∧ 1 ≤ z ∧ z ≤ b := by
  obtain ⟨w, L, h1, h2, -, rfl⟩ := shO_some h
  obtain ⟨n, rfl, rfl, hn, hd, hb0, hb, hwl, hw0, hbox⟩ := boxG_some h1
  have hL : L = boxTo (w.map fun x => -x) w n := by
    unfold boxO at h2
    split at h2
    · cases h2; rw [List.length_map, hwl]
    · cases h2
  have hm : v ∈ (putsV (baseS n n g b L)).map Prod.fst ↔ v ∈ L ∧ conS n n g b v = true := by
    rw [List.mem_map]
    constructor
    · rintro ⟨x, hx, rfl⟩
      obtain ⟨u, hu, rfl⟩ := List.mem_map.1 (mem_puts.1 hx)
      exact List.mem_filter.1 hu
    · intro hv
      exact ⟨_, mem_puts.2 (List.mem_map.2 ⟨v, List.mem_filter.2 hv, rfl⟩), rfl⟩
  have hcon : conS n n g b v = true ↔ posF v = true ∧ ∃ z, vatO n n g v = some z ∧ 1 ≤ z ∧ z ≤ b := by
    unfold conS
    rw [Bool.and_eq_true]
    cases hvo : vatO n n g v with
    | none => simp
    | some z => simp
  rw [hm, hcon]
  refine ⟨fun h => h.2, fun h => ⟨?_, h⟩⟩
  obtain ⟨hp, z, hz, hz1, hzb⟩ := h
  obtain ⟨n', e, -, -, hvl, -, -, rfl⟩ := vatO_some hz
  obtain rfl : n = n' := by omega
  rw [hL]
  refine box_has hvl fun k hk => ?_
  have := hbox (vecL v) hzb k hk
  have e2 : (w.map fun x => -x).getD k 0 = -(w.getD k 0) := by
    rw [List.getD_eq_getElem?_getD, List.getD_eq_getElem?_getD, List.getElem?_map]
    cases w[k]? <;> rfl
  rw [e2]
  exact this
theorem sh_has {n : Nat} {g : List Int} {b : Int} {S : List (List Int)} (h : shO n n g b = some S) {v : List Int} (hv : v.length = n) (hp : posF v = true) (hb : bilM n (mxL n g) (vecL v) (vecL v) ≤ b) : v ∈ S := by
  obtain ⟨w, L, h1, h2, -, -⟩ := shO_some h
  obtain ⟨n', e, -, hn, hd, hb0, hb1, hwl, hw0, hbox⟩ := boxG_some h1
  obtain rfl : n = n' := by omega
  have hvn : v.all numB = true := all_num fun k hk => by
    have h3 := hbox (vecL v) hb k (by omega)
    have h4 := hw0 k
    have e2 : vecL v k = v.getD k 0 := rfl
    rw [e2] at h3; omega
  have hz := vat_ex hd hv hvn (by omega)
  exact (sh_iff h v).2 ⟨hp, _, hz, vat_pos hd hp hz, hb⟩
theorem boxO_nodup {lo hi : List Int} {L : List (List Int)} (h : boxO lo hi = some L) : L.Nodup := by
  unfold boxO at h
  split at h
  · cases h; exact box_nodup _
  · cases h
theorem baseS_nodup {r c : Int} {g : List Int} {b : Int} {L : List (List Int)} (h : L.Nodup) : (baseS r c g b L).Nodup := by
  refine List.pairwise_map.2 ((h.filter _).imp fun {x y} h e => h ?_)
  exact (Prod.ext_iff.1 e).1
end Go.Proofs.YtekpamojojfplaaGreat
namespace Go.Proofs.YtekpamojojfplaaGreat
def gdTo (g : List Int) (n : Nat) : Nat → Int
  | 0 => 0
  | k + 1 => max (gdTo g n k) (g.getD (k * n + k) 0)
theorem gdTo_bd {g : List Int} (hg : g.all numB = true) {n : Nat} : ∀ i, 0 ≤ gdTo g n i ∧ gdTo g n i ≤ 400000000
  | 0 => by show 0 ≤ (0 : Int) ∧ (0 : Int) ≤ _; omega
  | i + 1 => by
    have h1 := gdTo_bd hg (n := n) i
    have h2 := num_getD hg (i * n + i)
    show 0 ≤ max _ _ ∧ max _ _ ≤ _
    omega
theorem gdTo_le {g : List Int} {n : Nat} : ∀ {k i : Nat}, i < k → g.getD (i * n + i) 0 ≤ gdTo g n k
  | k + 1, i, h => by
    show _ ≤ max _ _
    by_cases e : i = k
    · subst e; omega
    · have := gdTo_le (g := g) (n := n) (show i < k by omega)
      omega
theorem sh_sm {n : Nat} {g : List Int} {b : Int} {S : List (List Int)} (h : shO n n g b = some S) {v : List Int} (hv : v ∈ S) : Sm n v := by
  obtain ⟨w, L, hB, hO, -, rfl⟩ := shO_some h
  obtain ⟨m, e1, -, -, -, -, -, hwl, hw0, -⟩ := boxG_some hB
  obtain rfl : m = n := by omega
  obtain ⟨x, hx, rfl⟩ := List.mem_map.1 hv
  rw [mem_puts, baseS] at hx
  obtain ⟨u, hu, rfl⟩ := List.mem_map.1 hx
  have h1 := box_sm (fun k => (hw0 k).1) hO u (List.mem_filter.1 hu).1
  refine ⟨by rw [h1.1, hwl], fun k => ?_⟩
  by_cases c : k < w.length
  · exact h1.2 k c
  · rw [List.getD_eq_getElem?_getD, List.getElem?_eq_none (show u.length ≤ k by omega)]; simp
theorem putsV_len (L : List (List Int × Int)) : (putsV L).length = L.length := by
  suffices h : ∀ (L M : List (List Int × Int)), (L.foldl putV M).length = M.length + L.length by have := h L []; rw [List.length_nil, Nat.zero_add] at this; exact this
  have hp : ∀ (L : List (List Int × Int)) x, (putV L x).length = L.length + 1 := fun L x => by
    induction L with
    | nil => rfl
    | cons y L ih => rw [putV]; split <;> simp [ih]
  intro L
  induction L with
  | nil => intro M; rfl
  | cons x L ih => intro M; rw [List.foldl_cons, ih, hp, List.length_cons]; omega
theorem sh_4000 {n : Nat} {g : List Int} {b : Int} {S : List (List Int)} (h : shO n n g b = some S) : S.length ≤ 4000 := by
  obtain ⟨w, L, hB, hO, -, rfl⟩ := shO_some h
  obtain ⟨m, e1, -, -, -, -, -, hwl, hw0, -⟩ := boxG_some hB
  have h1 := box_4000 (fun k _ => neg_wid (fun k => (hw0 k).1) k) hO
  rw [List.length_map, putsV_len, baseS, List.length_map]
  exact Nat.le_trans (List.length_filter_le _ _) h1
def allO (n : Nat) (g h : List Int) (most : Nat) : Option (List (List Int)) := (shO n n h (gdTo g n n)).map fun S => schN g h n most (poolI S) n [] 0
def isoO (r c : Int) (g : List Int) (r' c' : Int) (h : List Int) : Option (Option (Nat × List Int)) :=
  if (detB r c g).isSome && (detB r' c' h).isSome && defB r c g && defB r' c' h then
    if r ≠ r' ∨ (detB r c g).getD 0 ≠ (detB r' c' h).getD 0 then some none
    else (allO r.toNat g h 1).map fun L => L.head?.map fun x => (r.toNat, x)
  else none
def autO (r c : Int) (g : List Int) : Option (Nat × List (List Int)) :=
  if defB r c g then (allO r.toNat g g 201).bind fun L => if 200 < L.length then none else some (r.toNat, L) else none
end Go.Proofs.YtekpamojojfplaaGreat
namespace Go.Proofs.YtekpamojojfplaaGreat
theorem fold_mem {g h : List Int} {n : Nat} {rows : List (List Int)} {F : List Int → Nat → List (List Int)} {x : List Int} : ∀ {l acc : List (List Int)}, x ∈ l.foldl (fun acc y => if fitB g h n rows y then acc ++ F y acc.length else acc) acc → x ∈ acc ∨ ∃ y ∈ l, fitB g h n rows y = true ∧ ∃ k, x ∈ F y k
  | [], acc, hx => .inl hx
  | y :: l, acc, hx => by
    rw [List.foldl_cons] at hx
    rcases fold_mem hx with h1 | ⟨z, hz, hf, k, hk⟩
    · split at h1
      · rename_i hf
        rcases List.mem_append.1 h1 with e | e
        · exact .inl e
        · exact .inr ⟨y, by simp, hf, _, e⟩
      · exact .inl h1
    · exact .inr ⟨z, by simp [hz], hf, k, hk⟩
theorem sch_mem {g h : List Int} {n most : Nat} {pool : List (List Int)} : ∀ {d : Nat} {rows : List (List Int)} {k : Nat} {x : List Int}, x ∈ schN g h n most pool d rows k →
    ∃ rs : List (List Int), rs.length = d ∧ (∀ r ∈ rs, r ∈ pool) ∧ x = (rows ++ rs).flatten ∧ ∀ i, i < d → fitB g h n (rows ++ rs.take i) (rs.getD i []) = true
  | 0, rows, k, x, hx => by
    rw [schN] at hx
    split at hx
    · cases hx
    · rw [List.mem_singleton] at hx
      exact ⟨[], rfl, by simp, by simpa using hx, fun i hi => by omega⟩
  | d + 1, rows, k, x, hx => by
    rw [schN] at hx
    split at hx
    · cases hx
    · rcases fold_mem (F := fun y j => schN g h n most pool d (rows ++ [y]) (k + j)) hx with e | ⟨y, hy, hf, k', hk⟩
      · cases e
      · obtain ⟨rs, h1, h2, h3, h4⟩ := sch_mem hk
        refine ⟨y :: rs, by simp [h1], fun r hr => ?_, by rw [h3, List.append_assoc]; rfl, fun i hi => ?_⟩
        · rcases List.mem_cons.1 hr with rfl | e
          · exact hy
          · exact h2 r e
        · cases i with
          | zero => simpa using hf
          | succ i =>
            have := h4 i (by omega)
            rw [List.append_assoc] at this
            exact this
theorem flat_Sm {n : Nat} : ∀ {rs : List (List Int)}, (∀ r ∈ rs, Sm n r) → rs.flatten.length = rs.length * n
  | [], _ => by simp
  | r :: rs, h => by
    have ih := flat_Sm (rs := rs) fun x hx => h x (by simp [hx])
    have := (h r (by simp)).1
    rw [List.flatten_cons, List.length_append, ih, List.length_cons, Nat.succ_mul]; omega
theorem pool_Sm {n : Nat} {g : List Int} {b : Int} {S : List (List Int)} (hS : shO n n g b = some S) : ∀ r ∈ poolI S, Sm n r := fun r hm => by
  obtain ⟨v, hv, hx⟩ := List.mem_flatMap.1 hm
  have hs := sh_sm hS hv
  simp only [List.mem_cons, List.not_mem_nil, or_false] at hx
  rcases hx with e | e
  · rw [e]; exact hs
  · rw [e]; exact hs.neg
theorem all_mem {n : Nat} {g h : List Int} {most : Nat} {L : List (List Int)} (h1 : allO n g h most = some L) : ∀ x ∈ L, x.length = n * n := fun x hx => by
  obtain ⟨S, hS, rfl⟩ := Option.map_eq_some_iff.1 h1
  obtain ⟨rs, q1, q2, rfl, -⟩ := sch_mem hx
  rw [List.nil_append, flat_Sm fun r hr => pool_Sm hS r (q2 r hr), q1]
theorem iso_len {r c r' c' : Int} {g h x : List Int} {n : Nat} (hO : isoO r c g r' c' h = some (some (n, x))) : n ≤ 6 ∧ x.length = n * n := by
  unfold isoO at hO
  split at hO
  · rename_i hc
    rw [Bool.and_eq_true, Bool.and_eq_true, Bool.and_eq_true] at hc
    obtain ⟨m, rfl, rfl, hn, -⟩ := defB_all hc.1.2
    split at hO
    · cases hO
    · obtain ⟨L, hL, hx⟩ := Option.map_eq_some_iff.1 hO
      obtain ⟨y, hy, hyx⟩ := Option.map_eq_some_iff.1 hx
      cases hyx
      rw [Int.toNat_natCast] at hL ⊢
      exact ⟨hn, all_mem hL _ (List.mem_of_mem_head? hy)⟩
  · cases hO
theorem aut_len {r c : Int} {g : List Int} {n : Nat} {L : List (List Int)} (hO : autO r c g = some (n, L)) : n ≤ 6 ∧ L.length ≤ 200 ∧ ∀ x ∈ L, x.length = n * n := by
  unfold autO at hO
  split at hO
  · rename_i hc
    obtain ⟨m, rfl, rfl, hn, -⟩ := defB_all hc
    obtain ⟨L', hL, hx⟩ := Option.bind_eq_some_iff.1 hO
    split at hx
    · cases hx
    · cases hx
      rw [Int.toNat_natCast] at hL ⊢
      exact ⟨hn, by omega, all_mem hL⟩
  · cases hO
end Go.Proofs.YtekpamojojfplaaGreat
namespace Go.Proofs.YtekpamojojfplaaGreat
open Go.RowKit
theorem and255 (x : Int) : 0 ≤ bitV .and x 255 ∧ bitV .and x 255 ≤ 255 := by
  unfold bitV
  have h : (BitVec.ofInt 64 x &&& BitVec.ofInt 64 255).toNat ≤ 255 := by
    rw [BitVec.toNat_and]
    exact Nat.le_trans Nat.and_le_right (by decide)
  have e : bits .and .i64 x 255 = IntKind.i64.wrap ((BitVec.ofInt 64 x &&& BitVec.ofInt 64 255).toNat : Nat) := rfl
  rw [e, IntKind.wrap_i64]
  omega
def curL (c n i : Nat) (h : Int) : List SV := [.sl 1 1 0 n c, .int i, .int h]
def vC : AV := .one (.ptr 2 3 0 0)
def Drew (t : TypeId) (n c : Nat) (φ : Int → Prop) (v : AV) (Hout : List (Nat × Blk)) (n1 : Nat) : Prop :=
  ∃ (r : Int) (i : Nat) (h : Int), φ r ∧ v = vI r ∧ Hout = [(2, .own t 1 (.lit (curL c n i h)))] ∧ n1 = 3
theorem d_big (bs : List Int) (c : Nat) : Does Tryz.prog 9 [vS 1 1 0 bs.length c] [(1, .ro (.bytes bs))] 2 (Ret (vB (decide (1048576 < (bs.length : Int)))) 2) := by
 refine Does.intro TT Tryz.func9 rfl (by kernel_rfl) Zz Zz fun E hE => ?_
 (repeat' (first | refine stx ?_ | (refine stq ?_ ?_ <;> (intro hc; ((try simp at hc) <;> try contradiction))) | fail))
 refine fin_ret rfl w_3 (rfl) rfl
def NewC (t : TypeId) (n c : Nat) (v : AV) (Hout : List (Nat × Blk)) (n1 : Nat) : Prop :=
  ∃ (i : Nat) (h : Int), v = vC ∧ Hout = [(2, .own t 1 (.lit (curL c n i h)))] ∧ n1 = 3
set_option maxHeartbeats 1000000 in
theorem d_l1New (bs : List Int) (c : Nat) (hl : bs.length ≤ 1048576) : Does Tryz.prog 74 [vS 1 1 0 bs.length c] [(1, .ro (.bytes bs))] 2 (NewC 112 bs.length c) := by
 refine Does.intro TT Tryz.func74 rfl (by kernel_rfl) Zz Zz fun E hE => ?_
 (repeat' (first | refine stx ?_ | (refine stq ?_ ?_ <;> (intro hc; ((try simp at hc) <;> try contradiction))) | fail))
 refine w_G hE (fun p : Int × Int => 0 ≤ p.1 ∧ p.1 ≤ bs.length) (fun p => bs.length - p.1.toNat)
  (fun p => [(0, vS 1 1 0 bs.length c), (3, vI p.2), (4, vI p.1)]) (fun _ => [(1, .ro (.bytes bs))]) 2 [] (0, 10101 + bs.length) ⟨Int.le_refl _, by dsimp only; omega⟩ ⟨w_1, w_2, rfl⟩ ?_
 rintro ⟨i, h⟩ ⟨h0, h1⟩
 dsimp only at h0 h1 ⊢
 ((repeat' (first | refine stx ?_ | (first | refine awpL_wrap Zz Zz Zz Zz ?_ | refine awpQ_wrap Zz Zz Zz Zz ?_) | (refine stq ?_ ?_ <;> (intro hc; ((try simp at hc) <;> try contradiction))) | fail)) <;> try (exfalso; omega))
 ·exact ⟨[], (i + 1, _), ⟨by dsimp only; omega, by dsimp only; omega⟩, w_4, ⟨⟨rfl, rfl, rfl, trivial⟩, ⟨rfl, trivial⟩, rfl⟩⟩
 all_goals exact fin rfl w_3 [(2, 2)] vC [(2, .own 112 1 (.lit (curL c bs.length 0 h)))] 3 ⟨0, h, rfl, rfl, rfl⟩ rfl ⟨trivial, ⟨rfl, trivial⟩, rfl⟩ rfl
set_option maxHeartbeats 1000000 in
theorem d_l1Byte (bs : List Int) (c i : Nat) (h : Int) (hl : bs.length ≤ 1048576) : Does Tryz.prog 163 [vC] [(1, .ro (.bytes bs)), (2, .own 112 1 (.lit (curL c bs.length i h)))] 3 (Drew 112 bs.length c fun r => 0 ≤ r ∧ r ≤ 255) := by
 refine Does.intro TT Tryz.func163 rfl (by kernel_rfl) Zz Zz fun E hE => ?_
 ((repeat' (first | refine stx ?_ | (first | refine awpL_wrap Zz Zz Zz Zz ?_ | refine awpQ_wrap Zz Zz Zz Zz ?_) | (refine stq ?_ ?_ <;> (intro hc; ((try simp at hc) <;> try contradiction))) | fail)) <;> try (exfalso; omega))
 ·exact fin rfl w_3 [] (vI _) [(2, .own 112 1 (.lit (curL c bs.length (i + 1) _)))] 3 ⟨_, _, _, and255 _, rfl, rfl, rfl⟩ rfl ⟨trivial, ⟨rfl, trivial⟩, rfl⟩ rfl
 ·exact fin rfl w_3 [] (vI _) [(2, .own 112 1 (.lit (curL c bs.length i _)))] 3 ⟨_, _, _, and255 _, rfl, rfl, rfl⟩ rfl ⟨trivial, ⟨rfl, trivial⟩, rfl⟩ rfl
theorem tmod_in' {x n : Int} (h : 0 ≤ x) : 0 ≤ x.tmod n ∧ (0 < n → x.tmod n < n) := by
  refine ⟨Int.tmod_nonneg n h, fun hn => ?_⟩
  rw [Int.tmod_eq_emod_of_nonneg h]
  exact Int.emod_lt_of_pos x hn
set_option maxHeartbeats 1000000 in
theorem d_l1Below (bs : List Int) (c i : Nat) (h : Int) (n : Int) (hl : bs.length ≤ 1048576) : Does Tryz.prog 124 [vC, vI n] [(1, .ro (.bytes bs)), (2, .own 112 1 (.lit (curL c bs.length i h)))] 3 (Drew 112 bs.length c fun r => 0 ≤ r ∧ (0 < n → r < n)) := by
 refine Does.intro TT Tryz.func124 rfl (by kernel_rfl) Zz Zz fun E hE => ?_
 ((repeat' (first | refine stx ?_ | ((refine zqe (d_l1Byte bs c _ _ hl) ?_); rintro v Hout n1 ⟨r, i', h', hr, rfl, rfl, rfl⟩) | (refine stq ?_ ?_ <;> (intro hc; ((try simp at hc) <;> try contradiction))) | fail)) <;> try (exfalso; omega))
 ·exact fin rfl w_3 [] (vI 0) [(2, .own 112 1 (.lit (curL c bs.length i h)))] 3 ⟨_, _, _, ⟨by omega, by omega⟩, rfl, rfl, rfl⟩ rfl ⟨trivial, ⟨rfl, trivial⟩, rfl⟩ rfl
 all_goals exact fin rfl w_3 [] (vI _) [(2, .own 112 1 (.lit (curL c bs.length _ _)))] 3 ⟨_, _, _, tmod_in' (by omega), rfl, rfl, rfl⟩ rfl ⟨trivial, ⟨rfl, trivial⟩, rfl⟩ rfl
def DrewB (t : TypeId) (n c : Nat) (v : AV) (Hout : List (Nat × Blk)) (n1 : Nat) : Prop :=
  ∃ (b : Bool) (i : Nat) (h : Int), v = vB b ∧ Hout = [(2, .own t 1 (.lit (curL c n i h)))] ∧ n1 = 3
theorem d_l1Once (bs : List Int) (c i : Nat) (h : Int) (n : Int) (hl : bs.length ≤ 1048576) : Does Tryz.prog 84 [vC, vI n] [(1, .ro (.bytes bs)), (2, .own 112 1 (.lit (curL c bs.length i h)))] 3 (DrewB 112 bs.length c) := by
 refine Does.intro TT Tryz.func84 rfl (by kernel_rfl) Zz Zz fun E hE => ?_
 ((repeat' (first | refine stx ?_ | ((refine zqe (d_l1Below bs c _ _ n hl) ?_); rintro v Hout n1 ⟨r, i', h', hr, rfl, rfl, rfl⟩) | (refine stq ?_ ?_ <;> (intro hc; ((try simp at hc) <;> try contradiction))) | fail)) <;> try (exfalso; omega))
 exact fin rfl w_3 [] (vB _) [(2, .own 112 1 (.lit (curL c bs.length _ _)))] 3 ⟨_, _, _, rfl, rfl, rfl⟩ rfl ⟨trivial, ⟨rfl, trivial⟩, rfl⟩ rfl
theorem d_l1PickInt (bs : List Int) (c i : Nat) (h : Int) (xs : List Int) (n cx : Nat) (hn : n = xs.length) (h0 : 0 < n) (hl : bs.length ≤ 1048576) : Does Tryz.prog 171 [vC, vS 3 1 0 n cx] [(1, .ro (.bytes bs)), (2, .own 112 1 (.lit (curL c bs.length i h))), (3, .ro (.ints xs))] 4 (fun v Hout n1 => ∃ (r : Int) (i : Nat) (h : Int), r ∈ xs ∧ v = vI r ∧ Hout = [(2, .own 112 1 (.lit (curL c bs.length i h)))] ∧ n1 = 4) := by
 refine Does.intro TT Tryz.func171 rfl (by kernel_rfl) Zz Zz fun E hE => ?_
 ((repeat' (first | refine stx ?_ | ((refine zqe (d_l1Below bs c _ _ n hl) ?_); rintro v Hout n1 ⟨r, i', h', ⟨hr1, hr2⟩, rfl, rfl, rfl⟩; replace hr2 := hr2 (by omega)) | (refine stq ?_ ?_ <;> (intro hc; ((try simp at hc) <;> try contradiction))) | fail)) <;> try (exfalso; omega))
 have hlt : 0 + r.toNat < xs.length := by omega
 exact fin rfl w_3 [] (vI _) [(2, .own 112 1 (.lit (curL c bs.length _ _)))] 4 ⟨_, _, _, (by rw [List.getD_eq_getElem?_getD, List.getElem?_eq_getElem hlt]; exact List.getElem_mem hlt), rfl, rfl, rfl⟩ rfl ⟨trivial, ⟨rfl, trivial⟩, rfl⟩ rfl
theorem d_l1Odd (bs : List Int) (c i : Nat) (h : Int) (hl : bs.length ≤ 1048576) : Does Tryz.prog 164 [vC] [(1, .ro (.bytes bs)), (2, .own 112 1 (.lit (curL c bs.length i h)))] 3 (Drew 112 bs.length c fun r => -9223372036854775808 ≤ r ∧ r ≤ 9223372036854775807) := by
 refine Does.intro TT Tryz.func164 rfl (by kernel_rfl) Zz Zz fun E hE => ?_
 ((repeat' (first | refine stx ?_ | ((refine w_E (d_l1PickInt bs c _ _ [0, 1, -1, 2, 400000000, -400000000, 400000001, -400000001, 399999999, 9223372036854775807, -9223372036854775808] 11 _ rfl (by omega) hl) Zz Zz Zz Zz Zz Zz Zz ft rfl ?_); rintro v Hout n1 ⟨r, i', h', hr, rfl, rfl, rfl⟩) | (refine stq ?_ ?_ <;> (intro hc; ((try simp at hc) <;> try contradiction))) | fail)) <;> try (exfalso; omega))
 exact fin rfl w_3 [] (vI _) [(2, .own 112 1 (.lit (curL c bs.length _ _)))] 3 ⟨_, _, _, (by simp at hr; omega), rfl, rfl, rfl⟩ rfl ⟨trivial, ⟨rfl, trivial⟩, rfl⟩ rfl
end Go.Proofs.YtekpamojojfplaaGreat
namespace Go.Proofs.YtekpamojojfplaaGreat
open Go.RowKit
theorem d_l1Num (bs : List Int) (c i : Nat) (h : Int) (m : Int) (hm : 0 ≤ m ∧ m ≤ 1000) (hl : bs.length ≤ 1048576) : Does Tryz.prog 125 [vC, vI m] [(1, .ro (.bytes bs)), (2, .own 112 1 (.lit (curL c bs.length i h)))] 3 (Drew 112 bs.length c fun r => -9223372036854775808 ≤ r ∧ r ≤ 9223372036854775807) := by
 refine Does.intro TT Tryz.func125 rfl (by kernel_rfl) Zz Zz fun E hE => ?_
 ((repeat' (first | refine stp ?_ | ((refine zqe (d_l1Once bs c _ _ 40 hl) ?_); rintro v Hout n1 ⟨b0, i0, h0, rfl, rfl, rfl⟩; cases b0) | ((refine zqe (d_l1Odd bs c _ _ hl) ?_); rintro v Hout n1 ⟨r1, i1, h1, hr1, rfl, rfl, rfl⟩) | ((refine zqe (d_l1Below bs c _ _ _ hl) ?_); rintro v Hout n1 ⟨r2, i2, h2, ⟨hr2, hr3⟩, rfl, rfl, rfl⟩; replace hr3 := hr3 (by omega)) | (refine stq ?_ ?_ <;> (intro hc; ((try simp at hc) <;> try contradiction))) | fail)) <;> try (exfalso; omega))
 all_goals exact fin rfl w_3 [] (vI _) [(2, .own 112 1 (.lit (curL c bs.length _ _)))] 3 ⟨_, _, _, (by first | assumption | omega), rfl, rfl, rfl⟩ rfl ⟨trivial, ⟨rfl, trivial⟩, rfl⟩ rfl
def DrewM (t tc : TypeId) (nb c : Nat) (k : Int) (v : AV) (Hout : List (Nat × Blk)) (n1 : Nat) : Prop :=
  ∃ (r : Int) (zs : List Int) (cap i : Nat) (h : Int), zs.length ≤ 1000 ∧ zs.length ≤ cap ∧ v = .agg [.int r, .int k, .sl 3 1 0 zs.length cap] ∧ Hout = [(2, .own tc 1 (.lit (curL c nb i h))), (3, .own t cap (.ints zs))] ∧ n1 = 4
def SpoilM (t tc : TypeId) (nb c : Nat) (k : Int) (v : AV) (Hout : List (Nat × Blk)) (n1 : Nat) : Prop :=
  ∃ (r : Int) (zs : List Int) (cap i : Nat) (h : Int), zs.length ≤ 1000 ∧ zs.length ≤ cap ∧ ((v = .agg [.int r, .int k, .sl 3 1 0 zs.length cap] ∧ Hout = [(2, .own tc 1 (.lit (curL c nb i h))), (3, .own t cap (.ints zs))] ∧ n1 = 4) ∨ (v = .agg [.int r, .int k, .sl 4 1 0 zs.length cap] ∧ Hout = [(2, .own tc 1 (.lit (curL c nb i h))), (4, .own t cap (.ints zs))] ∧ n1 = 5))
set_option maxHeartbeats 4000000 in
theorem d_l3Spoil (bs : List Int) (c i cap n : Nat) (h r k : Int) (xs : List Int) (hn : n = xs.length) (hr : 0 ≤ r ∧ r ≤ 1000) (hx : xs.length ≤ 900) (hcap : xs.length ≤ cap) (hl : bs.length ≤ 1048576) : Does Tryz.prog 132 [vC, vM r k 3 n cap] [(1, .ro (.bytes bs)), (2, .own 112 1 (.lit (curL c bs.length i h))), (3, .own 3 cap (.ints xs))] 4 (SpoilM 3 112 bs.length c k) := by
 subst hn
 refine Does.intro TT Tryz.func132 rfl (by kernel_rfl) Zz Zz fun E hE => ?_
 ((repeat' (first | refine stp ?_ | ((refine zqe (d_l1Below bs c _ _ 40 hl) ?_); rintro v Hout n1 ⟨r0, i0, h0, ⟨hr1, hr2⟩, rfl, rfl, rfl⟩; replace hr2 := hr2 (by omega)) | (refine stq ?_ ?_ <;> (intro hc; ((try simp at hc) <;> try contradiction))) | fail)) <;> try (exfalso; omega))
 ·subst hc
  ((repeat' (first | refine stp ?_ | ((refine w_E (d_l1PickInt bs c _ _ [-1, 0, 7, r + 1] 4 4 rfl (by decide) hl) Zz Zz Zz Zz Zz Zz Zz ft rfl ?_); rintro v Hout n1 ⟨r1, i1, h1, hm1, rfl, rfl, rfl⟩) | (refine stq ?_ ?_ <;> (intro hc; ((try simp at hc) <;> try contradiction))) | fail)) <;> try (exfalso; omega))
  all_goals exact fin rfl w_3 [] (.agg [.int r1, .int k, .sl 3 1 0 xs.length cap]) [(2, .own 112 1 (.lit (curL c bs.length i1 h1))), (3, .own 3 cap (.ints xs))] 4 ⟨r1, xs, cap, i1, h1, by omega, hcap, .inl ⟨rfl, rfl, rfl⟩⟩ rfl ⟨trivial, ⟨rfl, rfl, trivial⟩, rfl⟩ rfl
 ·refine awp_held TM [(4, _)] sb rfl (fun ρs => ?_)
  refine zt0 ?_
  refine zt1 ?_
  refine zt2 ?_
  refine w_u [3] kr rfl ⟨?_, trivial⟩
  first | (refine zho ?_) | (refine zqf (d_l1Odd bs c _ _ hl) ?_; rintro v Hout n1 ⟨r2, i2, h2, hr2', rfl, rfl, rfl⟩; refine ⟨sb, ?_⟩)
  refine zt4 ?_
  refine w_u [5] kr rfl ⟨?_, trivial⟩
  first | (refine zho ?_) | (refine zqf (d_l1Odd bs c _ _ hl) ?_; rintro v Hout n1 ⟨r2, i2, h2, hr2', rfl, rfl, rfl⟩; refine ⟨sb, ?_⟩)
  refine w_v kr ?_
  rotate_left
  all_goals ((repeat' (first | refine stp ?_ | (refine stq ?_ ?_ <;> (intro hc; ((try simp at hc) <;> try contradiction))) | fail)) <;> try (exfalso; omega))
  all_goals exact fin rfl w_3 [] (.agg [.int r, .int k, .sl 3 1 0 xs.length cap]) [(2, .own 112 1 (.lit (curL c bs.length i2 h2))), (3, .own 3 cap (.ints (xs.set (0 + Int.toNat 0) r2)))] 4 ⟨r, xs.set (0 + Int.toNat 0) r2, cap, i2, h2, by rw [List.length_set]; omega, by rw [List.length_set]; omega, .inl ⟨by rw [List.length_set], rfl, rfl⟩⟩ rfl ⟨trivial, ⟨rfl, rfl, trivial⟩, rfl⟩ rfl
 ·exact fin rfl w_3 [] (.agg [.int r, .int k, .sl 3 1 0 xs.length cap]) [(2, .own 112 1 (.lit (curL c bs.length i0 h0))), (3, .own 3 cap (.ints xs))] 4 ⟨r, xs, cap, i0, h0, by omega, hcap, .inl ⟨rfl, rfl, rfl⟩⟩ rfl ⟨trivial, ⟨rfl, rfl, trivial⟩, rfl⟩ rfl
 ·obtain ⟨cap0, hcap0⟩ : ∃ z, z = cap := ⟨_, rfl⟩
  ((repeat' (first | refine stp ?_ | (refine zqx ?_; intro cap hcap) | (refine stq ?_ ?_ <;> (intro hc; ((try simp at hc) <;> try contradiction))) | fail)) <;> try (exfalso; omega))
  all_goals rename_i cap1 _
  all_goals exact fin rfl w_3 [(4, 7)] (.agg [.int r, .int k, .sl 4 1 0 (xs.length + 1) cap]) [(2, .own 112 1 (.lit (curL c bs.length i0 h0))), (4, .own 3 cap (.ints (xs ++ [1])))] 5 ⟨r, xs ++ [1], cap, i0, h0, by simp; omega, by simp; omega, .inr ⟨by simp, rfl, rfl⟩⟩ rfl ⟨trivial, ⟨rfl, own_ints (by simp), trivial⟩, rfl⟩ rfl
 ·exact fin rfl w_3 [] (.agg [.int r, .int k, .sl 3 1 0 xs.length cap]) [(2, .own 112 1 (.lit (curL c bs.length i0 h0))), (3, .own 3 cap (.ints xs))] 4 ⟨r, xs, cap, i0, h0, by omega, hcap, .inl ⟨rfl, rfl, rfl⟩⟩ rfl ⟨trivial, ⟨rfl, rfl, trivial⟩, rfl⟩ rfl
def DrewAdd (t : TypeId) (v : AV) (Hout : List (Nat × Blk)) (n1 : Nat) : Prop :=
  ∃ (k : Nat) (r : Int) (zs bs cs : List Int) (cap cb cc : Nat), k ≤ 3 ∧ zs.length ≤ 1000 ∧ bs.length = k ∧ cs.length = k ∧ zs.length ≤ cap ∧ bs.length ≤ cb ∧ cs.length ≤ cc ∧ (∀ p, -9223372036854775808 ≤ bs.getD p 0 ∧ bs.getD p 0 ≤ 9223372036854775807) ∧ (∀ p, -9223372036854775808 ≤ cs.getD p 0 ∧ cs.getD p 0 ≤ 9223372036854775807) ∧ v = .tup [.agg [.int r, .int k, .sl 2 1 0 zs.length cap], .one (.sl 3 1 0 bs.length cb), .one (.sl 4 1 0 cs.length cc)] ∧ Hout = [(2, .own t cap (.ints zs)), (3, .own t cb (.ints bs)), (4, .own t cc (.ints cs))] ∧ n1 = 5
end Go.Proofs.YtekpamojojfplaaGreat
