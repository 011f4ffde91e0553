/-
  PLAIN: what is found is an isometry; those of a form with itself are a group that equivalent forms share; equivalent forms have one.
-/
import Derived.Test.YtekpamojojfplaaGreatDpIsG
set_option linter.unusedVariables false
set_option linter.unusedSimpArgs false
namespace Go.Proofs.YtekpamojojfplaaGreat

theorem num_of {a : Int} (h : -400000000 ≤ a ∧ a ≤ 400000000) : numB a = true := numB_true.2 h
theorem detTo_ex {xs : List Int} {d : Nat → Option Int} : ∀ {m : Nat}, (∀ j, j < m → ∃ v, d j = some v) → ∃ s, detTo xs d m = some s
  | 0, _ => ⟨0, rfl⟩
  | m + 1, h => by
    obtain ⟨s, hs⟩ := detTo_ex (xs := xs) (m := m) fun j hj => h j (by omega)
    obtain ⟨v, hv⟩ := h m (by omega)
    rw [detTo, hs]
    dsimp only
    split
    · exact ⟨_, rfl⟩
    · rw [hv]; exact ⟨_, rfl⟩
theorem minor_F {n j : Nat} {xs : List Int} {v : Int} (hj : j < n + 1) (h : detZ n (minM xs (n + 1) 0 j (n + 1)) = some v) : v = detF n (minF (mxL (n + 1) xs) 0 j) := by
  rw [detZ_F h]
  exact detF_congr fun a b ha hb => by
    show (minM xs (n + 1) 0 j (n + 1)).getD (a * n + b) 0 = xs.getD (skp 0 a * (n + 1) + skp j b) 0
    exact minM_at hj (skp_lt ha) hb
theorem detZ_ok {n : Nat} {xs : List Int} (hd : ∀ j, j < n + 1 → ∃ v, detZ n (minM xs (n + 1) 0 j (n + 1)) = some v) (hf : numB (detF (n + 1) (mxL (n + 1) xs)) = true) : detZ (n + 1) xs = some (detF (n + 1) (mxL (n + 1) xs)) := by
  obtain ⟨s, hs⟩ := detTo_ex (xs := xs) hd
  have h1 := detTo_sg (f := fun j => detF n (minF (mxL (n + 1) xs) 0 j)) hs fun j hj v hv => minor_F hj hv
  have h2 : s = detF (n + 1) (mxL (n + 1) xs) := by
    rw [h1, detF]
    exact sg_congr fun j hj => by
      show _ = sgnN j * xs.getD (0 * (n + 1) + j) 0 * _
      rw [Nat.zero_mul, Nat.zero_add]
  rw [detZ, hs, h2]
  unfold fitO
  dsimp only
  rw [if_pos hf]
theorem minRow_bd {xs : List Int} {B : Int} (h : ∀ p, -B ≤ xs.getD p 0 ∧ xs.getD p 0 ≤ B) {off col : Nat} : ∀ {j : Nat}, ∀ v ∈ minRow xs off col j, -B ≤ v ∧ v ≤ B
  | 0, v, hv => by simp [minRow] at hv
  | j + 1, v, hv => by
    unfold minRow at hv
    split at hv
    · exact minRow_bd h v hv
    · rcases List.mem_append.1 hv with e | e
      · exact minRow_bd h v e
      · rw [List.mem_singleton.1 e]; exact h _
theorem minM_bd {xs : List Int} {B : Int} (h : ∀ p, -B ≤ xs.getD p 0 ∧ xs.getD p 0 ≤ B) {c row col : Nat} : ∀ {i : Nat}, ∀ v ∈ minM xs c row col i, -B ≤ v ∧ v ≤ B
  | 0, v, hv => by simp [minM] at hv
  | i + 1, v, hv => by
    unfold minM at hv
    split at hv
    · exact minM_bd h v hv
    · rcases List.mem_append.1 hv with e | e
      · exact minM_bd h v e
      · exact minRow_bd h v e
theorem minM_bdD {xs : List Int} {B : Int} (hB : 0 ≤ B) (h : ∀ p, -B ≤ xs.getD p 0 ∧ xs.getD p 0 ≤ B) {c row col i : Nat} (p : Nat) : -B ≤ (minM xs c row col i).getD p 0 ∧ (minM xs c row col i).getD p 0 ≤ B := by
  by_cases c' : p < (minM xs c row col i).length
  · rw [getD_in c']; exact minM_bd h _ (List.getElem_mem _)
  · rw [List.getD_eq_getElem?_getD, List.getElem?_eq_none (by omega)]; simp; omega
/-- determinants of small cells are found, up to three rows -/
theorem detZ_sm {n : Nat} (hn : n ≤ 3) {xs : List Int} (hb : ∀ p, -2000 ≤ xs.getD p 0 ∧ xs.getD p 0 ≤ 2000) (hf : numB (detF n (mxL n xs)) = true) : detZ n xs = some (detF n (mxL n xs)) := by
  have h1 : ∀ {ys : List Int}, (∀ p, -2000 ≤ ys.getD p 0 ∧ ys.getD p 0 ≤ 2000) → detZ 1 ys = some (detF 1 (mxL 1 ys)) := fun {ys} hy => by
    refine detZ_ok (fun j _ => ⟨1, rfl⟩) (num_of ?_)
    rw [det1]
    have := hy (0 * 1 + 0)
    show -400000000 ≤ ys.getD (0 * 1 + 0) 0 ∧ _
    exact ⟨by omega, by show ys.getD (0 * 1 + 0) 0 ≤ _; omega⟩
  have h2 : ∀ {ys : List Int}, (∀ p, -2000 ≤ ys.getD p 0 ∧ ys.getD p 0 ≤ 2000) → detZ 2 ys = some (detF 2 (mxL 2 ys)) := fun {ys} hy => by
    refine detZ_ok (fun j _ => ⟨_, h1 (minM_bdD (by decide) hy)⟩) (num_of ?_)
    rw [det2]
    have a1 := mulB_bd (hy (0 * 2 + 0)) (hy (1 * 2 + 1))
    have a2 := mulB_bd (hy (0 * 2 + 1)) (hy (1 * 2 + 0))
    show -400000000 ≤ ys.getD (0 * 2 + 0) 0 * ys.getD (1 * 2 + 1) 0 - ys.getD (0 * 2 + 1) 0 * ys.getD (1 * 2 + 0) 0 ∧ ys.getD (0 * 2 + 0) 0 * ys.getD (1 * 2 + 1) 0 - ys.getD (0 * 2 + 1) 0 * ys.getD (1 * 2 + 0) 0 ≤ 400000000
    omega
  match n, hn with
  | 0, _ => rfl
  | 1, _ => exact h1 hb
  | 2, _ => exact h2 hb
  | 3, _ => exact detZ_ok (fun j _ => ⟨_, h2 (minM_bdD (by decide) hb)⟩) hf
theorem detB_F {n : Nat} {xs : List Int} {v : Int} (h : detB n n xs = some v) : v = detF n (mxL n xs) := by
  unfold detB at h
  split at h
  · rw [Int.toNat_natCast] at h; exact detZ_F h
  · cases h
theorem isM_sq {n : Nat} {xs : List Int} (hn : n ≤ 6) (hx : xs.length = n * n) (hnum : xs.all numB = true) : isM n n xs = true := by
  simp only [isM, Bool.and_eq_true, decide_eq_true_eq]
  exact ⟨⟨by omega, by omega, by omega, by omega, by rw [hx]; exact Int.natCast_mul n n⟩, hnum⟩
theorem sqB_sq {n : Nat} {xs : List Int} (hn : n ≤ 6) (hx : xs.length = n * n) (hnum : xs.all numB = true) : sqB n n xs = true := by
  rw [sqB, isM_sq hn hx hnum, Bool.true_and]
  exact decide_eq_true ⟨rfl, by omega⟩
theorem ext_sq {n : Nat} {xs ys : List Int} (hx : xs.length = n * n) (hy : ys.length = n * n) (h : ∀ i j, i < n → j < n → xs.getD (i * n + j) 0 = ys.getD (i * n + j) 0) : xs = ys := by
  apply List.ext_getElem (by omega)
  intro p h1 h2
  have hp : p < n * n := by omega
  have hn : 0 < n := by
    rcases Nat.eq_zero_or_pos n with e | e
    · subst e; omega
    · exact e
  have := h (p / n) (p % n) (Nat.div_lt_of_lt_mul hp) (Nat.mod_lt _ hn)
  rw [Nat.mul_comm, Nat.div_add_mod] at this
  rwa [getD_in h1, getD_in h2] at this
theorem num_sq {n : Nat} {xs : List Int} (hx : xs.length = n * n) (h : ∀ i j, i < n → j < n → -400000000 ≤ xs.getD (i * n + j) 0 ∧ xs.getD (i * n + j) 0 ≤ 400000000) : xs.all numB = true := all_num fun p hp => by
  have hn : 0 < n := by
    rcases Nat.eq_zero_or_pos n with e | e
    · subst e; omega
    · exact e
  have := h (p / n) (p % n) (Nat.div_lt_of_lt_mul (by omega)) (Nat.mod_lt _ hn)
  rwa [Nat.mul_comm, Nat.div_add_mod] at this
theorem mulM_F {n : Nat} {xs ys : List Int} {i j : Nat} (hi : i < n) (hj : j < n) : mxL n (mulM n n n xs ys) i j = mulF n (mxL n xs) (mxL n ys) i j := mulM_getD hi hj
/-- u h times the turned u -/
theorem chg_F {n : Nat} {u h : List Int} {i k : Nat} (hi : i < n) (hk : k < n) : (mulM n n n (mulM n n n u h) (turnM u n n)).getD (i * n + k) 0 = bilM n (mxL n h) (mxL n u i) (mxL n u k) := by
  rw [mulM_getD hi hk, bilM_two, sg_swap]
  refine sg_congr fun t ht => ?_
  rw [mulM_getD hi ht, turnM_at (P := u) hk ht, Int.mul_comm, ← sg_mul]
  refine sg_congr fun s hs => ?_
  show u.getD (k * n + t) 0 * (u.getD (i * n + s) 0 * h.getD (s * n + t) 0) = u.getD (i * n + s) 0 * h.getD (s * n + t) 0 * u.getD (k * n + t) 0
  grind
theorem unit_sq {n : Nat} (hn : n ≤ 3) {G H U : Mx} (h : IsoP n G H U) (he : detF n G = detF n H) (hp : 0 < detF n H) : detF n U * detF n U = 1 := by
  have h1 := h.det hn
  rw [he] at h1
  have h2 : detF n H * (detF n U * detF n U - 1) = 0 := by grind
  rcases Int.mul_eq_zero.1 h2 with e | e <;> omega
theorem sq_one {a : Int} (h : a * a = 1) : a = 1 ∨ a = -1 := by
  have h2 : (a - 1) * (a + 1) = 0 := by grind
  rcases Int.mul_eq_zero.1 h2 with e | e
  · left; omega
  · right; omega
theorem def_detF {n : Nat} {g : List Int} (h : defB n n g = true) : ∃ d, detB n n g = some d ∧ d = detF n (mxL n g) ∧ 0 < detF n (mxL n g) := by
  obtain ⟨d, h1, h2⟩ := defB_det h
  have := detB_F h1
  exact ⟨d, h1, this, by omega⟩
theorem def_dpos {n : Nat} {g : List Int} (h : defB n n g = true) : 0 < detF n (mxL n g) := by
  obtain ⟨d, -, -, h1⟩ := def_detF h
  exact h1
theorem isoB_yes {n : Nat} (hn : n ≤ 3) {g h x : List Int} (hg : defB n n g = true) (hh : defB n n h = true) (hd : ∀ i, i < n → g.getD (i * n + i) 0 ≤ 10000) (he : detF n (mxL n g) = detF n (mxL n h)) (hx : x.length = n * n) (hi : IsoP n (mxL n g) (mxL n h) (mxL n x)) (hb : ∀ p, -2000 ≤ x.getD p 0 ∧ x.getD p 0 ≤ 2000) : isoB n n g n n h n n x = true := by
  obtain ⟨n', e, -, -, hgl, hgn, hsg, hpg, -⟩ := defB_pos hg
  obtain rfl : n = n' := by omega
  obtain ⟨n', e, -, -, hhl, hhn, hsh, hph, -⟩ := defB_pos hh
  obtain rfl : n = n' := by omega
  have hG : gramB n n h = true := by simp only [defB, Bool.and_eq_true] at hh; exact hh.2
  have hxn : x.all numB = true := all_num fun k _ => by have := hb k; omega
  have hmx := isM_sq (by omega) hx hxn
  have hmh := isM_sq (by omega) hhl hhn
  have hpn : (mulM n n n x h).all numB = true := num_sq mulM_len fun i j hi' hj => by
    have e1 : (mulM n n n x h).getD (i * n + j) 0 = bilM n (mxL n h) (mxL n x i) (unitV j) := by
      rw [mulM_getD hi' hj, bil_unit hj]; rfl
    rw [e1]
    have h3 := cauchy hsh hph (mxL n x i) (unitV j)
    have h4 : bilM n (mxL n h) (unitV j) (unitV j) ≤ 400000000 := by
      rw [bil_unit hj, sg_single hj fun k hk hne => by simp [unitV, hne]]
      have := num_getD hhn (j * n + j)
      show (if j = j then 1 else 0) * h.getD (j * n + j) 0 ≤ _
      rw [if_pos rfl, Int.one_mul]; exact this.2
    have h5 := hph.nonneg (unitV j)
    have h6 : bilM n (mxL n h) (mxL n x i) (mxL n x i) ≤ 400000000 := by
      rw [hi i i hi' hi']
      have := hd i hi'
      show g.getD (i * n + i) 0 ≤ _
      omega
    have h7 := hph.nonneg (mxL n x i)
    exact sq_le (by decide) (Int.le_trans h3 (Int.mul_le_mul h6 h4 h5 (by decide)))
  have hmp := isM_sq (n := n) (by omega) mulM_len hpn
  have hqg : mulM n n n (mulM n n n x h) (turnM x n n) = g := ext_sq mulM_len hgl fun i k hi' hk => by
    rw [chg_F hi' hk, hi i k hi' hk]; rfl
  have hm1 := mulZ_yes hmx hmh hpn
  have hm2 := mulZ_yes hmp (isM_turn hmx) (by rw [hqg]; exact hgn)
  have hz : chgZ n n h n n x = some g := by
    unfold chgZ
    rw [hG]; dsimp only
    rw [hm1]; dsimp only
    rw [Int.toNat_natCast, hm2, hqg]
  have hdet : detB n n x = some (detF n (mxL n x)) := by
    have h1 := sq_one (unit_sq hn hi he (def_dpos hh))
    rw [detB, if_pos (sqB_sq (by omega) hx hxn), Int.toNat_natCast]
    exact detZ_sm hn hb (num_of (by omega))
  unfold isoB
  rw [hz]; dsimp only
  rw [Bool.and_eq_true]
  refine ⟨decide_eq_true ⟨rfl, rfl, rfl⟩, ?_⟩
  unfold unimB
  rw [hdet]
  exact decide_eq_true (sq_one (unit_sq hn hi he (def_dpos hh)))
theorem sq_ten {n m : Nat} (h : m = n * n) (hm : m ≤ 10) : n ≤ 3 := by
  rcases Nat.lt_or_ge n 4 with c | c
  · omega
  · have := Nat.mul_le_mul c c; omega
theorem all_diag {n most : Nat} {g h : List Int} {L : List (List Int)} (h1 : allO n g h most = some L) : ∀ i, i < n → g.getD (i * n + i) 0 ≤ 10000 := fun i hi => by
  obtain ⟨S, hS, rfl⟩ := Option.map_eq_some_iff.1 h1
  obtain ⟨w, L', hB, -, -, -⟩ := shO_some hS
  obtain ⟨n', e, -, -, -, -, h2, -⟩ := boxG_some hB
  exact Int.le_trans (gdTo_le hi) h2
theorem isoO_some {r c r' c' : Int} {g h x : List Int} {n : Nat} (hO : isoO r c g r' c' h = some (some (n, x))) : r = n ∧ c = n ∧ r' = n ∧ c' = n ∧ defB n n g = true ∧ defB n n h = true ∧ g.length = n * n ∧ h.length = n * n ∧ detF n (mxL n g) = detF n (mxL n h) ∧ ∃ L, allO n g h 1 = some L ∧ x ∈ L := by
  unfold isoO at hO
  split at hO
  · rename_i hc
    rw [Bool.and_eq_true, Bool.and_eq_true, Bool.and_eq_true] at hc
    obtain ⟨m, rfl, rfl, hm, hgl, -⟩ := defB_all hc.1.2
    obtain ⟨m', rfl, rfl, hm', hhl, -⟩ := defB_all hc.2
    split at hO
    · cases hO
    · rename_i hne
      obtain rfl : m = m' := by omega
      obtain ⟨L, hL, hx⟩ := Option.map_eq_some_iff.1 hO
      obtain ⟨y, hy, hyx⟩ := Option.map_eq_some_iff.1 hx
      cases hyx
      rw [Int.toNat_natCast] at *
      obtain ⟨d1, e1, e2, -⟩ := def_detF hc.1.2
      obtain ⟨d2, e3, e4, -⟩ := def_detF hc.2
      rw [e1, e3] at hne
      simp only [Option.getD_some] at hne
      exact ⟨rfl, rfl, rfl, rfl, hc.1.2, hc.2, hgl, hhl, by omega, L, hL, List.mem_of_mem_head? hy⟩
  · cases hO
theorem autO_some {r c : Int} {g : List Int} {n : Nat} {L : List (List Int)} (hO : autO r c g = some (n, L)) : r = n ∧ c = n ∧ defB n n g = true ∧ g.length = n * n ∧ allO n g g 201 = some L ∧ L.length < 201 := by
  unfold autO at hO
  split at hO
  · rename_i hc
    obtain ⟨m, rfl, rfl, -, hgl, -⟩ := defB_all hc
    obtain ⟨L', hL, hx⟩ := Option.bind_eq_some_iff.1 hO
    split at hx
    · cases hx
    · cases hx
      rw [Int.toNat_natCast] at *
      exact ⟨rfl, rfl, hc, hgl, hL, by omega⟩
  · cases hO
/-- an isometry that is found is one -/
theorem iso_good {r c r' c' : Int} {g h x : List Int} {n : Nat} (h3 : g.length ≤ 10) (hO : isoO r c g r' c' h = some (some (n, x))) : isoB r c g r' c' h n n x = true := by
  obtain ⟨rfl, rfl, rfl, rfl, hg, hh, hgl, hhl, he, L, hL, hx⟩ := isoO_some hO
  obtain ⟨h1, h2, hb⟩ := all_sound hg hL hx
  exact isoB_yes (sq_ten hgl h3) hg hh (all_diag hL) he h1 h2 hb
theorem aut_good {r c : Int} {g x : List Int} {n : Nat} {L : List (List Int)} (h3 : g.length ≤ 10) (hO : autO r c g = some (n, L)) (hx : x ∈ L) : isoB r c g r c g n n x = true := by
  obtain ⟨rfl, rfl, hg, hgl, hL, -⟩ := autO_some hO
  obtain ⟨h1, h2, hb⟩ := all_sound hg hL hx
  exact isoB_yes (sq_ten hgl h3) hg hg (all_diag hL) rfl h1 h2 hb
theorem aut_prod {r c : Int} {g x y p : List Int} {n : Nat} {L : List (List Int)} (hO : autO r c g = some (n, L)) (hx : x ∈ L) (hy : y ∈ L) (hp : mulZ n n n n x y = some p) : p ∈ L := by
  obtain ⟨rfl, rfl, hg, hgl, hL, hl⟩ := autO_some hO
  obtain ⟨x1, x2, -⟩ := all_sound hg hL hx
  obtain ⟨y1, y2, -⟩ := all_sound hg hL hy
  have e := mulZ_eq hp
  simp only [Int.toNat_natCast] at e
  refine all_has hg hL hl (by rw [e]; exact mulM_len) ?_
  refine (y2.mul x2).congr (fun _ _ _ _ => rfl) (fun _ _ _ _ => rfl) fun i j hi hj => ?_
  rw [e]; exact (mulM_F hi hj).symm
theorem nodup_leI {α : Type} [DecidableEq α] : ∀ {l m : List α}, l.Nodup → (∀ x ∈ l, x ∈ m) → l.length ≤ m.length
  | [], _, _, _ => Nat.zero_le _
  | x :: l, m, h, hs => by
    have hx : x ∈ m := hs x (List.mem_cons_self ..)
    have h1 := List.nodup_cons.1 h
    have := nodup_leI (l := l) (m := m.erase x) h1.2 fun y hy => by
      have hne : y ≠ x := fun e => h1.1 (e ▸ hy)
      exact (List.mem_erase_of_ne hne).2 (hs y (List.mem_cons_of_mem _ hy))
    have e := List.length_erase_of_mem hx
    have : 0 < m.length := List.length_pos_of_mem hx
    simp only [List.length_cons]; omega
theorem map_le {A B : List (List Int)} {f : List Int → List Int} (hA : A.Nodup) (hf : ∀ x ∈ A, f x ∈ B) (hi : ∀ x ∈ A, ∀ y ∈ A, f x = f y → x = y) : A.length ≤ B.length := by
  have e : (A.map f).length = A.length := by simp
  rw [← e]
  refine nodup_leI (List.pairwise_map.2 (hA.imp_of_mem fun {x y} hx hy hne e => hne (hi x hx y hy e))) fun z hz => ?_
  obtain ⟨x, hx, rfl⟩ := List.mem_map.1 hz
  exact hf x hx
def toL (n : Nat) (M : Mx) : List Int := (List.range (n * n)).map fun p => M (p / n) (p % n)
theorem toL_len {n : Nat} {M : Mx} : (toL n M).length = n * n := by simp [toL]
theorem toL_at {n : Nat} {M : Mx} {i j : Nat} (hi : i < n) (hj : j < n) : mxL n (toL n M) i j = M i j := by
  show (toL n M).getD (i * n + j) 0 = M i j
  rw [getD_in (by rw [toL_len]; exact cell_lt hi hj)]
  unfold toL
  rw [List.getElem_map, List.getElem_range]
  have e1 : (i * n + j) / n = i := by
    rw [Nat.mul_comm, Nat.mul_add_div (by omega), Nat.div_eq_of_lt hj, Nat.add_zero]
  have e2 : (i * n + j) % n = j := by
    rw [Nat.mul_comm, Nat.mul_add_mod, Nat.mod_eq_of_lt hj]
  rw [e1, e2]
/-- equivalent forms have as many isometries with themselves: one side -/
theorem aut_le {n : Nat} {g h : List Int} {A B : List (List Int)} {U V : Mx} (hg : defB n n g = true) (hh : defB n n h = true) (hA : allO n g g 201 = some A) (hB : allO n h h 201 = some B) (hBl : B.length < 201)
    (hU : IsoP n (mxL n g) (mxL n h) U) (hV : IsoP n (mxL n h) (mxL n g) V) (hUV : ∀ i j, i < n → j < n → mulF n U V i j = idF i j) (hVU : ∀ i j, i < n → j < n → mulF n V U i j = idF i j) : A.length ≤ B.length := by
  refine map_le (f := fun x => toL n (mulF n V (mulF n (mxL n x) U))) (all_nodup hA) (fun x hx => ?_) fun x hx y hy he => ?_
  · obtain ⟨x1, x2, -⟩ := all_sound hg hA hx
    refine all_has hh hB hBl toL_len ?_
    exact ((hU.mul x2).mul hV).congr (fun _ _ _ _ => rfl) (fun _ _ _ _ => rfl) fun i j hi hj => (toL_at hi hj).symm
  · obtain ⟨x1, -, -⟩ := all_sound hg hA hx
    obtain ⟨y1, -, -⟩ := all_sound hg hA hy
    have h1 : ∀ i j, i < n → j < n → mulF n V (mulF n (mxL n x) U) i j = mulF n V (mulF n (mxL n y) U) i j := fun i j hi hj => by
      rw [← toL_at (M := mulF n V (mulF n (mxL n x) U)) hi hj, ← toL_at (M := mulF n V (mulF n (mxL n y) U)) hi hj]
      exact congrArg (fun z => mxL n z i j) he
    have back : ∀ (z : List Int) (i j : Nat), i < n → j < n → mulF n U (mulF n (mulF n V (mulF n (mxL n z) U)) V) i j = mxL n z i j := fun z i j hi hj => by
      have e1 : ∀ t, t < n → mulF n (mulF n V (mulF n (mxL n z) U)) V t j = mulF n V (mxL n z) t j := fun t ht => by
        rw [mulF_assoc]
        refine mulF_congr (fun _ _ => rfl) fun s hs => ?_
        rw [mulF_assoc, mulF_congr (A' := mxL n z) (B' := idF) (fun _ _ => rfl) (fun a ha => hUV a j ha hj), mulF_idR hj]
      rw [mulF_congr (A' := U) (B' := mulF n V (mxL n z)) (fun _ _ => rfl) e1, ← mulF_assoc, mulF_congr (A' := idF) (B' := mxL n z) (fun a ha => hUV i a hi ha) (fun _ _ => rfl), mulF_idL hi]
    refine ext_sq x1 y1 fun i j hi hj => ?_
    show mxL n x i j = mxL n y i j
    rw [← back x i j hi hj, ← back y i j hi hj]
    exact mulF_congr (fun _ _ => rfl) fun t ht => mulF_congr (fun s hs => h1 t s ht hs) fun _ _ => rfl
theorem aut_same {r c r' c' : Int} {g h x : List Int} {k n m : Nat} {A B : List (List Int)} (h3 : g.length ≤ 10) (hO : isoO r c g r' c' h = some (some (k, x))) (hA : autO r c g = some (n, A)) (hB : autO r' c' h = some (m, B)) : A.length = B.length := by
  obtain ⟨rfl, rfl, rfl, rfl, hg, hh, hgl, hhl, he, L, hL, hx⟩ := isoO_some hO
  obtain ⟨e1, -, -, -, hLA, hlA⟩ := autO_some hA
  obtain ⟨e2, -, -, -, hLB, hlB⟩ := autO_some hB
  obtain rfl : k = n := by omega
  obtain rfl : k = m := by omega
  obtain ⟨h1, h2, -⟩ := all_sound hg hL hx
  have hk := sq_ten hgl h3
  obtain ⟨V, hUV, hVU⟩ := inv_ex hk (unit_sq hk h2 he (def_dpos hh))
  have hV := h2.inv hVU
  exact Nat.le_antisymm (aut_le hg hh hLA hLB hlB h2 hV hUV hVU) (aut_le hh hg hLB hLA hlA hV h2 hVU hUV)
/-- a form in another basis has an isometry with the form itself -/
theorem mix_there {r c : Int} {g u k : List Int} {n : Nat} (h3 : g.length ≤ 10) (hg : defB r c g = true) (hu : u.length = n * n) (hd : n ≤ 3 → detF n (mxL n u) = 1) (hk : chgZ r c g n n u = some k) : isoO n n k r c g ≠ some none := fun hO => by
  obtain ⟨m, rfl, rfl, -, hgl, -⟩ := defB_all hg
  have hz := hk
  unfold chgZ at hz
  split at hz
  · split at hz
    · rename_i p hp
      obtain rfl : n = m := by have := (mulZ_some hp).2.2.1; omega
      have hn := sq_ten hgl h3
      have ep := mulZ_eq hp
      have eq := mulZ_eq hz
      simp only [Int.toNat_natCast] at ep eq
      rw [ep] at eq
      have hi : IsoP n (mxL n k) (mxL n g) (mxL n u) := fun i j hi hj => by
        rw [← chg_F hi hj, ← eq]; rfl
      have hdet := hi.det hn
      rw [hd hn, Int.one_mul, Int.mul_one] at hdet
      unfold isoO at hO
      split at hO
      · rename_i hc
        rw [Bool.and_eq_true, Bool.and_eq_true, Bool.and_eq_true] at hc
        obtain ⟨d1, e1, e2, -⟩ := def_detF hc.1.2
        obtain ⟨d2, e3, e4, -⟩ := def_detF hc.2
        rw [e1, e3] at hO
        simp only [Option.getD_some] at hO
        rw [if_neg (by omega), Int.toNat_natCast] at hO
        obtain ⟨L, hL, hx⟩ := Option.map_eq_some_iff.1 hO
        cases L with
        | nil =>
          have := all_has hc.1.2 hL (by simp) hu hi
          cases this
        | cons y L => cases hx
      · cases hO
    · cases hz
  · cases hz
end Go.Proofs.YtekpamojojfplaaGreat
