/-
  PLAIN: the search for isometries finds each of them once.
-/
import Derived.Test.YtekpamojojfplaaGreatDpIsF
import Derived.Test.YtekpamojojfplaaGreatD20
set_option linter.unusedVariables false
set_option linter.unusedSimpArgs false
namespace Go.Proofs.YtekpamojojfplaaGreat

theorem fold_sub {P : List Int → Bool} {F : List Int → Nat → List (List Int)} : ∀ (l acc : List (List Int)), ∃ t, l.foldl (fun acc y => if P y then acc ++ F y acc.length else acc) acc = acc ++ t
  | [], acc => ⟨[], by simp⟩
  | y :: l, acc => by
    rw [List.foldl_cons]
    split
    · obtain ⟨t, e⟩ := fold_sub (P := P) (F := F) l (acc ++ F y acc.length)
      exact ⟨F y acc.length ++ t, by rw [e, List.append_assoc]⟩
    · exact fold_sub l acc
theorem fold_has {P : List Int → Bool} {F : List Int → Nat → List (List Int)} {y : List Int} (hP : P y = true) : ∀ {l acc : List (List Int)}, y ∈ l → ∃ j, j + (F y j).length ≤ (l.foldl (fun acc y => if P y then acc ++ F y acc.length else acc) acc).length ∧ ∀ x ∈ F y j, x ∈ l.foldl (fun acc y => if P y then acc ++ F y acc.length else acc) acc
  | z :: l, acc, hy => by
    rw [List.foldl_cons]
    by_cases e : z = y
    · subst e
      rw [if_pos hP]
      obtain ⟨t, e⟩ := fold_sub (P := P) (F := F) l (acc ++ F z acc.length)
      rw [e]
      exact ⟨acc.length, by rw [List.length_append, List.length_append]; omega, fun x hx => List.mem_append_left _ (List.mem_append_right _ hx)⟩
    · rcases List.mem_cons.1 hy with h | h
      · exact absurd h.symm e
      · exact fold_has hP h
theorem sch_all {g h : List Int} {n most : Nat} {pool : List (List Int)} : ∀ {d : Nat} {rows : List (List Int)} {k : Nat} {rs : List (List Int)}, rs.length = d → (∀ r ∈ rs, r ∈ pool) → (∀ i, i < d → fitB g h n (rows ++ rs.take i) (rs.getD i []) = true) → k + (schN g h n most pool d rows k).length < most → (rows ++ rs).flatten ∈ schN g h n most pool d rows k
  | 0, rows, k, rs, hr, _, _, hl => by
    obtain rfl := List.eq_nil_of_length_eq_zero hr
    rw [schN, if_neg (by omega)]; simp
  | d + 1, rows, k, [], hr, _, _, _ => by simp at hr
  | d + 1, rows, k, y :: rs, hr, hp, hf, hl => by
    rw [schN, if_neg (by omega)] at hl ⊢
    have h0 : fitB g h n rows y = true := by simpa using hf 0 (by omega)
    obtain ⟨j, h1, h2⟩ := fold_has (P := fitB g h n rows) (F := fun y j => schN g h n most pool d (rows ++ [y]) (k + j)) h0 (l := pool) (acc := []) (hp y (by simp))
    refine h2 _ ?_
    rw [show rows ++ y :: rs = (rows ++ [y]) ++ rs by simp]
    refine sch_all (by simpa using hr) (fun r hm => hp r (by simp [hm])) (fun i hi => ?_) ?_
    · have := hf (i + 1) (by omega)
      simpa using this
    · have h3 : j + (schN g h n most pool d (rows ++ [y]) (k + j)).length ≤ _ := h1
      omega
theorem fold_nodup {P : List Int → Bool} {F : List Int → Nat → List (List Int)} {tag : List Int → List Int} : ∀ {l acc : List (List Int)}, (∀ y ∈ l, ∀ j, (F y j).Nodup) → (∀ y ∈ l, ∀ j, ∀ x ∈ F y j, tag x = y) → l.Nodup → acc.Nodup → (∀ x ∈ acc, tag x ∉ l) → (l.foldl (fun acc y => if P y then acc ++ F y acc.length else acc) acc).Nodup
  | [], acc, _, _, _, ha, _ => ha
  | z :: l, acc, hF, ht, hl, ha, hn => by
    have hl2 := List.nodup_cons.1 hl
    rw [List.foldl_cons]
    refine fold_nodup (fun y hy => hF y (by simp [hy])) (fun y hy => ht y (by simp [hy])) hl2.2 ?_ ?_
    · split
      · refine List.nodup_append.2 ⟨ha, hF z (by simp) _, fun a h1 b h2 e => ?_⟩
        subst e
        have := ht z (by simp) _ a h2
        exact hn a h1 (by rw [this]; simp)
      · exact ha
    · intro x hx
      split at hx
      · rcases List.mem_append.1 hx with h | h
        · exact fun e => hn x h (by simp [e])
        · rw [ht z (by simp) _ x h]; exact hl2.1
      · exact fun e => hn x hx (by simp [e])
theorem flat_lenI {n : Nat} : ∀ {rs : List (List Int)}, (∀ r ∈ rs, r.length = n) → rs.flatten.length = rs.length * n
  | [], _ => by simp
  | r :: rs, h => by
    have ih := flat_lenI (rs := rs) fun x hx => h x (by simp [hx])
    have := h r (by simp)
    rw [List.flatten_cons, List.length_append, ih, List.length_cons, Nat.succ_mul]; omega
theorem flat_at {n : Nat} : ∀ {rs : List (List Int)} {i j : Nat}, (∀ r ∈ rs, r.length = n) → i < rs.length → j < n → rs.flatten.getD (i * n + j) 0 = (rs.getD i []).getD j 0
  | [], i, j, _, hi, _ => by simp at hi
  | r :: rs, i, j, h, hi, hj => by
    have hr := h r (by simp)
    rw [List.flatten_cons]
    cases i with
    | zero =>
      rw [Nat.zero_mul, Nat.zero_add, getD_app (by omega)]; rfl
    | succ i =>
      rw [Nat.succ_mul, getD_apR (by omega), show i * n + n + j - r.length = i * n + j by omega, flat_at (fun x hx => h x (by simp [hx])) (by simpa using hi) hj]; rfl
theorem sch_nodup {g h : List Int} {n most : Nat} {pool : List (List Int)} (hn : pool.Nodup) (hp : ∀ r ∈ pool, r.length = n) : ∀ {d : Nat} {rows : List (List Int)} {k : Nat}, (∀ r ∈ rows, r.length = n) → (schN g h n most pool d rows k).Nodup
  | 0, rows, k, _ => by
    rw [schN]; split <;> simp
  | d + 1, rows, k, hr => by
    rw [schN]
    split
    · exact List.nodup_nil
    · refine fold_nodup (P := fitB g h n rows) (F := fun y j => schN g h n most pool d (rows ++ [y]) (k + j)) (tag := fun x => (x.drop (rows.length * n)).take n) (fun y hy j => sch_nodup hn hp fun r hm => ?_) (fun y hy j x hx => ?_) hn List.nodup_nil (by simp)
      · rcases List.mem_append.1 hm with e | e
        · exact hr r e
        · rw [List.mem_singleton.1 e]; exact hp y hy
      · obtain ⟨rs, -, -, rfl, -⟩ := sch_mem hx
        show ((((rows ++ [y]) ++ rs).flatten).drop (rows.length * n)).take n = y
        rw [List.flatten_append, List.flatten_append, List.append_assoc, List.drop_append, ← flat_lenI hr, List.drop_length, Nat.sub_self, List.drop_zero, List.nil_append]
        rw [show [y].flatten = y by simp, ← hp y hy, List.take_left]
theorem posF_not : ∀ {v : List Int}, posF v = true → posF (v.map fun x => -x) = false
  | [], h => by cases h
  | x :: t, h => by
    unfold posF at h
    rw [List.map_cons, posF]
    split at h
    · rename_i e
      rw [if_pos (by omega)]; exact posF_not h
    · rename_i e
      have := of_decide_eq_true h
      rw [if_neg (by omega)]; exact decide_eq_false (by omega)
theorem neg_neg_map (v : List Int) : ((v.map fun x => -x).map fun x => -x) = v := by
  rw [List.map_map]
  induction v with
  | nil => rfl
  | cons x v ih => rw [List.map_cons, ih]; simp
theorem mem_pool {S : List (List Int)} {v : List Int} : v ∈ poolI S ↔ v ∈ S ∨ (v.map fun x => -x) ∈ S := by
  unfold poolI
  rw [List.mem_flatMap]
  constructor
  · rintro ⟨w, hw, h⟩
    simp only [List.mem_cons, List.not_mem_nil, or_false] at h
    rcases h with rfl | rfl
    · exact .inl hw
    · rw [neg_neg_map]; exact .inr hw
  · rintro (h | h)
    · exact ⟨v, h, by simp⟩
    · exact ⟨_, h, by rw [neg_neg_map]; simp⟩
theorem pool_nodup : ∀ {S : List (List Int)}, S.Nodup → (∀ v ∈ S, posF v = true) → (poolI S).Nodup
  | [], _, _ => by simp [poolI]
  | v :: S, hS, hp => by
    have h1 := List.nodup_cons.1 hS
    have ih := pool_nodup h1.2 fun w hw => hp w (by simp [hw])
    have hv := hp v (by simp)
    have hnv := posF_not hv
    have e : poolI (v :: S) = v :: (v.map fun x => -x) :: poolI S := rfl
    rw [e, List.nodup_cons, List.nodup_cons]
    refine ⟨fun h => ?_, fun h => ?_, ih⟩
    · rcases List.mem_cons.1 h with h | h
      · rw [← h, hv] at hnv; cases hnv
      · rcases mem_pool.1 h with h | h
        · exact h1.1 h
        · rw [hp _ (List.mem_cons_of_mem _ h)] at hnv; cases hnv
    · rcases mem_pool.1 h with h | h
      · rw [hp _ (List.mem_cons_of_mem _ h)] at hnv; cases hnv
      · rw [neg_neg_map] at h; exact h1.1 h
theorem sh_nodup {r c : Int} {g : List Int} {b : Int} {S : List (List Int)} (h : shO r c g b = some S) : S.Nodup := by
  obtain ⟨w', L, h1, h2, h3, rfl⟩ := shO_some h
  have hst := puts_strict (baseS_nodup (r := r) (c := c) (g := g) (b := b) (boxO_nodup h2))
  have hmem : ∀ p ∈ putsV (baseS r c g b L), p.2 = (vatO r c g p.1).getD 0 := fun p hp => by
    obtain ⟨r, hr, rfl⟩ := List.mem_map.1 (mem_puts.1 hp)
    rfl
  have hst' : (putsV (baseS r c g b L)).Pairwise fun x y => cmpV x y < 0 := hst
  refine List.pairwise_map.2 (hst'.imp_of_mem fun {x y} hx hy hlt e => ?_)
  have : x = y := Prod.ext e (by rw [hmem x hx, hmem y hy, e])
  rw [this, cmpV_self] at hlt; omega
/-- a matrix cut into its rows -/
def chkL (n : Nat) : Nat → List Int → List (List Int)
  | 0, _ => []
  | m + 1, x => x.take n :: chkL n m (x.drop n)
theorem chkL_len {n : Nat} : ∀ {m : Nat} {x : List Int}, (chkL n m x).length = m
  | 0, _ => rfl
  | m + 1, x => by rw [chkL, List.length_cons, chkL_len]
theorem chkL_flat {n : Nat} : ∀ {m : Nat} {x : List Int}, x.length = m * n → (chkL n m x).flatten = x
  | 0, x, h => by
    obtain rfl := List.eq_nil_of_length_eq_zero (by simpa using h)
    rfl
  | m + 1, x, h => by
    rw [chkL, List.flatten_cons, chkL_flat (by rw [List.length_drop, h, Nat.succ_mul]; omega), List.take_append_drop]
theorem chkL_all {n : Nat} : ∀ {m : Nat} {x : List Int}, x.length = m * n → ∀ r ∈ chkL n m x, r.length = n
  | 0, _, _, r, hr => by cases hr
  | m + 1, x, h, r, hr => by
    rw [Nat.succ_mul] at h
    rcases List.mem_cons.1 hr with rfl | hr
    · rw [List.length_take]; omega
    · exact chkL_all (x := x.drop n) (by rw [List.length_drop]; omega) r hr
theorem chkL_at {n m i j : Nat} {x : List Int} (h : x.length = m * n) (hi : i < m) (hj : j < n) : ((chkL n m x).getD i []).getD j 0 = x.getD (i * n + j) 0 := by
  rw [← flat_at (chkL_all h) (by rw [chkL_len]; exact hi) hj, chkL_flat h]
theorem all_sound {n most : Nat} {g h : List Int} {L : List (List Int)} (hg : defB n n g = true) (h1 : allO n g h most = some L) {x : List Int} (hx : x ∈ L) : x.length = n * n ∧ IsoP n (mxL n g) (mxL n h) (mxL n x) ∧ ∀ p, -2000 ≤ x.getD p 0 ∧ x.getD p 0 ≤ 2000 := by
  obtain ⟨S, hS, rfl⟩ := Option.map_eq_some_iff.1 h1
  obtain ⟨w, L', hB, -, -, -⟩ := shO_some hS
  obtain ⟨n', e, -, -, hdh, -⟩ := boxG_some hB
  obtain rfl : n = n' := by omega
  obtain ⟨n', e, -, -, -, -, hsh, -, -⟩ := defB_pos hdh
  obtain rfl : n = n' := by omega
  obtain ⟨n', e, -, -, -, -, hsg, -, -⟩ := defB_pos hg
  obtain rfl : n = n' := by omega
  obtain ⟨rs, q1, q2, q3, q4⟩ := sch_mem hx
  rw [List.nil_append] at q3
  have hall : ∀ r ∈ rs, r.length = n := fun r hr => (pool_Sm hS r (q2 r hr)).1
  have hlen : x.length = n * n := by rw [q3, flat_lenI hall, q1]
  have hat : ∀ i j, i < n → j < n → mxL n x i j = (rs.getD i []).getD j 0 := fun i j hi hj => by
    rw [← flat_at hall (by omega) hj, ← q3]; rfl
  have key : ∀ i k, i < n → k ≤ i → bilM n (mxL n h) (mxL n x i) (mxL n x k) = mxL n g i k := fun i k hi hk => by
    have hf := q4 i hi
    rw [List.nil_append] at hf
    have hl : (rs.take i).length = i := by rw [List.length_take]; omega
    unfold fitB at hf
    rw [Bool.and_eq_true, decide_eq_true_eq, decide_eq_true_eq, hl] at hf
    have e : bilM n (mxL n h) (mxL n x i) (mxL n x k) = prodH h n (rs.getD i []) (rs.getD k []) := by
      rw [prodH_bil]
      exact bilM_congr (fun _ _ _ _ => rfl) (fun j hj => hat i j hi hj) fun j hj => hat k j (by omega) hj
    rw [e]
    rcases Nat.lt_or_ge k i with c | c
    · have := hf.1 k c
      rw [List.getD_eq_getElem?_getD (l := rs.take i), List.getElem?_take, if_pos c, ← List.getD_eq_getElem?_getD] at this
      exact this
    · obtain rfl : k = i := by omega
      exact hf.2
  refine ⟨hlen, fun i k hi hk => ?_, fun p => ?_⟩
  · rcases Nat.le_total k i with c | c
    · exact key i k hi c
    · rw [bilM_sym hsh, key k i hk c, hsg k i hk hi]
  · by_cases c : p < n * n
    · have hn : 0 < n := by
        rcases Nat.eq_zero_or_pos n with e | e
        · subst e; omega
        · exact e
      have h2 := hat (p / n) (p % n) (Nat.div_lt_of_lt_mul c) (Nat.mod_lt _ hn)
      have e2 : mxL n x (p / n) (p % n) = x.getD p 0 := by
        show x.getD (p / n * n + p % n) 0 = _
        rw [Nat.mul_comm, Nat.div_add_mod]
      rw [← e2, h2]
      have hd : p / n < rs.length := by rw [q1]; exact Nat.div_lt_of_lt_mul c
      rw [getD_in hd]
      exact (pool_Sm hS _ (q2 _ (List.getElem_mem _))).2 _
    · rw [List.getD_eq_getElem?_getD, List.getElem?_eq_none (by omega)]; simp
theorem all_nodup {n most : Nat} {g h : List Int} {L : List (List Int)} (h1 : allO n g h most = some L) : L.Nodup := by
  obtain ⟨S, hS, rfl⟩ := Option.map_eq_some_iff.1 h1
  exact sch_nodup (pool_nodup (sh_nodup hS) fun v hv => ((sh_iff hS v).1 hv).1) (fun r hr => (pool_Sm hS r hr).1) (by simp)
theorem all_has {n most : Nat} {g h : List Int} {L : List (List Int)} (hg : defB n n g = true) (h1 : allO n g h most = some L) (hl : L.length < most) {x : List Int} (hx : x.length = n * n) (hi : IsoP n (mxL n g) (mxL n h) (mxL n x)) : x ∈ L := by
  obtain ⟨S, hS, rfl⟩ := Option.map_eq_some_iff.1 h1
  obtain ⟨n', e, -, -, -, -, -, hpg, -⟩ := defB_pos hg
  obtain rfl : n = n' := by omega
  have hbil : ∀ i k, i < n → k < n → prodH h n ((chkL n n x).getD i []) ((chkL n n x).getD k []) = g.getD (i * n + k) 0 := fun i k hi' hk => by
    rw [prodH_bil]
    rw [show g.getD (i * n + k) 0 = mxL n g i k from rfl, ← hi i k hi' hk]
    exact bilM_congr (fun _ _ _ _ => rfl) (fun j hj => chkL_at hx hi' hj) fun j hj => chkL_at hx hk hj
  have hrow : ∀ r ∈ chkL n n x, r ∈ poolI S := fun r hr => by
    obtain ⟨i, hil, rfl⟩ := List.mem_iff_getElem.1 hr
    have hin : i < n := by rwa [chkL_len] at hil
    rw [← getD_in (d := []) hil]
    have hlen : ((chkL n n x).getD i []).length = n := by rw [getD_in hil]; exact chkL_all hx _ (List.getElem_mem _)
    have hval := hbil i i hin hin
    have hpos : 0 < mxL n g i i := by
      rw [← bil_idF hin hin (H := mxL n g)]
      exact hpg _ ⟨i, hin, by show (if i = i then (1 : Int) else 0) ≠ 0; rw [if_pos rfl]; decide⟩
    have hle : mxL n g i i ≤ gdTo g n n := gdTo_le hin
    generalize (chkL n n x).getD i [] = r at *
    rw [prodH_bil] at hval
    have hne : ∃ k, r.getD k 0 ≠ 0 := by
      by_cases c : ∃ k, r.getD k 0 ≠ 0
      · exact c
      · have : bilM n (mxL n h) (vecL r) (vecL r) = 0 := bilM_zero fun k _ => by
          by_cases c2 : r.getD k 0 = 0
          · exact c2
          · exact absurd ⟨k, c2⟩ c
        have h0 : mxL n g i i = 0 := by rw [← this, hval]; rfl
        omega
    have hb : bilM n (mxL n h) (vecL r) (vecL r) ≤ gdTo g n n := by
      rw [hval]; exact hle
    refine mem_pool.2 ?_
    rcases posF_neg hne with c | c
    · exact .inl (sh_has hS hlen c hb)
    · refine .inr (sh_has hS (by rw [List.length_map]; exact hlen) c ?_)
      have e : bilM n (mxL n h) (vecL (r.map fun x => -x)) (vecL (r.map fun x => -x)) = bilM n (mxL n h) (vecL r) (vecL r) := by
        rw [bilM_two, bilM_two]
        have en : ∀ k, vecL (r.map fun x => -x) k = - vecL r k := fun k => by
          show (r.map fun x => -x).getD k 0 = - r.getD k 0
          rw [List.getD_eq_getElem?_getD, List.getD_eq_getElem?_getD, List.getElem?_map]
          cases r[k]? <;> rfl
        exact sg_congr fun a _ => sg_congr fun b _ => by rw [en, en]; grind
      rw [e]; exact hb
  have := sch_all (g := g) (h := h) (n := n) (most := most) (pool := poolI S) (d := n) (rows := []) (k := 0) (rs := chkL n n x) chkL_len hrow (fun i hi' => ?_) (by rw [Nat.zero_add]; exact hl)
  · rwa [List.nil_append, chkL_flat hx] at this
  · rw [List.nil_append]
    have hl : ((chkL n n x).take i).length = i := by rw [List.length_take, chkL_len]; omega
    unfold fitB
    rw [Bool.and_eq_true, decide_eq_true_eq, decide_eq_true_eq, hl]
    refine ⟨fun k hk => ?_, hbil i i hi' hi'⟩
    rw [List.getD_eq_getElem?_getD (l := (chkL n n x).take i), List.getElem?_take, if_pos hk, ← List.getD_eq_getElem?_getD]
    exact hbil i k hi' (by omega)
end Go.Proofs.YtekpamojojfplaaGreat
