/-
  PLAIN LAW: the Smith form of the reference, which marks numbers beyond the limit and looks later.
-/
import Derived.Test.YtmkoifmokdmebaapSmith
set_option linter.unusedVariables false
set_option linter.unusedSimpArgs false
namespace Go.Proofs.Ytmkoifmokdmebaa

theorem gb_zero : GB 0 := .inl ⟨by decide, by decide⟩
theorem turnM_gb {xs : List Int} {r c : Nat} (h : GBs xs) : GBs (turnM xs r c) := fun p => by
  unfold turnM
  rw [List.getD_eq_getElem?_getD, List.getElem?_map]
  cases he : (List.range (c * r))[p]? with
  | none => exact gb_zero
  | some k => exact h _
theorem turnM_bad {xs : List Int} {r c : Nat} (hl : xs.length = r * c) (h : hasB xs) : hasB (turnM xs r c) := by
  obtain ⟨p, hp⟩ := h
  have hlt : p < r * c := by
    rcases Nat.lt_or_ge p xs.length with e | e
    · omega
    · rw [List.getD_eq_getElem?_getD, List.getElem?_eq_none e] at hp; cases hp
  have hc : 0 < c := by
    rcases Nat.eq_zero_or_pos c with h0 | h0
    · rw [h0, Nat.mul_zero] at hlt; omega
    · exact h0
  have e : p / c * c + p % c = p := Nat.div_add_mod' p c
  refine ⟨p % c * r + p / c, ?_⟩
  rw [trX_at ((Nat.div_lt_iff_lt_mul hc).2 hlt) (Nat.mod_lt _ hc), e, hp]
/-- a column to which another one is added, with marks -/
def dcX (xs : List Int) (r c i j : Nat) (q : Int) : List Int := turnM (doX (turnM xs r c) r i j q) c r
theorem dcX_len {xs : List Int} {r c i j : Nat} {q : Int} : (dcX xs r c i j q).length = r * c := turnM_len
theorem dcX_gb {xs : List Int} {r c i j : Nat} {q : Int} (h : GBs xs) : GBs (dcX xs r c i j q) := turnM_gb ((turnM_gb h).upd (fun _ _ => GB.add _ _) _)
theorem dcX_keep {xs : List Int} {r c i j : Nat} {q : Int} (hl : xs.length = r * c) (hi : i < c) (h : hasB xs) : hasB (dcX xs r c i j q) :=
  turnM_bad (updTo_len.trans turnM_len) (doX_keep turnM_len hi (turnM_bad hl h))
/-- What the reference keeps while the numbers last; after that a mark stands somewhere. -/
structure Sp3 (r c : Nat) (o : Option S3) (s : S3) : Prop where
  x : s.1.length = r * c
  u : s.2.1.length = r * r
  v : s.2.2.length = c * c
  gx : GBs s.1
  gu : GBs s.2.1
  gv : GBs s.2.2
  m : match o with
    | some y => s = y ∧ OK3 r c s
    | none => hasB s.1 ∨ hasB s.2.1 ∨ hasB s.2.2
theorem Sp3.of {r c : Nat} {s : S3} (h : OK3 r c s) : Sp3 r c (some s) s := ⟨h.x, h.u, h.v, GBs.num h.nx, GBs.num h.nu, GBs.num h.nv, rfl, h⟩
theorem Sp3.ok {r c : Nat} {o : Option S3} {s : S3} (h : Sp3 r c o s) (hb : ¬ (hasB s.1 ∨ hasB s.2.1 ∨ hasB s.2.2)) : o = some s ∧ OK3 r c s := by
  have h5 := h.m
  cases o with
  | none => exact absurd h5 hb
  | some x => exact ⟨congrArg some h5.1.symm, h5.2⟩
theorem Sp3.bad {r c : Nat} {o : Option S3} {s : S3} (h : Sp3 r c o s) (hb : hasB s.1 ∨ hasB s.2.1 ∨ hasB s.2.2) : o = none := by
  have h5 := h.m
  cases o with
  | none => rfl
  | some x => rcases hb with b | b | b
              · exact absurd b (num_hasB h5.2.nx)
              · exact absurd b (num_hasB h5.2.nu)
              · exact absurd b (num_hasB h5.2.nv)
theorem Sp3.row {r c i j : Nat} {q : Int} {o : Option S3} {s : S3} (h : Sp3 r c o s) (hi : i < r) (hq : q ≠ badN) : Sp3 r c (o.bind (row3 r c i j q)) (doX s.1 c i j q, doX s.2.1 r i j q, s.2.2) := by
  refine ⟨updTo_len.trans h.x, updTo_len.trans h.u, h.v, h.gx.upd (fun _ _ => GB.add _ _) _, h.gu.upd (fun _ _ => GB.add _ _) _, h.gv, ?_⟩
  have hm := h.m
  cases o with
  | none =>
    rcases hm with b | b | b
    · exact .inl (doX_keep h.x hi b)
    · exact .inr (.inl (doX_keep h.u hi b))
    · exact .inr (.inr b)
  | some y =>
    obtain ⟨rfl, o3⟩ := hm
    have hS := (SpS.of o3.row).add (j := j) hi hq
    rw [Option.bind_some] at hS
    generalize ho : addS c r i j q (s.1, s.2.1) = oo at hS
    rw [Option.bind_some, row3]
    have ho' : addS c r i j q (s.1, s.2.1) = oo := ho
    rw [ho']
    obtain ⟨-, -, -, -, hm2⟩ := hS
    cases oo with
    | none =>
      rcases hm2 with b | b
      · exact .inl b
      · exact .inr (.inl b)
    | some y =>
      obtain ⟨he, n1, n2⟩ := hm2
      rw [Option.map_some]
      have e1 := congrArg Prod.fst he
      have e2 := congrArg Prod.snd he
      dsimp only at e1 e2 n1 n2
      refine ⟨by rw [← e1, ← e2], ⟨updTo_len.trans h.x, updTo_len.trans h.u, h.v, n1, n2, o3.nv⟩⟩
theorem Sp3.col {r c i j : Nat} {q : Int} {o : Option S3} {s : S3} (h : Sp3 r c o s) (hi : i < c) (hq : q ≠ badN) : Sp3 r c (o.bind (col3 r c i j q)) (dcX s.1 r c i j q, s.2.1, dcX s.2.2 c c i j q) := by
  refine ⟨dcX_len, h.u, dcX_len, dcX_gb h.gx, h.gu, dcX_gb h.gv, ?_⟩
  have hm := h.m
  cases o with
  | none =>
    rcases hm with b | b | b
    · exact .inl (dcX_keep h.x hi b)
    · exact .inr (.inl b)
    · exact .inr (.inr (dcX_keep h.v hi b))
  | some y =>
    obtain ⟨rfl, o3⟩ := hm
    rw [Option.bind_some, col3]
    by_cases hc : colOK r c i j q s
    · rw [if_pos hc]
      have e1 : dcX s.1 r c i j q = turnM (addX (turnM s.1 r c) r i j q) c r := by rw [dcX, doX_ok (trX_num o3.nx) hq hc.1]
      have e2 : dcX s.2.2 c c i j q = turnM (addX (turnM s.2.2 c c) c i j q) c c := by rw [dcX, doX_ok (trX_num o3.nv) hq hc.2]
      rw [e1, e2]
      exact ⟨rfl, ⟨turnM_len, o3.u, turnM_len, trX_num (addX_num (trX_num o3.nx) hc.1), o3.nu, trX_num (addX_num (trX_num o3.nv) hc.2)⟩⟩
    · rw [if_neg hc]
      by_cases k1 : addOK (turnM s.1 r c) r i j q r = true
      · have k2 : ¬ addOK (turnM s.2.2 c c) c i j q c = true := fun h2 => hc ⟨k1, h2⟩
        exact .inr (.inr (turnM_bad (updTo_len.trans turnM_len) (doX_bad turnM_len hi (trX_num o3.nv) hq k2)))
      · exact .inl (turnM_bad (updTo_len.trans turnM_len) (doX_bad turnM_len hi (trX_num o3.nx) hq k1))
/-- one row of a round of the reference -/
theorem Sp3.rAt {r c t n : Nat} {s0 s : S3} {p : Int} (h0 : OK3 r c s0) (ht : t < c) (hp : s0.1.getD (t * c + t) 0 = p) (hp0 : p ≠ 0) (hn : t + 1 + n < r) (h : Sp3 r c (rTo r c t s0 n) s) :
    (s.1.getD ((t + 1 + n) * c + t) 0 = 0 → Sp3 r c (rTo r c t s0 (n + 1)) s) ∧ (s.1.getD ((t + 1 + n) * c + t) 0 ≠ 0 → Sp3 r c (rTo r c t s0 (n + 1)) (doX s.1 c (t + 1 + n) t (-dfQ (s.1.getD ((t + 1 + n) * c + t) 0) p), doX s.2.1 r (t + 1 + n) t (-dfQ (s.1.getD ((t + 1 + n) * c + t) 0) p), s.2.2)) := by
  cases ho : rTo r c t s0 n with
  | none =>
    rw [ho] at h
    have e : rTo r c t s0 (n + 1) = none := by rw [rTo, ho]; rfl
    rw [e]
    exact ⟨fun _ => h, fun _ => Sp3.row (o := none) h hn (dfQ_ne _ _).2⟩
  | some x =>
    obtain ⟨-, hc, -, -⟩ := rTo_cells h0 ht (by omega) ho
    have e : rTo r c t s0 (n + 1) = Go.Proofs.Ytmkoifmokdmebaa.rAt r c t (t + 1 + n) x := by rw [rTo, ho]; rfl
    rw [ho] at h
    have hm := h.m
    obtain ⟨rfl, o3⟩ := hm
    rw [e]
    refine ⟨fun hk => ?_, fun hk => ?_⟩
    · rw [Go.Proofs.Ytmkoifmokdmebaa.rAt, if_neg (fun h => h hk)]
      exact h
    · rw [Go.Proofs.Ytmkoifmokdmebaa.rAt, if_pos hk]
      have hpp : s.1.getD (t * c + t) 0 = p := (hc t ht).trans hp
      have eq : dfQ (s.1.getD ((t + 1 + n) * c + t) 0) p = s.1.getD ((t + 1 + n) * c + t) 0 / s.1.getD (t * c + t) 0 := by
        rw [hpp]
        exact if_pos ⟨num_at o3.nx _, by rw [← hpp]; exact num_at o3.nx _, hp0⟩
      have := Sp3.row (o := some s) (i := t + 1 + n) (j := t) (q := -dfQ (s.1.getD ((t + 1 + n) * c + t) 0) p) h hn (dfQ_ne _ _).2
      rw [Option.bind_some] at this
      rw [← eq]
      exact this
/-- one column -/
theorem Sp3.cAt {r c t n : Nat} {s0 s : S3} {p : Int} (h0 : OK3 r c s0) (htr : t < r) (ht : t < c) (hp : s0.1.getD (t * c + t) 0 = p) (hp0 : p ≠ 0) (hn : t + 1 + n < c) (h : Sp3 r c ((rTo r c t s0 (r - (t + 1))).bind fun x => cTo r c t x n) s) :
    (s.1.getD (t * c + (t + 1 + n)) 0 = 0 ∨ s.1.getD (t * c + (t + 1 + n)) 0 = badN → Sp3 r c ((rTo r c t s0 (r - (t + 1))).bind fun x => cTo r c t x (n + 1)) s) ∧ (s.1.getD (t * c + (t + 1 + n)) 0 ≠ 0 → Sp3 r c ((rTo r c t s0 (r - (t + 1))).bind fun x => cTo r c t x (n + 1)) (dcX s.1 r c (t + 1 + n) t (-dfQ (s.1.getD (t * c + (t + 1 + n)) 0) p), s.2.1, dcX s.2.2 c c (t + 1 + n) t (-dfQ (s.1.getD (t * c + (t + 1 + n)) 0) p))) := by
  cases ho : rTo r c t s0 (r - (t + 1)) with
  | none =>
    rw [ho] at h
    exact ⟨fun _ => h, fun _ => Sp3.col (o := none) h hn (dfQ_ne _ _).2⟩
  | some y =>
    rw [ho, Option.bind_some] at h
    rw [Option.bind_some]
    obtain ⟨oy, hc, -, -⟩ := rTo_cells h0 ht (by omega) ho
    cases hx : cTo r c t y n with
    | none =>
      rw [hx] at h
      have e : cTo r c t y (n + 1) = none := by rw [cTo, hx]; rfl
      rw [e]
      exact ⟨fun _ => h, fun _ => Sp3.col (o := none) h hn (dfQ_ne _ _).2⟩
    | some x =>
      obtain ⟨-, hd, -, -⟩ := cTo_cells oy ht htr (by omega) hx
      have e : cTo r c t y (n + 1) = Go.Proofs.Ytmkoifmokdmebaa.cAt r c t (t + 1 + n) x := by rw [cTo, hx]; rfl
      rw [hx] at h
      have hm := h.m
      obtain ⟨rfl, o3⟩ := hm
      rw [e]
      refine ⟨fun hk => ?_, fun hk => ?_⟩
      · have hk0 : s.1.getD (t * c + (t + 1 + n)) 0 = 0 := hk.resolve_right (num_ne (num_at o3.nx _))
        rw [Go.Proofs.Ytmkoifmokdmebaa.cAt, if_neg (fun h => h hk0)]
        exact h
      · rw [Go.Proofs.Ytmkoifmokdmebaa.cAt, if_pos hk]
        have hpp : s.1.getD (t * c + t) 0 = p := (hd t htr).trans ((hc t ht).trans hp)
        have eq : dfQ (s.1.getD (t * c + (t + 1 + n)) 0) p = s.1.getD (t * c + (t + 1 + n)) 0 / s.1.getD (t * c + t) 0 := by
          rw [hpp]
          exact if_pos ⟨num_at o3.nx _, by rw [← hpp]; exact num_at o3.nx _, hp0⟩
        have := Sp3.col (o := some s) (i := t + 1 + n) (j := t) (q := -dfQ (s.1.getD (t * c + (t + 1 + n)) 0) p) h hn (dfQ_ne _ _).2
        rw [Option.bind_some] at this
        rw [← eq]
        exact this

/-! Columns in place. -/
def cupTo (xs : List Int) (c i : Nat) (F : Nat → Int → Int) : Nat → List Int
  | 0 => xs
  | k + 1 => (cupTo xs c i F k).set (k * c + i) (F k (xs.getD (k * c + i) 0))
theorem cupTo_len {xs : List Int} {c i : Nat} {F : Nat → Int → Int} : ∀ {k : Nat}, (cupTo xs c i F k).length = xs.length
  | 0 => rfl
  | k + 1 => by rw [cupTo, List.length_set, cupTo_len]
theorem cell_ne {c k k' i l : Nat} (hi : i < c) (hl : l < c) (h : ¬ (k = k' ∧ i = l)) : k * c + i ≠ k' * c + l := fun e => by
  have h1 : (k * c + i) % c = (k' * c + l) % c := by rw [e]
  rw [Nat.add_comm, Nat.add_mul_mod_self_right, Nat.mod_eq_of_lt hi, Nat.add_comm, Nat.add_mul_mod_self_right, Nat.mod_eq_of_lt hl] at h1
  subst h1
  have h2 : k * c = k' * c := by omega
  exact h ⟨Nat.eq_of_mul_eq_mul_right (by omega) h2, rfl⟩
theorem cupTo_cell {xs : List Int} {r c i k l : Nat} {F : Nat → Int → Int} (hx : xs.length = r * c) (hi : i < c) (hl : l < c) (hk : k < r) : ∀ {n : Nat}, n ≤ r → (cupTo xs c i F n).getD (k * c + l) 0 = if l = i ∧ k < n then F k (xs.getD (k * c + i) 0) else xs.getD (k * c + l) 0
  | 0, _ => by rw [if_neg (by omega)]; rfl
  | n + 1, hn => by
    rw [cupTo, getD_set, cupTo_len, cupTo_cell hx hi hl hk (by omega)]
    have hlt : n * c + i < xs.length := by rw [hx]; exact cell_in (by omega) hi
    by_cases h : k = n ∧ l = i
    · obtain ⟨rfl, rfl⟩ := h
      rw [if_pos ⟨rfl, hlt⟩, if_pos ⟨rfl, by omega⟩]
    · rw [if_neg (fun h2 => cell_ne hl hi h h2.1)]
      by_cases h3 : l = i ∧ k < n
      · rw [if_pos h3, if_pos ⟨h3.1, by omega⟩]
      · rw [if_neg h3, if_neg (fun h4 => h ⟨by omega, h4.1⟩)]
def dcF (xs : List Int) (c j : Nat) (q : Int) (k : Nat) (v : Int) : Int := addV v (mulV (xs.getD (k * c + j) 0) q)
theorem cup_dcX {xs : List Int} {r c i j : Nat} {q : Int} (hx : xs.length = r * c) (hi : i < c) (hj : j < c) : cupTo xs c i (dcF xs c j q) r = dcX xs r c i j q := by
  refine cells_ext (cupTo_len.trans hx) dcX_len fun k l hk hl => ?_
  rw [cupTo_cell hx hi hl hk (Nat.le_refl _), dcX, trX_at hl hk]
  by_cases h : l = i
  · subst h
    rw [if_pos ⟨rfl, hk⟩, doX_at turnM_len hi hk, doF, dcF, trX_at hk hi, trX_at hk hj]
  · rw [if_neg (fun h2 => h h2.1), doX, updTo_at (by have := row_apart (c := r) h; omega), trX_at hk hl]
def cswTo (xs : List Int) (c i j : Nat) : Nat → List Int
  | 0 => xs
  | k + 1 => ((cswTo xs c i j k).set (k * c + i) (xs.getD (k * c + j) 0)).set (k * c + j) (xs.getD (k * c + i) 0)
theorem cswTo_len {xs : List Int} {c i j : Nat} : ∀ {k : Nat}, (cswTo xs c i j k).length = xs.length
  | 0 => rfl
  | k + 1 => by rw [cswTo, List.length_set, List.length_set, cswTo_len]
theorem cswTo_cell {xs : List Int} {r c i j k l : Nat} (hx : xs.length = r * c) (hi : i < c) (hj : j < c) (hij : i ≠ j) (hl : l < c) (hk : k < r) : ∀ {n : Nat}, n ≤ r → (cswTo xs c i j n).getD (k * c + l) 0 = if l = i ∧ k < n then xs.getD (k * c + j) 0 else if l = j ∧ k < n then xs.getD (k * c + i) 0 else xs.getD (k * c + l) 0
  | 0, _ => by rw [if_neg (by omega), if_neg (by omega)]; rfl
  | n + 1, hn => by
    rw [cswTo, getD_set, List.length_set, getD_set, cswTo_len, cswTo_cell hx hi hj hij hl hk (by omega)]
    have h1 : n * c + i < xs.length := by rw [hx]; exact cell_in (by omega) hi
    have h2 : n * c + j < xs.length := by rw [hx]; exact cell_in (by omega) hj
    by_cases hkn : k = n
    · subst hkn
      by_cases e1 : l = j
      · subst e1
        rw [if_pos ⟨rfl, h2⟩, if_neg (fun h => hij h.1.symm), if_pos ⟨rfl, by omega⟩]
      · rw [if_neg (fun h => cell_ne hl hj (fun h3 => e1 h3.2) h.1)]
        by_cases e2 : l = i
        · subst e2
          rw [if_pos ⟨rfl, h1⟩, if_pos ⟨rfl, by omega⟩]
        · rw [if_neg (fun h => cell_ne hl hi (fun h3 => e2 h3.2) h.1), if_neg (fun h => e2 h.1), if_neg (fun h => e1 h.1), if_neg (fun h => e2 h.1), if_neg (fun h => e1 h.1)]
    · rw [if_neg (fun h => cell_ne hl hj (fun h3 => hkn h3.1) h.1), if_neg (fun h => cell_ne hl hi (fun h3 => hkn h3.1) h.1)]
      have : (k < n + 1) ↔ (k < n) := by omega
      simp only [this]
theorem csw_swC {xs : List Int} {r c i j : Nat} (hx : xs.length = r * c) (hi : i < c) (hj : j < c) (hij : i ≠ j) : cswTo xs c i j r = turnM (swapTo (turnM xs r c) (i * r) (j * r) r) c r := by
  refine cells_ext (cswTo_len.trans hx) turnM_len fun k l hk hl => ?_
  rw [cswTo_cell hx hi hj hij hl hk (Nat.le_refl _), trX_at hl hk, swap_cell turnM_len hi hj hij hk]
  by_cases e1 : l = i
  · rw [if_pos ⟨e1, hk⟩, if_pos e1, trX_at hk hj]
  · rw [if_neg (fun h => e1 h.1), if_neg e1]
    by_cases e2 : l = j
    · rw [if_pos ⟨e2, hk⟩, if_pos e2, trX_at hk hi]
    · rw [if_neg (fun h => e2 h.1), if_neg e2, trX_at hk hl]
end Go.Proofs.Ytmkoifmokdmebaa
