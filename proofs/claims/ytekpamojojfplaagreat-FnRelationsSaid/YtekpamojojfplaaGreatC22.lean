/-
  TEXTS OF THE PROOF, put together: pSmith2, pBox, pChoose, bAdj, Am15, pLead.
-/
import Derived.Test.YtekpamojojfplaaGreatC21
import Derived.Test.YtekpamojojfplaaGreatC17
import Derived.Test.YtekpamojojfplaaGreatC08
import Derived.Test.YtekpamojojfplaaGreatC07
import Derived.Test.YtekpamojojfplaaGreatC20
set_option linter.unusedVariables false
set_option linter.unusedSimpArgs false
namespace Go.Proofs.YtekpamojojfplaaGreat
theorem gb_zero : GB 0 := .inl ⟨by decide, by decide⟩
theorem turnM_gb {xs : List Int} {r c : Nat} (h : GBs xs) : GBs (turnM xs r c) := fun p => by
  unfold turnM
  rw [List.getD_eq_getElem?_getD, List.getElem?_map]
  cases he : (List.range (c * r))[p]? with
  | none => exact gb_zero
  | some k => exact h _
theorem turnM_bad {xs : List Int} {r c : Nat} (hl : xs.length = r * c) (h : hasB xs) : hasB (turnM xs r c) := by
  obtain ⟨p, hp⟩ := h
  have hlt : p < r * c := by
    rcases Nat.lt_or_ge p xs.length with e | e
    · omega
    · rw [List.getD_eq_getElem?_getD, List.getElem?_eq_none e] at hp; cases hp
  have hc : 0 < c := by
    rcases Nat.eq_zero_or_pos c with h0 | h0
    · rw [h0, Nat.mul_zero] at hlt; omega
    · exact h0
  have e : p / c * c + p % c = p := Nat.div_add_mod' p c
  refine ⟨p % c * r + p / c, ?_⟩
  rw [trX_at ((Nat.div_lt_iff_lt_mul hc).2 hlt) (Nat.mod_lt _ hc), e, hp]
def dcX (xs : List Int) (r c i j : Nat) (q : Int) : List Int := turnM (doX (turnM xs r c) r i j q) c r
theorem dcX_len {xs : List Int} {r c i j : Nat} {q : Int} : (dcX xs r c i j q).length = r * c := turnM_len
theorem dcX_gb {xs : List Int} {r c i j : Nat} {q : Int} (h : GBs xs) : GBs (dcX xs r c i j q) := turnM_gb ((turnM_gb h).upd (fun _ _ => GB.add _ _) _)
theorem dcX_keep {xs : List Int} {r c i j : Nat} {q : Int} (hl : xs.length = r * c) (hi : i < c) (h : hasB xs) : hasB (dcX xs r c i j q) :=
  turnM_bad (updTo_len.trans turnM_len) (doX_keep turnM_len hi (turnM_bad hl h))
structure Sp3 (r c : Nat) (o : Option S3) (s : S3) : Prop where
  x : s.1.length = r * c
  u : s.2.1.length = r * r
  v : s.2.2.length = c * c
  gx : GBs s.1
  gu : GBs s.2.1
  gv : GBs s.2.2
  m : match o with
    | some y => s = y ∧ OK3 r c s
    | none => hasB s.1 ∨ hasB s.2.1 ∨ hasB s.2.2
theorem Sp3.of {r c : Nat} {s : S3} (h : OK3 r c s) : Sp3 r c (some s) s := ⟨h.x, h.u, h.v, GBs.num h.nx, GBs.num h.nu, GBs.num h.nv, rfl, h⟩
theorem Sp3.ok {r c : Nat} {o : Option S3} {s : S3} (h : Sp3 r c o s) (hb : ¬ (hasB s.1 ∨ hasB s.2.1 ∨ hasB s.2.2)) : o = some s ∧ OK3 r c s := by
  have h5 := h.m
  cases o with
  | none => exact absurd h5 hb
  | some x => exact ⟨congrArg some h5.1.symm, h5.2⟩
theorem Sp3.bad {r c : Nat} {o : Option S3} {s : S3} (h : Sp3 r c o s) (hb : hasB s.1 ∨ hasB s.2.1 ∨ hasB s.2.2) : o = none := by
  have h5 := h.m
  cases o with
  | none => rfl
  | some x => rcases hb with b | b | b
              · exact absurd b (num_hasB h5.2.nx)
              · exact absurd b (num_hasB h5.2.nu)
              · exact absurd b (num_hasB h5.2.nv)
theorem Sp3.row {r c i j : Nat} {q : Int} {o : Option S3} {s : S3} (h : Sp3 r c o s) (hi : i < r) (hq : q ≠ badN) : Sp3 r c (o.bind (row3 r c i j q)) (doX s.1 c i j q, doX s.2.1 r i j q, s.2.2) := by
  refine ⟨updTo_len.trans h.x, updTo_len.trans h.u, h.v, h.gx.upd (fun _ _ => GB.add _ _) _, h.gu.upd (fun _ _ => GB.add _ _) _, h.gv, ?_⟩
  have hm := h.m
  cases o with
  | none =>
    rcases hm with b | b | b
    · exact .inl (doX_keep h.x hi b)
    · exact .inr (.inl (doX_keep h.u hi b))
    · exact .inr (.inr b)
  | some y =>
    obtain ⟨rfl, o3⟩ := hm
    have hS := (SpS.of o3.row).add (j := j) hi hq
    rw [Option.bind_some] at hS
    generalize ho : addS c r i j q (s.1, s.2.1) = oo at hS
    rw [Option.bind_some, row3]
    have ho' : addS c r i j q (s.1, s.2.1) = oo := ho
    rw [ho']
    obtain ⟨-, -, -, -, hm2⟩ := hS
    cases oo with
    | none =>
      rcases hm2 with b | b
      · exact .inl b
      · exact .inr (.inl b)
    | some y =>
      obtain ⟨he, n1, n2⟩ := hm2
      rw [Option.map_some]
      have e1 := congrArg Prod.fst he
      have e2 := congrArg Prod.snd he
      dsimp only at e1 e2 n1 n2
      refine ⟨by rw [← e1, ← e2], ⟨updTo_len.trans h.x, updTo_len.trans h.u, h.v, n1, n2, o3.nv⟩⟩
theorem Sp3.col {r c i j : Nat} {q : Int} {o : Option S3} {s : S3} (h : Sp3 r c o s) (hi : i < c) (hq : q ≠ badN) : Sp3 r c (o.bind (col3 r c i j q)) (dcX s.1 r c i j q, s.2.1, dcX s.2.2 c c i j q) := by
  refine ⟨dcX_len, h.u, dcX_len, dcX_gb h.gx, h.gu, dcX_gb h.gv, ?_⟩
  have hm := h.m
  cases o with
  | none =>
    rcases hm with b | b | b
    · exact .inl (dcX_keep h.x hi b)
    · exact .inr (.inl b)
    · exact .inr (.inr (dcX_keep h.v hi b))
  | some y =>
    obtain ⟨rfl, o3⟩ := hm
    rw [Option.bind_some, col3]
    by_cases hc : colOK r c i j q s
    · rw [if_pos hc]
      have e1 : dcX s.1 r c i j q = turnM (addX (turnM s.1 r c) r i j q) c r := by rw [dcX, doX_ok (trX_num o3.nx) hq hc.1]
      have e2 : dcX s.2.2 c c i j q = turnM (addX (turnM s.2.2 c c) c i j q) c c := by rw [dcX, doX_ok (trX_num o3.nv) hq hc.2]
      rw [e1, e2]
      exact ⟨rfl, ⟨turnM_len, o3.u, turnM_len, trX_num (addX_num (trX_num o3.nx) hc.1), o3.nu, trX_num (addX_num (trX_num o3.nv) hc.2)⟩⟩
    · rw [if_neg hc]
      by_cases k1 : addOK (turnM s.1 r c) r i j q r = true
      · have k2 : ¬ addOK (turnM s.2.2 c c) c i j q c = true := fun h2 => hc ⟨k1, h2⟩
        exact .inr (.inr (turnM_bad (updTo_len.trans turnM_len) (doX_bad turnM_len hi (trX_num o3.nv) hq k2)))
      · exact .inl (turnM_bad (updTo_len.trans turnM_len) (doX_bad turnM_len hi (trX_num o3.nx) hq k1))
theorem Sp3.rAt {r c t n : Nat} {s0 s : S3} {p : Int} (h0 : OK3 r c s0) (ht : t < c) (hp : s0.1.getD (t * c + t) 0 = p) (hp0 : p ≠ 0) (hn : t + 1 + n < r) (h : Sp3 r c (rTo r c t s0 n) s) :
    (s.1.getD ((t + 1 + n) * c + t) 0 = 0 → Sp3 r c (rTo r c t s0 (n + 1)) s) ∧ (s.1.getD ((t + 1 + n) * c + t) 0 ≠ 0 → Sp3 r c (rTo r c t s0 (n + 1)) (doX s.1 c (t + 1 + n) t (-dfQ (s.1.getD ((t + 1 + n) * c + t) 0) p), doX s.2.1 r (t + 1 + n) t (-dfQ (s.1.getD ((t + 1 + n) * c + t) 0) p), s.2.2)) := by
  cases ho : rTo r c t s0 n with
  | none =>
    rw [ho] at h
    have e : rTo r c t s0 (n + 1) = none := by rw [rTo, ho]; rfl
    rw [e]
    exact ⟨fun _ => h, fun _ => Sp3.row (o := none) h hn (dfQ_ne _ _).2⟩
  | some x =>
    obtain ⟨-, hc, -, -⟩ := rTo_cells h0 ht (by omega) ho
    have e : rTo r c t s0 (n + 1) = Go.Proofs.YtekpamojojfplaaGreat.rAt r c t (t + 1 + n) x := by rw [rTo, ho]; rfl
    rw [ho] at h
    have hm := h.m
    obtain ⟨rfl, o3⟩ := hm
    rw [e]
    refine ⟨fun hk => ?_, fun hk => ?_⟩
    · rw [Go.Proofs.YtekpamojojfplaaGreat.rAt, if_neg (fun h => h hk)]
      exact h
    · rw [Go.Proofs.YtekpamojojfplaaGreat.rAt, if_pos hk]
      have hpp : s.1.getD (t * c + t) 0 = p := (hc t ht).trans hp
      have eq : dfQ (s.1.getD ((t + 1 + n) * c + t) 0) p = s.1.getD ((t + 1 + n) * c + t) 0 / s.1.getD (t * c + t) 0 := by
        rw [hpp]
        exact if_pos ⟨num_at o3.nx _, by rw [← hpp]; exact num_at o3.nx _, hp0⟩
      have := Sp3.row (o := some s) (i := t + 1 + n) (j := t) (q := -dfQ (s.1.getD ((t + 1 + n) * c + t) 0) p) h hn (dfQ_ne _ _).2
      rw [Option.bind_some] at this
      rw [← eq]
      exact this
theorem Sp3.cAt {r c t n : Nat} {s0 s : S3} {p : Int} (h0 : OK3 r c s0) (htr : t < r) (ht : t < c) (hp : s0.1.getD (t * c + t) 0 = p) (hp0 : p ≠ 0) (hn : t + 1 + n < c) (h : Sp3 r c ((rTo r c t s0 (r - (t + 1))).bind fun x => cTo r c t x n) s) :
    (s.1.getD (t * c + (t + 1 + n)) 0 = 0 ∨ s.1.getD (t * c + (t + 1 + n)) 0 = badN → Sp3 r c ((rTo r c t s0 (r - (t + 1))).bind fun x => cTo r c t x (n + 1)) s) ∧ (s.1.getD (t * c + (t + 1 + n)) 0 ≠ 0 → Sp3 r c ((rTo r c t s0 (r - (t + 1))).bind fun x => cTo r c t x (n + 1)) (dcX s.1 r c (t + 1 + n) t (-dfQ (s.1.getD (t * c + (t + 1 + n)) 0) p), s.2.1, dcX s.2.2 c c (t + 1 + n) t (-dfQ (s.1.getD (t * c + (t + 1 + n)) 0) p))) := by
  cases ho : rTo r c t s0 (r - (t + 1)) with
  | none =>
    rw [ho] at h
    exact ⟨fun _ => h, fun _ => Sp3.col (o := none) h hn (dfQ_ne _ _).2⟩
  | some y =>
    rw [ho, Option.bind_some] at h
    rw [Option.bind_some]
    obtain ⟨oy, hc, -, -⟩ := rTo_cells h0 ht (by omega) ho
    cases hx : cTo r c t y n with
    | none =>
      rw [hx] at h
      have e : cTo r c t y (n + 1) = none := by rw [cTo, hx]; rfl
      rw [e]
      exact ⟨fun _ => h, fun _ => Sp3.col (o := none) h hn (dfQ_ne _ _).2⟩
    | some x =>
      obtain ⟨-, hd, -, -⟩ := cTo_cells oy ht htr (by omega) hx
      have e : cTo r c t y (n + 1) = Go.Proofs.YtekpamojojfplaaGreat.cAt r c t (t + 1 + n) x := by rw [cTo, hx]; rfl
      rw [hx] at h
      have hm := h.m
      obtain ⟨rfl, o3⟩ := hm
      rw [e]
      refine ⟨fun hk => ?_, fun hk => ?_⟩
      · have hk0 : s.1.getD (t * c + (t + 1 + n)) 0 = 0 := hk.resolve_right (num_ne (num_at o3.nx _))
        rw [Go.Proofs.YtekpamojojfplaaGreat.cAt, if_neg (fun h => h hk0)]
        exact h
      · rw [Go.Proofs.YtekpamojojfplaaGreat.cAt, if_pos hk]
        have hpp : s.1.getD (t * c + t) 0 = p := (hd t htr).trans ((hc t ht).trans hp)
        have eq : dfQ (s.1.getD (t * c + (t + 1 + n)) 0) p = s.1.getD (t * c + (t + 1 + n)) 0 / s.1.getD (t * c + t) 0 := by
          rw [hpp]
          exact if_pos ⟨num_at o3.nx _, by rw [← hpp]; exact num_at o3.nx _, hp0⟩
        have := Sp3.col (o := some s) (i := t + 1 + n) (j := t) (q := -dfQ (s.1.getD (t * c + (t + 1 + n)) 0) p) h hn (dfQ_ne _ _).2
        rw [Option.bind_some] at this
        rw [← eq]
        exact this
def cupTo (xs : List Int) (c i : Nat) (F : Nat → Int → Int) : Nat → List Int
  | 0 => xs
  | k + 1 => (cupTo xs c i F k).set (k * c + i) (F k (xs.getD (k * c + i) 0))
theorem cupTo_len {xs : List Int} {c i : Nat} {F : Nat → Int → Int} : ∀ {k : Nat}, (cupTo xs c i F k).length = xs.length
  | 0 => rfl
  | k + 1 => by rw [cupTo, List.length_set, cupTo_len]
theorem cell_ne {c k k' i l : Nat} (hi : i < c) (hl : l < c) (h : ¬ (k = k' ∧ i = l)) : k * c + i ≠ k' * c + l := fun e => by
  have h1 : (k * c + i) % c = (k' * c + l) % c := by rw [e]
  rw [Nat.add_comm, Nat.add_mul_mod_self_right, Nat.mod_eq_of_lt hi, Nat.add_comm, Nat.add_mul_mod_self_right, Nat.mod_eq_of_lt hl] at h1
  subst h1
  have h2 : k * c = k' * c := by omega
  exact h ⟨Nat.eq_of_mul_eq_mul_right (by omega) h2, rfl⟩
theorem cupTo_cell {xs : List Int} {r c i k l : Nat} {F : Nat → Int → Int} (hx : xs.length = r * c) (hi : i < c) (hl : l < c) (hk : k < r) : ∀ {n : Nat}, n ≤ r → (cupTo xs c i F n).getD (k * c + l) 0 = if l = i ∧ k < n then F k (xs.getD (k * c + i) 0) else xs.getD (k * c + l) 0
  | 0, _ => by rw [if_neg (by omega)]; rfl
  | n + 1, hn => by
    rw [cupTo, getD_set, cupTo_len, cupTo_cell hx hi hl hk (by omega)]
    have hlt : n * c + i < xs.length := by rw [hx]; exact cell_in (by omega) hi
    by_cases h : k = n ∧ l = i
    · obtain ⟨rfl, rfl⟩ := h
      rw [if_pos ⟨rfl, hlt⟩, if_pos ⟨rfl, by omega⟩]
    · rw [if_neg (fun h2 => cell_ne hl hi h h2.1)]
      by_cases h3 : l = i ∧ k < n
      · rw [if_pos h3, if_pos ⟨h3.1, by omega⟩]
      · rw [if_neg h3, if_neg (fun h4 => h ⟨by omega, h4.1⟩)]
def dcF (xs : List Int) (c j : Nat) (q : Int) (k : Nat) (v : Int) : Int := addV v (mulV (xs.getD (k * c + j) 0) q)
theorem cup_dcX {xs : List Int} {r c i j : Nat} {q : Int} (hx : xs.length = r * c) (hi : i < c) (hj : j < c) : cupTo xs c i (dcF xs c j q) r = dcX xs r c i j q := by
  refine cells_ext (cupTo_len.trans hx) dcX_len fun k l hk hl => ?_
  rw [cupTo_cell hx hi hl hk (Nat.le_refl _), dcX, trX_at hl hk]
  by_cases h : l = i
  · subst h
    rw [if_pos ⟨rfl, hk⟩, doX_at turnM_len hi hk, doF, dcF, trX_at hk hi, trX_at hk hj]
  · rw [if_neg (fun h2 => h h2.1), doX, updTo_at (by have := row_apart (c := r) h; omega), trX_at hk hl]
def cswTo (xs : List Int) (c i j : Nat) : Nat → List Int
  | 0 => xs
  | k + 1 => ((cswTo xs c i j k).set (k * c + i) (xs.getD (k * c + j) 0)).set (k * c + j) (xs.getD (k * c + i) 0)
theorem cswTo_len {xs : List Int} {c i j : Nat} : ∀ {k : Nat}, (cswTo xs c i j k).length = xs.length
  | 0 => rfl
  | k + 1 => by rw [cswTo, List.length_set, List.length_set, cswTo_len]
theorem cswTo_cell {xs : List Int} {r c i j k l : Nat} (hx : xs.length = r * c) (hi : i < c) (hj : j < c) (hij : i ≠ j) (hl : l < c) (hk : k < r) : ∀ {n : Nat}, n ≤ r → (cswTo xs c i j n).getD (k * c + l) 0 = if l = i ∧ k < n then xs.getD (k * c + j) 0 else if l = j ∧ k < n then xs.getD (k * c + i) 0 else xs.getD (k * c + l) 0
  | 0, _ => by rw [if_neg (by omega), if_neg (by omega)]; rfl
  | n + 1, hn => by
    rw [cswTo, getD_set, List.length_set, getD_set, cswTo_len, cswTo_cell hx hi hj hij hl hk (by omega)]
    have h1 : n * c + i < xs.length := by rw [hx]; exact cell_in (by omega) hi
    have h2 : n * c + j < xs.length := by rw [hx]; exact cell_in (by omega) hj
    by_cases hkn : k = n
    · subst hkn
      by_cases e1 : l = j
      · subst e1
        rw [if_pos ⟨rfl, h2⟩, if_neg (fun h => hij h.1.symm), if_pos ⟨rfl, by omega⟩]
      · rw [if_neg (fun h => cell_ne hl hj (fun h3 => e1 h3.2) h.1)]
        by_cases e2 : l = i
        · subst e2
          rw [if_pos ⟨rfl, h1⟩, if_pos ⟨rfl, by omega⟩]
        · rw [if_neg (fun h => cell_ne hl hi (fun h3 => e2 h3.2) h.1), if_neg (fun h => e2 h.1), if_neg (fun h => e1 h.1), if_neg (fun h => e2 h.1), if_neg (fun h => e1 h.1)]
    · rw [if_neg (fun h => cell_ne hl hj (fun h3 => hkn h3.1) h.1), if_neg (fun h => cell_ne hl hi (fun h3 => hkn h3.1) h.1)]
      have : (k < n + 1) ↔ (k < n) := by omega
      simp only [this]
theorem csw_swC {xs : List Int} {r c i j : Nat} (hx : xs.length = r * c) (hi : i < c) (hj : j < c) (hij : i ≠ j) : cswTo xs c i j r = turnM (swapTo (turnM xs r c) (i * r) (j * r) r) c r := by
  refine cells_ext (cswTo_len.trans hx) turnM_len fun k l hk hl => ?_
  rw [cswTo_cell hx hi hj hij hl hk (Nat.le_refl _), trX_at hl hk, swap_cell turnM_len hi hj hij hk]
  by_cases e1 : l = i
  · rw [if_pos ⟨e1, hk⟩, if_pos e1, trX_at hk hj]
  · rw [if_neg (fun h => e1 h.1), if_neg e1]
    by_cases e2 : l = j
    · rw [if_pos ⟨e2, hk⟩, if_pos e2, trX_at hk hi]
    · rw [if_neg (fun h => e2 h.1), if_neg e2, trX_at hk hl]
end Go.Proofs.YtekpamojojfplaaGreat
namespace Go.Proofs.YtekpamojojfplaaGreat
open Go.RowKit
def widW (lo hi : List Int) (k : Nat) : Int := hi.getD k 0 - lo.getD k 0 + 1
def cntW (lo hi : List Int) : Nat → Int
  | 0 => 1
  | k + 1 => cntW lo hi k * widW lo hi k
def spanL (a : Int) (n : Nat) : List Int := (List.range n).map fun m : Nat => a + (m : Int)
def extL (lo hi : List Int) (k : Nat) (v : List Int) : List (List Int) := (spanL (lo.getD k 0) (widW lo hi k).toNat).map fun n => v ++ [n]
def boxTo (lo hi : List Int) : Nat → List (List Int)
  | 0 => [[]]
  | k + 1 => (boxTo lo hi k).flatMap (extL lo hi k)
def okTo (lo hi : List Int) : Nat → Bool
  | 0 => true
  | k + 1 => okTo lo hi k && decide (cntW lo hi (k + 1) ≤ 4000)
def boxO (lo hi : List Int) : Option (List (List Int)) := if okTo lo hi lo.length then some (boxTo lo hi lo.length) else none
theorem extL_len {lo hi : List Int} {k : Nat} {v : List Int} : (extL lo hi k v).length = (widW lo hi k).toNat := by simp [extL, spanL]
theorem flat_const {α β : Type} {f : α → List β} {n : Nat} (h : ∀ x, (f x).length = n) : ∀ (l : List α), (l.flatMap f).length = l.length * n
  | [] => by simp
  | x :: l => by rw [List.flatMap_cons, List.length_append, h, flat_const h l, List.length_cons, Nat.succ_mul]; omega
theorem box_len {lo hi : List Int} (hw : ∀ k, k < lo.length → 1 ≤ widW lo hi k) : ∀ k, k ≤ lo.length → ((boxTo lo hi k).length : Int) = cntW lo hi k ∧ 1 ≤ cntW lo hi k
  | 0, _ => by simp [boxTo, cntW]
  | k + 1, h => by
    obtain ⟨h1, h2⟩ := box_len hw k (by omega)
    have h3 := hw k (by omega)
    have e : ((widW lo hi k).toNat : Int) = widW lo hi k := by omega
    refine ⟨?_, ?_⟩
    · rw [boxTo, flat_const fun v => extL_len, cntW, ← h1, Int.natCast_mul, e]
    · rw [cntW]
      have := Int.mul_le_mul h2 h3 (by omega) (by omega)
      omega
theorem okTo_mono {lo hi : List Int} {k : Nat} (h : okTo lo hi k = false) : ∀ m, okTo lo hi (k + m) = false
  | 0 => h
  | m + 1 => by rw [← Nat.add_assoc, okTo, okTo_mono h m]; rfl
theorem boxO_no {lo hi : List Int} {k : Nat} (hk : k ≤ lo.length) (h : okTo lo hi k = false) : boxO lo hi = none := by
  have := okTo_mono h (lo.length - k)
  rw [show k + (lo.length - k) = lo.length by omega] at this
  simp [boxO, this]
theorem okTo_cnt {lo hi : List Int} : ∀ {k : Nat}, okTo lo hi k = true → cntW lo hi k ≤ 4000
  | 0, _ => by simp [cntW]
  | k + 1, h => by simp only [okTo, Bool.and_eq_true, decide_eq_true_eq] at h; exact h.2
def rowsX (l : List Row) : List (List Int) := l.map Row.xs
def BoxR (th t : TypeId) (L : List (List Int)) (k : Nat) (v : AV) (Hout : List (Nat × Blk)) (n1 : Nat) : Prop := ∃ l cap, rowsX l = L ∧ v = .tup [.one (.sl k 1 0 l.length cap), .one (.bool true)] ∧ Hout = [(k, .own th cap (.rows false true l)), (k + 1, .tok t false l)] ∧ n1 = k + 2
theorem span_bd {lo hi : List Int} {k : Nat} (h : ∀ n ∈ lo, numB n = true) (h' : ∀ n ∈ hi, numB n = true) (hk : k < lo.length) (hl : lo.length = hi.length) : (-400000000 ≤ lo[k] ∧ lo[k] ≤ 400000000) ∧ (-400000000 ≤ hi[k] ∧ hi[k] ≤ 400000000) :=
  ⟨numB_true.1 (h _ (List.getElem_mem hk)), numB_true.1 (h' _ (List.getElem_mem (by omega)))⟩
theorem widW_at {lo hi : List Int} {k : Nat} (hk : k < lo.length) (hk' : k < hi.length) : widW lo hi k = hi[k] - lo[k] + 1 := by simp [widW, hk, hk']
theorem box_row {lo hi : List Int} : ∀ {k : Nat}, ∀ v ∈ boxTo lo hi k, v.length = k
  | 0, v, h => by simp [boxTo] at h; simp [h]
  | k + 1, v, h => by
    simp only [boxTo, extL, List.mem_flatMap, List.mem_map] at h
    obtain ⟨u, hu, n, _, rfl⟩ := h
    simp [box_row u hu]
theorem spanL_next {a : Int} {m : Nat} : spanL a (m + 1) = spanL a m ++ [a + (m : Int)] := by simp [spanL, List.range_succ]
def midL (lo hi : List Int) (i j m : Nat) : List (List Int) := ((boxTo lo hi i).take j).flatMap (extL lo hi i) ++ (spanL (lo.getD i 0) m).map fun n => (boxTo lo hi i).getD j [] ++ [n]
theorem midL_zero {lo hi : List Int} {i j : Nat} : midL lo hi i j 0 = ((boxTo lo hi i).take j).flatMap (extL lo hi i) := by simp [midL, spanL]
theorem midL_next {lo hi : List Int} {i j m : Nat} : midL lo hi i j (m + 1) = midL lo hi i j m ++ [(boxTo lo hi i).getD j [] ++ [lo.getD i 0 + (m : Int)]] := by
  simp [midL, spanL_next]
theorem midL_row {lo hi : List Int} {i j : Nat} (hj : j < (boxTo lo hi i).length) : midL lo hi i j (widW lo hi i).toNat = midL lo hi i (j + 1) 0 := by
  rw [midL_zero, List.take_succ_eq_append_getElem hj, List.flatMap_append]
  simp [midL, extL, hj]
theorem midL_full {lo hi : List Int} {i : Nat} : midL lo hi i (boxTo lo hi i).length 0 = boxTo lo hi (i + 1) := by rw [midL_zero, List.take_length, boxTo]
theorem midL_len {lo hi : List Int} {i j m : Nat} (hj : j < (boxTo lo hi i).length) (hm : m ≤ (widW lo hi i).toNat) : (midL lo hi i j m).length ≤ (boxTo lo hi i).length * (widW lo hi i).toNat := by
  have h1 : (midL lo hi i j m).length = j * (widW lo hi i).toNat + m := by
    rw [midL, List.length_append, flat_const fun v => extL_len, List.length_take, Nat.min_eq_left (by omega)]
    simp [spanL]
  have h2 : (j + 1) * (widW lo hi i).toNat ≤ (boxTo lo hi i).length * (widW lo hi i).toNat := Nat.mul_le_mul_right _ hj
  rw [Nat.succ_mul] at h2
  omega
theorem rowsX_len {l : List Row} {L : List (List Int)} (h : rowsX l = L) : l.length = L.length := by rw [← h]; simp [rowsX]
theorem rowsX_at {l : List Row} {L : List (List Int)} (h : rowsX l = L) {j : Nat} (hj : j < l.length) : (l.getD (0 + (j : Int).toNat) rowD).xs = L.getD j [] := by
  rw [← h]; simp [rowsX, hj]
end Go.Proofs.YtekpamojojfplaaGreat
namespace Go.Proofs.YtekpamojojfplaaGreat
theorem getD_in {α : Type} {l : List α} {i : Nat} {d : α} (h : i < l.length) : l.getD i d = l[i] := by simp [h]
theorem getD_appL {α : Type} {l m : List α} {i : Nat} {d : α} (h : i < l.length) : (l ++ m).getD i d = l.getD i d := by
  rw [List.getD_eq_getElem?_getD, List.getElem?_append_left h, ← List.getD_eq_getElem?_getD]
theorem getD_appR {α : Type} {l m : List α} {i : Nat} {d : α} (h : l.length ≤ i) : (l ++ m).getD i d = m.getD (i - l.length) d := by
  rw [List.getD_eq_getElem?_getD, List.getElem?_append_right h, ← List.getD_eq_getElem?_getD]
def fromI (v : List Int) (k : Nat) : Int := if 0 < k then v.getD (k - 1) 0 + 1 else 0
def extC (n k : Nat) (v : List Int) : List (List Int) := (spanL (fromI v k) ((n : Int) - fromI v k).toNat).map fun x => v ++ [x]
def chTo (n : Nat) : Nat → List (List Int)
  | 0 => [[]]
  | k + 1 => (chTo n k).flatMap (extC n k)
def midC (n k j m : Nat) : List (List Int) := ((chTo n k).take j).flatMap (extC n k) ++ (spanL (fromI ((chTo n k).getD j []) k) m).map fun x => (chTo n k).getD j [] ++ [x]
end Go.Proofs.YtekpamojojfplaaGreat
namespace Go.Proofs.YtekpamojojfplaaGreat
open Go.RowKit
def cofV (xs : List Int) (n i j : Nat) : Int := match detZ (n - 1) (minM xs n i j n) with
  | some d => if (i + j) % 2 = 1 then -d else d
  | none => badN
def cofL (xs : List Int) (n : Nat) : List Int := (List.range (n * n)).map fun p => cofV xs n (p / n) (p % n)
theorem cofL_len {xs : List Int} {n : Nat} : (cofL xs n).length = n * n := by simp [cofL]
theorem cofL_at {xs : List Int} {n i j : Nat} (hi : i < n) (hj : j < n) : (cofL xs n).getD (i * n + j) 0 = cofV xs n i j := by
  have h : i * n + j < n * n := cell_lt hi hj
  rw [List.getD_eq_getElem?_getD, List.getElem?_eq_getElem (by rw [cofL_len]; exact h), Option.getD_some]
  obtain ⟨e1, e2⟩ := turn_idx (r := n) (i := j) (j := i) hj
  simp only [cofL, List.getElem_map, List.getElem_range, e1, e2]
def adjZ (r c : Int) (xs : List Int) : Option (List Int) := if sqB r c xs && (cofL xs r.toNat).all numB then some (turnM (cofL xs r.toNat) r.toNat r.toNat) else none
theorem adjZ_no {r c : Int} {xs : List Int} (h : sqB r c xs = false) : adjZ r c xs = none := by simp [adjZ, h]
theorem adjZ_n {n : Nat} {xs : List Int} (h : sqB n n xs = true) : adjZ n n xs = if (cofL xs n).all numB then some (turnM (cofL xs n) n n) else none := by simp [adjZ, h]
theorem cofL_bad {xs : List Int} {n i j : Nat} (hi : i < n) (hj : j < n) (h : cofV xs n i j = badN) : (cofL xs n).all numB = false := by
  rw [Bool.eq_false_iff]
  intro ha
  have := num_getD ha (i * n + j)
  rw [cofL_at hi hj, h] at this
  unfold badN at this; omega
def cofOK (xs : List Int) (n i j : Nat) : Prop := ∀ a b, (a < i ∧ b < n) ∨ (a = i ∧ b < j) → numB (cofV xs n a b) = true
theorem cofOK.next {xs : List Int} {n i j : Nat} (h : cofOK xs n i j) (hv : numB (cofV xs n i j) = true) : cofOK xs n i (j + 1) := fun a b hab => by
  by_cases c : a = i ∧ b = j
  · rw [c.1, c.2]; exact hv
  · exact h a b (by omega)
theorem cofOK.row {xs : List Int} {n i : Nat} (h : cofOK xs n i n) : cofOK xs n (i + 1) 0 := fun a b hab => h a b (by omega)
theorem cofOK.all {xs : List Int} {n : Nat} (h : cofOK xs n n 0) : (cofL xs n).all numB = true := by
  rw [List.all_eq_true]
  intro x hx
  obtain ⟨p, hp, rfl⟩ := List.mem_map.1 hx
  have hp := List.mem_range.1 hp
  have hn : 0 < n := by
    rcases Nat.eq_zero_or_pos n with h | h
    · subst h; omega
    · exact h
  exact h _ _ (.inl ⟨div_lt_c hp, Nat.mod_lt _ hn⟩)
set_option maxRecDepth 100000 in
set_option maxHeartbeats 4000000 in
theorem d_adjI (r c : Int) (xs : List Int) (ca : Nat) (hl : xs.length ≤ 1099511627776) : Does Tryz.prog 136 [vM r c 1 xs.length ca] [(1, .ro (.ints xs))] 2 (GotZ r r 3 (adjZ r c xs) 2) := by
 refine Does.intro TT Tryz.func136 rfl (by kernel_rfl) Zz Zz fun E hE => ?_
 have hsq := d_sqI r c xs ca hl
 cases hs : sqB r c xs with
 | false =>
  rw [hs] at hsq
  ((repeat' (first | refine stx ?_ | refine zqc (hsq) ?_ | (refine stq ?_ ?_ <;> (intro hc; ((try simp at hc) <;> try contradiction))) | fail)) <;> try (exfalso; omega))
  all_goals exact fin rfl w_3 [] (.tup [.agg zeroM, .one (.bool false)]) [] 2 (GotZ.no (adjZ_no hs)) rfl ⟨trivial, trivial, rfl⟩ rfl
 | true =>
  rw [hs] at hsq
  obtain ⟨n, rfl, rfl, hn, hx, hnum⟩ := sqB_dims hs
  rw [adjZ_n hs]
  have hn24 : n ≤ 24 := by omega
  have hnn : n * n ≤ 36 := Nat.mul_le_mul hn hn
  ((repeat' (first | refine stx ?_ | refine zqc (hsq) ?_ | (refine w_C (d_newI _ _ hn24 hn24) Zz Zz Zz Zz Zz Zz Zz ft Zz Zz (NewM.out) ?_; rintro v b ⟨rfl, he, -⟩; cases he) | (refine stq ?_ ?_ <;> (intro hc; ((try simp at hc) <;> try contradiction))) | fail)) <;> try (exfalso; omega))
  refine w_G hE (fun i : Nat => i ≤ n ∧ cofOK xs n i 0) (fun i => n - i)
   (fun i => [(1, .one (.ptr 2 3 0 0)), (2, .one (.ptr 3 3 0 0)), (4, .one (.ptr 5 3 0 0)), (5, vI i)])
   (fun i => [(1, .ro (.ints xs)), (2, .own 26 1 (.lit [.int n, .int n, .sl 1 1 0 xs.length ca])), (3, .own 26 1 (.lit zeroM)), (4, .own 3 (n * n) (.ints (turnP (cofL xs n) n n i 0))), (5, .own 26 1 (.lit [.int n, .int n, .sl 4 1 0 (n * n) (n * n)]))]) 6 [] 0 ⟨Nat.zero_le _, fun a b h => by omega⟩ ⟨w_1, ⟨rfl, rfl, rfl, own_ints turnP_zero, rfl, trivial⟩, rfl⟩ ?_
  rintro i ⟨hi, hok⟩
  by_cases hin : i < n
  ·have hin2 : ¬ n ≤ i := by omega
   ((repeat' (first | refine stx ?_ | (refine stq ?_ ?_ <;> (intro hc; ((try simp at hc) <;> try contradiction))) | fail)) <;> try (exfalso; omega))
   refine w_G hE (fun j : Nat => j ≤ n ∧ cofOK xs n i j) (fun j => n - j)
    (fun j => [(1, .one (.ptr 2 3 0 0)), (2, .one (.ptr 3 3 0 0)), (4, .one (.ptr 5 3 0 0)), (5, vI i), (6, vI j)])
    (fun j => [(1, .ro (.ints xs)), (2, .own 26 1 (.lit [.int n, .int n, .sl 1 1 0 xs.length ca])), (3, .own 26 1 (.lit zeroM)), (4, .own 3 (n * n) (.ints (turnP (cofL xs n) n n i j))), (5, .own 26 1 (.lit [.int n, .int n, .sl 4 1 0 (n * n) (n * n)]))]) 6 [] 0 ⟨Nat.zero_le _, hok⟩ ⟨w_1, w_2, rfl⟩ ?_
   rintro j ⟨hj, hok⟩
   by_cases hjn : j < n
   ·have hjn2 : ¬ n ≤ j := by omega
    obtain ⟨m, hm⟩ : ∃ m, m + 1 = n := ⟨n - 1, by omega⟩
    have hmi := d_minIR m i j xs ca xs.length rfl (by omega) (by omega) (by omega) (by rw [hm]; exact hx) hl
    rw [hm] at hmi
    have hml : (minM xs n i j n).length = m * m := by
     have := minM_lenR (xs := xs) (n := m) (row := i) (col := j) (by omega) (i := m + 1)
     rw [if_pos (by omega), hm] at this
     rw [this, show n - 1 = m by omega]
    have hmn := minM_num hnum (c := n) (row := i) (col := j) (i := n)
    have hdt := fun cp => d_detI m (minM xs n i j n) (minM xs n i j n).length cp (by omega) rfl hml hmn
    have hcv : cofV xs n i j = (match detZ m (minM xs n i j n) with
     | some d => if (i + j) % 2 = 1 then -d else d
     | none => badN) := by unfold cofV; rw [show n - 1 = m by omega]
    have hca := cofL_at (xs := xs) hin hjn
    cases hd : detZ m (minM xs n i j n) with
    | none =>
     rw [hd] at hdt hcv
     rw [cofL_bad hin hjn hcv, if_neg (by simp)]
     ((repeat' (first | refine stx ?_ | (refine w_C (hmi) Zz Zz Zz Zz Zz Zz Zz ft Zz Zz (MinO.out) ?_; rintro v b ⟨cp, hcp, rfl, he, -⟩; cases he) | ((refine zqe (hdt _) ?_); rintro v Hout n1 ⟨rfl, rfl, d, rfl⟩) | (refine stq ?_ ?_ <;> (intro hc; ((try simp at hc) <;> try contradiction))) | fail)) <;> try (exfalso; omega))
     all_goals exact fin rfl w_3 [] (.tup [.agg zeroM, .one (.bool false)]) [] 2 (GotZ.no rfl) rfl ⟨trivial, trivial, rfl⟩ rfl
    | some d =>
     rw [hd] at hdt hcv
     have hdv := numB_true.1 (detZ_num hd)
     have hnv : numB (cofV xs n i j) = true := by
      rw [hcv]; dsimp only
      by_cases ho : (i + j) % 2 = 1
      ·rw [if_pos ho]; exact numB_true.2 ⟨by omega, by omega⟩
      ·rw [if_neg ho]; exact detZ_num hd
     have htm : ((i : Int) + j).tmod 2 = (((i + j) % 2 : Nat) : Int) := by rw [Int.tmod_eq_emod_of_nonneg (by omega)]; omega
     have hcell := cell_facts hjn hin hn24 hn24
     have hpl : (turnP (cofL xs n) n n i j).length = n * n := turnP_len
     have hset := fun x => d_set n n j i x (turnP (cofL xs n) n n i j) (n * n) (n * n) (n * n) hpl.symm (by omega) (by omega) (by omega) (by omega)
     have enx := turnP_set (xs := cofL xs n) (r := n) (c := n) (i := i) (j := j) hin
     rw [hca, hcv] at enx
     have ecl := cell_natD (p := j) (k := i) (c := n)
     dsimp only at enx
     by_cases hodd : (i + j) % 2 = 1
     ·rw [if_pos hodd] at enx
      have ho1 : ((i : Int) + j).tmod 2 = 1 := by omega
      ((repeat' (first | refine stx ?_ | (refine w_C (hmi) Zz Zz Zz Zz Zz Zz Zz ft Zz Zz (MinO.out) ?_; rintro v b ⟨cp, hcp, rfl, he, -⟩; cases he) | ((refine zqe (hdt _) ?_); rintro v Hout n1 ⟨rfl, rfl, rfl⟩) | ((refine zqe (hset _) ?_); rintro v Hout n1 ⟨rfl, rfl, rfl⟩) | (refine stq ?_ ?_ <;> (intro hc; ((try simp at hc) <;> try contradiction))) | fail)) <;> try (exfalso; omega))
      all_goals exact ⟨[], j + 1, ⟨hjn, hok.next hnv⟩, w_4, ⟨w_1, ⟨rfl, rfl, rfl, own_ints (by rw [← enx]; congr 1), rfl, trivial⟩, rfl⟩⟩
     ·rw [if_neg hodd] at enx
      have ho1 : ¬ ((i : Int) + j).tmod 2 = 1 := by omega
      ((repeat' (first | refine stx ?_ | (refine w_C (hmi) Zz Zz Zz Zz Zz Zz Zz ft Zz Zz (MinO.out) ?_; rintro v b ⟨cp, hcp, rfl, he, -⟩; cases he) | ((refine zqe (hdt _) ?_); rintro v Hout n1 ⟨rfl, rfl, rfl⟩) | ((refine zqe (hset _) ?_); rintro v Hout n1 ⟨rfl, rfl, rfl⟩) | (refine stq ?_ ?_ <;> (intro hc; ((try simp at hc) <;> try contradiction))) | fail)) <;> try (exfalso; omega))
      all_goals exact ⟨[], j + 1, ⟨hjn, hok.next hnv⟩, w_4, ⟨w_1, ⟨rfl, rfl, rfl, own_ints (by rw [← enx]; congr 1), rfl, trivial⟩, rfl⟩⟩
   ·obtain rfl : j = n := by omega
    ((repeat' (first | refine stx ?_ | (refine stq ?_ ?_ <;> (intro hc; ((try simp at hc) <;> try contradiction))) | fail)) <;> try (exfalso; omega))
    all_goals exact ⟨[], i + 1, ⟨hin, hok.row⟩, w_4, ⟨w_1, ⟨rfl, rfl, rfl, own_ints (turnP_row (fun p hp => div_lt_c hp)), rfl, trivial⟩, rfl⟩⟩
  ·obtain rfl : i = n := by omega
   rw [turnP_full, hok.all, if_pos rfl]
   have hlt : (turnM (cofL xs i) i i).length = i * i := turnM_len
   ((repeat' (first | refine stx ?_ | (refine stq ?_ ?_ <;> (intro hc; ((try simp at hc) <;> try contradiction))) | fail)) <;> try (exfalso; omega))
   all_goals exact fin rfl w_3 [(2, 4)] (doneV i i 2 (i * i) (i * i) true) [(2, .own 3 (i * i) (.ints (turnM (cofL xs i) i i)))] 3 (GotZ.yes rfl hlt.symm (Nat.le_refl _)) rfl ⟨trivial, ⟨rfl, trivial⟩, rfl⟩ rfl
end Go.Proofs.YtekpamojojfplaaGreat
namespace Go.Proofs.YtekpamojojfplaaGreat
open Go.RowKit
section
variable {P : Program} {tab : List (Nat × TD)} {E : Env} {N : Nat} {σ : St} {o : Oper} {c : Prop} {v : AV}
theorem own_storeN {ρ : Rho} {k : Nat} {w : World} {tb : TypeId} {cap o : Nat} {e e' : Elts} {vs : List SV} {p : Nat × Nat} (h : BlkOK ρ k w (.own tb cap e)) (hp : ρ k = some p) (s1 : e'.sz = e.sz) (s2 : e'.len = e.len) (s3 : o + vs.length ≤ e.len * e.sz) (s4 : e'.all = splice e.all o vs) :
    ∃ w', (storeCells (⟨p.1, p.2 + o, none⟩ : Addr) (cells ρ vs)).run P w = .ok () w' ∧ BlkOK ρ k w' (.own tb cap e') ∧ w.grownBy w' (some p.1) := by
  simp only [BlkOK] at h
  obtain ⟨hlen, h | ⟨g, cap', cur, hv, _, hg, hle, hmax, hcur, htake⟩⟩ := h
  · simp [adr, hp] at h
  · have hv2 : p.1 = g ∧ p.2 = 0 ∧ cap = cap' := by simpa [adr, hp, and_assoc] using hv
    obtain ⟨rfl, h0, rfl⟩ := hv2
    have hcl : (cells ρ e.all).length = e.len * e.sz := by simp [cells, Elts.all_len]
    have hmul2 : e.len * e.sz ≤ cap * e.sz := Nat.mul_le_mul_right _ hle
    have hfit : o + (cells ρ vs).length ≤ cur.size := by simp only [cells, List.length_map]; omega
    have hr := run_storeCells_at P p.1 o tb (cells ρ vs) 0 cur w hg (by simpa using hfit) (fun v hv => by
      obtain ⟨s, _, rfl⟩ := List.mem_map.1 hv; exact SV.oneCell)
    simp only [Nat.add_zero] at hr
    rw [h0, Nat.zero_add]
    refine ⟨_, hr, ?_, ⟨rfl, rfl, rfl, by simp, fun k' _ hk' => setRow_other w p.1 k' _ (fun e => hk' (by rw [e]))⟩⟩
    simp only [BlkOK]
    refine ⟨by rw [s1, s2]; simp [cells, s4, splice_len (show o + vs.length ≤ e.all.length by rw [Elts.all_len]; omega), Elts.all_len], .inr ⟨p.1, cap, _, by simp [adr, hp, h0, s2], Nat.zero_le _, setRow_heap w p.1 cur _ tb _ hg, by rw [s2]; exact hle, hmax, ?_, ?_⟩⟩
    · simp only [cells, List.length_map] at hfit
      simp only [List.size_toArray, List.length_append, List.length_take, List.length_drop, Array.length_toList, s1, cells, List.length_map]
      omega
    · rw [s1, s2, s4]
      simp only [splice, cells, List.map_append, List.map_take, List.map_drop]
      rw [show (e.all.map (SV.conc ρ)) = cur.toList.take (e.len * e.sz) from htake.symm]
      apply List.ext_getElem?
      intro n
      simp only [cells, List.length_map] at hfit
      rw [List.getElem?_take]
      have hct : cur.toList.length = cur.size := Array.length_toList
      by_cases hn : n < e.len * e.sz
      · rw [if_pos hn]
        by_cases c1 : n < o
        · rw [List.append_assoc, List.getElem?_append_left (by simp; omega), List.append_assoc, List.getElem?_append_left (by simp; omega)]
          simp only [List.getElem?_take]
          rw [if_pos c1, if_pos c1, if_pos hn]
        · by_cases c2 : n < o + vs.length
          · rw [List.append_assoc, List.getElem?_append_right (by simp; omega), List.getElem?_append_left (by simp; omega)]
            rw [List.append_assoc, List.getElem?_append_right (by simp; omega), List.getElem?_append_left (by simp; omega)]
            congr 1
            simp only [List.length_take]
            omega
          · rw [List.getElem?_append_right (by simp; omega), List.getElem?_append_right (by simp; omega)]
            simp only [List.length_append, List.length_take, List.length_map, List.getElem?_drop, List.getElem?_take]
            rw [if_pos (by omega)]
            congr 1
            omega
      · rw [if_neg hn]
        symm
        apply List.getElem?_eq_none
        simp only [List.length_append, List.length_take, List.length_map, List.length_drop]
        omega
def cpL (l : List Int) (o1 n : Nat) (l2 : List Int) (o2 m : Nat) : List Int := l.take o1 ++ (l2.drop o2).take (Nat.min m n) ++ l.drop (o1 + Nat.min m n)
def sCopy (tab : List (Nat × TD)) (fr : Nat → Option AV) (H : Nat → Option Blk) (t : TypeId) (x y : Operand) : Option (Prop × AV × (Nat → Option Blk)) := match tget tab t, ev fr x, ev fr y with
  | some d, some (.one (.sl k 1 o1 n _)), some (.one (.sl k2 1 o2 m _)) => match d.kind, H k, eltsAt H k2 with
    | .sl et, some (.own tb cap (.ints l)), some (.ints l2) => match tget tab et with
      | some d' => match Nat.beq d'.size 1 with
        | true => some (o1 + n ≤ l.length ∧ o2 + m ≤ l2.length, vI (Nat.min m n : Nat), upd H k (.own tb cap (.ints (cpL l o1 n l2 o2 m))))
        | false => none
      | none => none
    | _, _, _ => none
  | _, _, _ => none
theorem sCopy_sound (hT : Tab P tab) {t : TypeId} {x y : Operand} (ho : o.op = .call ⟨.builtin .copy, #[x, y], #[t, t]⟩) {H' : Nat → Option Blk} (h : sCopy tab σ.fr σ.H t x y = some (c, v, H')) (hc : c) : OpR P o E N σ (det v H' σ.nx) :=
  .of_run fun ρ a w hI => by
    unfold sCopy at h
    split at h
    · rename_i d k o1 n cp1 k2 o2 m cp2 hd hx hy
      split at h
      · rename_i et tb cap l l2 hk hH he2
        split at h
        · rename_i d' hd'
          split at h
          · rename_i hb1
            have hb1 := Nat.eq_of_beq_eq_true hb1
            cases h
            obtain ⟨c1, c2⟩ := hc
            obtain ⟨h1, _⟩ := ev_sound hI.f hI.h.nil hI.h.hb.pos hx
            obtain ⟨h2, _⟩ := ev_sound hI.f hI.h.nil hI.h.hb.pos hy
            obtain ⟨i, hi, hiz, his, hib⟩ := (hT.ok et d' hd').infoE
            have hu := (hT.ok t d hd).slice hk
            have h1' : a.eval x = .slice (adr ρ k (o1 * 1)) n cp1 := h1
            have h2' : a.eval y = .slice (adr ρ k2 (o2 * 1)) m cp2 := h2
            rw [Nat.mul_one] at h1' h2'
            have hrun : ∀ w', (Builtin.copy_ #[t, t] o.type #[.slice (adr ρ k o1) n cp1, .slice (adr ρ k2 o2) m cp2]).run P w = .ok (goInt (Nat.min m n)) w' → (execOp a.eval o).run P w = .ok (.value ((vI (Nat.min m n : Nat)).conc ρ)) w' := fun w' hr => by
              simp only [execOp, ho, resolve]
              simp only [List.map_toArray, List.map_cons, List.map_nil, Sem.run_bind, Sem.run_pure, Result.andThen_ok, invoke, builtin, h1', h2', hr]
              rfl
            have hlen : (cpL l o1 n l2 o2 m).length = l.length := by
              have e1 : Nat.min m n ≤ m := Nat.min_le_left _ _
              have e2 : Nat.min m n ≤ n := Nat.min_le_right _ _
              rw [cpL, List.length_append, List.length_append, List.length_take, List.length_take, List.length_drop, List.length_drop]; omega
            rcases Nat.eq_zero_or_pos (Nat.min m n) with h0 | hpos
            · have hl : cpL l o1 n l2 o2 m = l := by rw [cpL, h0, List.take_zero, List.append_nil, Nat.add_zero, List.take_append_drop]
              have hup : upd σ.H k (.own tb cap (.ints (cpL l o1 n l2 o2 m))) = σ.H := by
                rw [hl]
                funext j
                by_cases e : j = k
                · subst e; rw [upd_same, hH]
                · rw [upd_ne e]
              refine ⟨ρ, w, vI (Nat.min m n : Nat), _, σ.nx, hrun w ?_, ⟨rfl, rfl, rfl⟩, by rw [hup]; exact hI.h, fun _ _ => rfl, Nat.le_refl _, fun k hk => by simp [AV.keys, SV.keys, vI] at hk⟩
              have hlc : ∀ (x : Addr), (loadCells x 0).run P w = .ok #[] w := fun x => by simpa using run_loadCells_list (P := P) w x [] (by simp)
              have his1 : i.size = 1 := by rw [his]; exact hb1
              cases adr ρ k o1 <;> cases adr ρ k2 o2 <;> simp [Builtin.copy_, run_underlying hu, Builtin.lenOf, Builtin.firstCells, sizeOf, typeInfo, hi, his1, h0, storeCells, hlc]
            · have e1 : Nat.min m n ≤ m := Nat.min_le_left _ _
              have e2 : Nat.min m n ≤ n := Nat.min_le_right _ _
              have hb := hI.h.blk k _ hH
              obtain ⟨p, hp, _⟩ := hb.at_ (e := .ints l) rfl (by simp only [Elts.len]; omega)
              obtain ⟨p2, hp2, hcell⟩ := eltsAt_sound hI.h.hb he2 (by simp only [Elts.len]; omega)
              have hvl : (((l2.drop o2).take (Nat.min m n)).map SV.int).length = Nat.min m n := by
                rw [List.length_map, List.length_take, List.length_drop]; omega
              obtain ⟨w', hr, hb', hg⟩ := own_storeN (P := P) (o := o1) (e' := .ints (cpL l o1 n l2 o2 m)) (vs := ((l2.drop o2).take (Nat.min m n)).map SV.int) hb hp rfl hlen (by rw [hvl]; simp only [Elts.len, Elts.sz]; omega) (by
                simp only [Elts.all, splice, cpL, List.map_append, List.map_take, List.map_drop]
                rw [show (List.take (Nat.min m n) (List.drop o2 (List.map SV.int l2))).length = Nat.min m n by rw [List.length_take, List.length_drop, List.length_map]; omega])
              refine ⟨ρ, w', vI (Nat.min m n : Nat), _, σ.nx, hrun w' ?_, ⟨rfl, rfl, rfl⟩, hI.h.over hH hp hg hb' (fun k' hk' => by simp [Elts.keys, Elts.all, ints_keys] at hk') (fun x hx => nomatch hx) (fun k1 b1 q g _ _ _ hf => by obtain ⟨x, hx, _⟩ := hf; cases hx), fun _ _ => rfl, Nat.le_refl _, fun k hk => by simp [AV.keys, SV.keys, vI] at hk⟩
              have hld := run_loadCells_list (P := P) w ⟨p2.1, p2.2 + o2, none⟩ (cells ρ (((l2.drop o2).take (Nat.min m n)).map SV.int)) (fun j v hv => by
                rw [Addr.add_none]
                simp only [cells, List.getElem?_map, Option.map_eq_some_iff] at hv
                obtain ⟨s, ⟨u, hu, rfl⟩, rfl⟩ := hv
                rw [List.getElem?_take] at hu
                split at hu
                · rw [List.getElem?_drop] at hu
                  have := hcell (o2 + j) (.int u) (by simp only [Elts.all, List.getElem?_map, hu, Option.map_some])
                  rw [← this, Nat.add_assoc]
                · cases hu)
              have his1 : i.size = 1 := by rw [his]; exact hb1
              have hcl : (cells ρ (((l2.drop o2).take (Nat.min m n)).map SV.int)).length = Nat.min m n := by rw [cells, List.length_map]; exact hvl
              rw [hcl] at hld
              have a1 : adr ρ k o1 = some ⟨p.1, p.2 + o1, none⟩ := by simp [adr, hp]
              have a2 : adr ρ k2 o2 = some ⟨p2.1, p2.2 + o2, none⟩ := by simp [adr, hp2]
              rw [a1, a2]
              rw [List.map_take, List.map_drop] at hr
              simp [Builtin.copy_, run_underlying hu, Builtin.lenOf, Builtin.firstCells, sizeOf, typeInfo, hi, his1, hld, hr]
          · cases h
        · cases h
      · cases h
    · cases h
end
section
variable {P : Program} {tab : List (Nat × TD)} {E : Env} {N : Nat} {Q : Post} {fr : Nat → Option AV} {H : Nat → Option Blk} {nx : Nat} {l0 rest : List Oper} {ρs : Rho} {nxs : Nat} {hs : List (Nat × Blk)} {fuel : Nat} {listed : Array Bool} {o : Oper} {c : Prop} {v : AV} {t : TypeId} {x y : Operand} {H' : Nat → Option Blk} {d : Nat}
theorem awpHop_copy (hT : Tab P tab) (i : Nat) (hi : nth l0 i = some o) (ho : o.op = .call ⟨.builtin .copy, #[x, y], #[t, t]⟩) (hdst : o.dst = some d) (hw : wantA l0 fr o = some true) (hd : inFrame N o.dst = true) (hs' : sCopy tab fr H t x y = some (c, v, H')) (hc : c) (hsub : SubB H' hs) (hk : keysB nxs hs = true)
    (h : awpH P E N l0 Q ρs nxs hs fuel (listed.setIfInBounds i true) ⟨upd fr d v, H', nx⟩) : awpHop P E N l0 Q ρs nxs hs fuel listed i ⟨fr, H, nx⟩ :=
  awpHop_op i hi hw hd hk (sCopy_sound (σ := ⟨fr, H, nx⟩) hT ho hs' hc) fun _ _ _ ⟨e1, e2, e3⟩ => by subst e1 e2 e3; exact ⟨hsub, by rw [hdst]; exact h⟩
end
end Go.Proofs.YtekpamojojfplaaGreat
namespace Go.Proofs.YtekpamojojfplaaGreat
def ldR (xs : List Int) (c k i : Nat) : List Int := (List.range i).flatMap fun p => (xs.drop (p * c)).take k
theorem ldR_next {xs : List Int} {c k i : Nat} : ldR xs c k (i + 1) = ldR xs c k i ++ (xs.drop (i * c)).take k := by simp [ldR, List.range_succ]
theorem ldR_len {xs : List Int} {c k : Nat} (hk : k ≤ c) : ∀ {i : Nat}, i * c ≤ xs.length → (ldR xs c k i).length = i * k
  | 0, _ => by simp [ldR]
  | i + 1, h => by
    rw [Nat.succ_mul] at h
    rw [ldR_next, List.length_append, ldR_len hk (by omega), List.length_take, List.length_drop, Nat.succ_mul]; omega
def ldM (xs : List Int) (c k i : Nat) : List Int := ldR xs c k i ++ List.replicate ((k - i) * k) 0
theorem ldM_len {xs : List Int} {c k i : Nat} (hk : k ≤ c) (hi : i ≤ k) (hx : i * c ≤ xs.length) : (ldM xs c k i).length = k * k := by
  rw [ldM, List.length_append, ldR_len hk hx, List.length_replicate, ← Nat.add_mul, Nat.add_sub_cancel' hi]
theorem ldM_copy {xs : List Int} {c k i : Nat} (hk : k ≤ c) (hi : i < k) (hx : (i + 1) * c ≤ xs.length) : cpL (ldM xs c k i) (i * k) k xs (i * c) k = ldM xs c k (i + 1) := by
  have h1 : i * c ≤ xs.length := by rw [Nat.succ_mul] at hx; omega
  have hl := ldR_len hk h1
  have e : (k - i) * k = k + (k - (i + 1)) * k := by
    rw [show k - i = (k - (i + 1)) + 1 by omega, Nat.succ_mul]; omega
  rw [cpL, show Nat.min k k = k from Nat.min_self k, ldM, ldM, ldR_next]
  congr 1
  · rw [List.take_append_of_le_length (by omega), List.take_of_length_le (by omega)]
  · rw [List.drop_append, List.drop_of_length_le (by omega), List.nil_append, hl, e, Nat.add_sub_cancel_left, List.drop_replicate, Nat.add_sub_cancel_left]
theorem ldM_full {xs : List Int} {c k : Nat} : ldM xs c k k = ldR xs c k k := by simp [ldM]
theorem ldM_zero {xs : List Int} {c k : Nat} : ldM xs c k 0 = List.replicate (k * k) 0 := by simp [ldM, ldR]
theorem ldR_num {xs : List Int} {c k i : Nat} (h : xs.all numB = true) : (ldR xs c k i).all numB = true := by
  rw [List.all_eq_true]
  intro x hx
  obtain ⟨p, _, hp⟩ := List.mem_flatMap.1 hx
  exact List.all_eq_true.1 h x (List.mem_of_mem_drop (List.mem_of_mem_take hp))
def leadTo (xs : List Int) (c : Nat) : Nat → Option (List Int)
  | 0 => some []
  | k + 1 => (leadTo xs c k).bind fun l => (detZ (k + 1) (ldR xs c (k + 1) (k + 1))).map fun d => l ++ [d]
theorem leadTo_len {xs : List Int} {c : Nat} : ∀ {k : Nat} {l : List Int}, leadTo xs c k = some l → l.length = k
  | 0, l, h => by cases h; rfl
  | k + 1, l, h => by
    rw [leadTo, Option.bind_eq_some_iff] at h
    obtain ⟨l0, h1, h2⟩ := h
    obtain ⟨d, h3, rfl⟩ := Option.map_eq_some_iff.1 h2
    rw [List.length_append, leadTo_len h1]; rfl
theorem leadTo_none {xs : List Int} {c k : Nat} (h : leadTo xs c k = none) : ∀ m, leadTo xs c (k + m) = none
  | 0 => h
  | m + 1 => by rw [← Nat.add_assoc, leadTo, leadTo_none h m]; rfl
def leadO (r c : Int) (xs : List Int) : Option (List Int) := if sqB r c xs then leadTo xs c.toNat r.toNat else none
end Go.Proofs.YtekpamojojfplaaGreat
