/-
  PLAIN LAW: the forms of a discriminant are a group: powers, orders, and the number of forms.
-/
import Derived.Test.YtbaaelampabhdaapComp2
set_option linter.unusedVariables false
set_option linter.unusedSimpArgs false
namespace Go.Proofs.Ytbaaelampabhdaa

def princF (d : Int) : F3 := (1, d % 2, (d % 2 - d).tdiv 4)
theorem cls_princ {d : Int} (h : discB d = true) : Cls d (princF d) := by
  obtain ⟨h1, h2, h3⟩ := discB_true.1 h
  have e1 : ∃ c, d % 2 - d = c * 4 ∧ 1 ≤ c ∧ c ≤ 300 := by
    refine ⟨(d % 2 - d) / 4, ?_, ?_, ?_⟩ <;> omega
  obtain ⟨c, hc, hc1, hc2⟩ := e1
  have e2 : (d % 2 - d).tdiv 4 = c := by rw [hc, Int.mul_tdiv_cancel _ (by omega)]
  have e3 : d % 2 = 0 ∨ d % 2 = 1 := by omega
  have e4 : d % 2 * (d % 2) = d % 2 := by rcases e3 with q | q <;> rw [q] <;> rfl
  unfold princF
  rw [e2]
  generalize d % 2 = b at *
  refine ⟨?_, ⟨by dsimp only; omega, ?_⟩, fun e k _ _ => k, ?_⟩
  · simp only [low3, lowB, decide_eq_true_eq]; omega
  · simp only [discF]; omega
  · simp only [discF]; omega
theorem stepF_mem {d a b : Int} {f : F3} : f ∈ stepF d a b ↔ f = (a, b, (b * b - d).tdiv (4 * a)) ∧ (b * b - d).tmod (4 * a) = 0 ∧ lowB f.1 f.2.1 f.2.2 = true ∧ primB f.1 f.2.1 f.2.2 = true := by
  unfold stepF
  split
  · rename_i h
    rw [List.mem_singleton]
    constructor
    · rintro rfl; exact ⟨rfl, h⟩
    · rintro ⟨rfl, _⟩; rfl
  · rename_i h
    constructor
    · intro q; cases q
    · rintro ⟨rfl, q⟩; exact absurd q h
theorem rowF_mem {d a : Int} {f : F3} : ∀ {k : Nat}, f ∈ rowF d a k ↔ f ∈ stepF d a f.2.1 ∧ -a ≤ f.2.1 ∧ f.2.1 < -a + k
  | 0 => by
    simp only [rowF, List.not_mem_nil, false_iff]
    omega
  | k + 1 => by
    rw [rowF, List.mem_append, rowF_mem (k := k)]
    constructor
    · rintro (⟨h1, h2, h3⟩ | h)
      · exact ⟨h1, h2, by omega⟩
      · have e := (stepF_mem.1 h).1
        have e2 : f.2.1 = -a + k := by rw [e]
        rw [e2]
        exact ⟨h, by omega, by omega⟩
    · rintro ⟨h1, h2, h3⟩
      by_cases c : f.2.1 < -a + k
      · exact .inl ⟨h1, h2, c⟩
      · right
        rw [show -a + (k : Int) = f.2.1 by omega]; exact h1
theorem stepF_nodup {d a b : Int} : (stepF d a b).Nodup := by unfold stepF; split <;> simp
theorem rowF_nodup {d a : Int} : ∀ {k : Nat}, (rowF d a k).Nodup
  | 0 => List.nodup_nil
  | k + 1 => by
    rw [rowF, List.nodup_append]
    refine ⟨rowF_nodup, stepF_nodup, fun x hx y hy e => ?_⟩
    subst e
    have h1 := (rowF_mem.1 hx).2.2
    have h2 := (stepF_mem.1 hy).1
    rw [h2] at h1
    dsimp only at h1; omega
theorem allF_mem {d : Int} {f : F3} : ∀ {i : Nat}, f ∈ allF d i ↔ f ∈ stepF d f.1 f.2.1 ∧ (1 ≤ f.1 ∧ f.1 ≤ i) ∧ -f.1 ≤ f.2.1 ∧ f.2.1 ≤ f.1
  | 0 => by
    simp only [allF, List.not_mem_nil, false_iff]
    omega
  | i + 1 => by
    rw [allF, List.mem_append, allF_mem (i := i), rowF_mem]
    constructor
    · rintro (⟨h1, h2, h3⟩ | ⟨h1, h2, h3⟩)
      · exact ⟨h1, by omega, h3⟩
      · have e := (stepF_mem.1 h1).1
        have e2 : f.1 = (i : Int) + 1 := congrArg Prod.fst e
        rw [e2]
        exact ⟨h1, by omega, by omega, by omega⟩
    · rintro ⟨h1, h2, h3⟩
      by_cases c : f.1 ≤ i
      · exact .inl ⟨h1, by omega, h3⟩
      · right
        have e2 : f.1 = (i : Int) + 1 := by omega
        rw [← e2]
        exact ⟨h1, by omega, by omega⟩
theorem allF_nodup {d : Int} : ∀ {i : Nat}, (allF d i).Nodup
  | 0 => List.nodup_nil
  | i + 1 => by
    rw [allF, List.nodup_append]
    refine ⟨allF_nodup, rowF_nodup, fun x hx y hy e => ?_⟩
    subst e
    have h1 := (allF_mem.1 hx).2.1.2
    have h2 := (stepF_mem.1 (rowF_mem.1 hy).1).1
    have e2 : x.1 = (i : Int) + 1 := congrArg Prod.fst h2
    omega
/-- the list has the reduced primitive forms -/
theorem mem_forms {d : Int} (hd : discB d = true) {N : Nat} (hN : Upto d N) {f : F3} : f ∈ allF d N ↔ Cls d f := by
  obtain ⟨h1, h2, h3⟩ := discB_true.1 hd
  rw [allF_mem]
  constructor
  · rintro ⟨q1, ⟨q2, q3⟩, q4, q5⟩
    obtain ⟨e1, e2, e3, e4⟩ := stepF_mem.1 q1
    have hp := e4
    simp only [Go.Proofs.Ytbaaelampabhdaa.primB, Bool.and_eq_true, decide_eq_true_eq] at hp
    obtain ⟨p1, p2⟩ := hp
    have s := Small.of p1
    have hdis : discF f = d := by
      have k1 := Int.tmod_add_mul_tdiv (f.2.1 * f.2.1 - d) (4 * f.1)
      have k2 : f.2.2 = (f.2.1 * f.2.1 - d).tdiv (4 * f.1) := congrArg (fun x => x.2.2) e1
      rw [e2, ← k2] at k1
      simp only [discF]; omega
    refine ⟨e3, ⟨q2, by omega⟩, Prim_gcd.2 p2, hdis⟩
  · intro h
    obtain ⟨b1, b2, b3, b4, b5, b6⟩ := low_bd h h1
    obtain ⟨l1, l2, l3, l4, l5⟩ := low3_true (a := f.1) (b := f.2.1) (c := f.2.2) h.low
    have hdis := h.disc
    simp only [discF] at hdis
    have k0 : f.2.1 * f.2.1 - d = f.2.2 * (4 * f.1) := by rw [Int.mul_comm f.2.2]; omega
    have k1 : (f.2.1 * f.2.1 - d).tmod (4 * f.1) = 0 := by rw [k0]; exact Int.mul_tmod_left _ _
    have k2 : (f.2.1 * f.2.1 - d).tdiv (4 * f.1) = f.2.2 := by rw [k0, Int.mul_tdiv_cancel _ (by omega)]
    refine ⟨stepF_mem.2 ⟨by rw [k2], k1, h.low, h.primB h1⟩, ⟨b1, ?_⟩, l1, l2⟩
    rcases Int.lt_or_le (N : Int) f.1 with c | c
    · exfalso
      apply hN.at_
      have bb := sq_abs_le l1 l2
      have ac := Int.mul_le_mul_of_nonneg_left l3 (show 0 ≤ f.1 by omega)
      have e4 : 4 * f.1 * f.2.2 = 4 * (f.1 * f.2.2) := Int.mul_assoc 4 _ _
      have := Int.mul_le_mul (a := (N : Int) + 1) (b := (N : Int) + 1) (c := f.1) (d := f.1) (by omega) (by omega) (by omega) (by omega)
      have e5 : 3 * ((N : Int) + 1) * ((N : Int) + 1) = 3 * (((N : Int) + 1) * ((N : Int) + 1)) := Int.mul_assoc 3 _ _
      omega
    · exact c
theorem compR_cls {d : Int} {x f : F3} (hx : Cls d x) (hf : Pos f) (pf : Prim f) (df : discF f = d) : Comp x f (compR x f) ∧ Cls d (compR x f) := by
  have := compR_ok hx.pos hf hx.prim pf (by rw [hx.disc, df])
  rw [hx.disc] at this; exact this
theorem compR_inj {d : Int} {x y f : F3} (hx : Cls d x) (hy : Cls d y) (hf : Pos f) (pf : Prim f) (df : discF f = d) (h : compR x f = compR y f) : x = y := by
  have c1 := (compR_cls hx hf pf df).1
  have c2 := (compR_cls hy hf pf df).1
  rw [← h] at c2
  exact hx.one hy (Comp.cancel hx.pos hy.pos hf hx.prim hy.prim pf c1 c2)
theorem compR_id {d : Int} (hd : discB d = true) {f g : F3} (hf : Pos f) (pf : Prim f) (df : discF f = d) (e : Eqv f g) (hg : Cls d g) : compR (princF d) f = g := by
  have hp := cls_princ hd
  have c := Comp.id_ex (a := f.1) (b := f.2.1) (c := f.2.2) (p := (princF d).2.1) (q := (princF d).2.2) hf.1 (hp.disc.trans df.symm)
  exact compR_eq hf pf (c.comm.congr (Eqv.refl _) (Eqv.refl _) e) hg.low hg.pos
theorem compR_congr {d : Int} {x f g : F3} (hx : Cls d x) (hf : Pos f) (pf : Prim f) (df : discF f = d) (e : Eqv f g) : compR x g = compR x f := by
  obtain ⟨c, k⟩ := compR_cls hx hf pf df
  exact compR_eq (hf.eqv e) (pf.eqv e) (c.congr (Eqv.refl _) e (Eqv.refl _)) k.low k.pos
noncomputable def powF (d : Int) (f : F3) (n : Nat) : F3 := iterT (fun x => compR x f) n (princF d)
theorem pow_cls {d : Int} (hd : discB d = true) {f : F3} (hf : Pos f) (pf : Prim f) (df : discF f = d) : ∀ n, Cls d (powF d f n)
  | 0 => cls_princ hd
  | n + 1 => (compR_cls (pow_cls hd hf pf df n) hf pf df).2
/-- how often a form must be composed -/
structure OrdTo (d : Int) (f : F3) (n : Nat) : Prop where
  pos : 1 ≤ n
  at_ : powF d f n = princF d
  below : ∀ k, 1 ≤ k → k < n → powF d f k ≠ princF d
theorem ord_ex {d : Int} (hd : discB d = true) {f : F3} (hf : Pos f) (pf : Prim f) (df : discF f = d) {N : Nat} (hN : Upto d N) : ∃ n, n ≤ (allF d N).length ∧ OrdTo d f n := by
  obtain ⟨n, h1, h2, h3, h4⟩ := orbit (l := allF d N) (T := fun x => compR x f) (x := princF d)
    (fun x hx => (mem_forms hd hN).2 (compR_cls ((mem_forms hd hN).1 hx) hf pf df).2)
    (fun x hx y hy h => compR_inj ((mem_forms hd hN).1 hx) ((mem_forms hd hN).1 hy) hf pf df h) ((mem_forms hd hN).2 (cls_princ hd))
  exact ⟨n, h2, h1, h3, h4⟩
/-- what n compositions with f do to x, told by the n-th power -/
theorem iter_pow {d : Int} (hd : discB d = true) {f x : F3} (hf : Pos f) (pf : Prim f) (df : discF f = d) (hx : Cls d x) : ∀ n, Cls d (iterT (fun x => compR x f) n x) ∧ Comp x (powF d f n) (iterT (fun x => compR x f) n x)
  | 0 => by
    refine ⟨hx, ?_⟩
    have hp := cls_princ hd
    exact Comp.id_ex (a := x.1) (b := x.2.1) (c := x.2.2) (p := (princF d).2.1) (q := (princF d).2.2) hx.pos.1 (hp.disc.trans hx.disc.symm)
  | n + 1 => by
    obtain ⟨h1, h2⟩ := iter_pow hd hf pf df hx n
    obtain ⟨c1, k1⟩ := compR_cls h1 hf pf df
    have hp := pow_cls hd hf pf df n
    obtain ⟨c2, k2⟩ := compR_cls hp hf pf df
    refine ⟨k1, ?_⟩
    obtain ⟨w, cw⟩ := Comp.ex hx.pos k2.pos k2.prim (by rw [hx.disc, k2.disc])
    have := Comp.assoc hx.pos hp.pos hf hx.prim hp.prim pf h2 c1 c2 cw
    exact cw.congr (Eqv.refl _) (Eqv.refl _) this.symm
theorem back_iff {d : Int} (hd : discB d = true) {f x : F3} (hf : Pos f) (pf : Prim f) (df : discF f = d) (hx : Cls d x) (n : Nat) : iterT (fun x => compR x f) n x = x ↔ powF d f n = princF d := by
  obtain ⟨h1, h2⟩ := iter_pow hd hf pf df hx n
  have hp := pow_cls hd hf pf df n
  have h0 := (iter_pow hd hf pf df hx 0).2
  have q := cls_princ hd
  constructor
  · intro e
    rw [e] at h2
    exact hp.one q (Comp.cancel hp.pos q.pos hx.pos hp.prim q.prim hx.prim h2.comm h0.comm)
  · intro e
    rw [e] at h2
    exact h1.one hx (h2.uniq h0 q.prim q.pos)
/-- the order of a form divides the number of the forms -/
theorem ord_dvd {d : Int} (hd : discB d = true) {f : F3} (hf : Pos f) (pf : Prim f) (df : discF f = d) {N n : Nat} (hN : Upto d N) (h : OrdTo d f n) : n ∣ (allF d N).length := by
  refine lagr (T := fun x => compR x f) h.pos _ _ (Nat.le_refl _) allF_nodup (fun x hx => (mem_forms hd hN).2 (compR_cls ((mem_forms hd hN).1 hx) hf pf df).2)
    (fun x hx y hy h => compR_inj ((mem_forms hd hN).1 hx) ((mem_forms hd hN).1 hy) hf pf df h) (fun x hx => ?_) (fun x hx k k1 k2 e => ?_)
  · exact (back_iff hd hf pf df ((mem_forms hd hN).1 hx) n).2 h.at_
  · exact h.below k k1 k2 ((back_iff hd hf pf df ((mem_forms hd hN).1 hx) k).1 e)
end Go.Proofs.Ytbaaelampabhdaa
