/-
  TEXTS OF THE PROOF, put together: bNum, Slice, bSlice.
-/
import Derived.Test.YtfkbjkmlpinoeaaGreatM06
import Derived.Test.YtfkbjkmlpinoeaaGreatM07
import Derived.OwnWalk
import Derived.Laws.OwnMore
import Derived.ChangeSlices
import Derived.WideShapes
set_option linter.unusedVariables false
set_option linter.unusedSimpArgs false
/-
  CONTRACTS: the number functions of both packages.
-/
namespace Go.Proofs.YtfkbjkmlpinoeaaGreat
open Go.RowKit

theorem d_absInt (n : Int) (h1 : -9223372036854775807 ≤ n) (h2 : n ≤ 9223372036854775807) : Does Tryz.prog 89 [vI n] [] 1 (Ret (vI n.natAbs) 1) := by
  refine Does.intro TT Tryz.func89 rfl (by kernel_rfl) rfl rfl fun E hE => ?_
  (repeat' (first | refine w_a TT rfl rfl rfl sd ?_ | refine w_b ?_ | refine w_c rfl rfl ?_ | refine w_d TT rfl rfl rfl rfl sd ?_ | refine w_e ?_ | refine w_f rfl rfl ?_ | refine w_g ?_ | refine w_h ?_ | refine w_i ?_ | refine w_j ?_ | refine w_k ?_ | refine w_l ?_ | refine w_m rfl ?_ | refine w_n rfl ?_ | refine w_o TM rfl kr ?_ | ((first | refine w_p rfl rfl rfl (fun hc => ?_) (fun hc => ?_) | refine w_q rfl rfl rfl (fun hc => ?_) (fun hc => ?_) | refine w_r rfl (fun hc => ?_) (fun hc => ?_)) <;> ((try simp at hc) <;> try contradiction))))
  all_goals refine fin_ret rfl trivial (congrArg vI ?_) rfl
  all_goals omega
theorem d_l1Abs (n : Int) (h1 : -9223372036854775807 ≤ n) (h2 : n ≤ 9223372036854775807) : Does Tryz.prog 86 [vI n] [] 1 (Ret (vI n.natAbs) 1) := by
  refine Does.intro TT Tryz.func86 rfl (by kernel_rfl) rfl rfl fun E hE => ?_
  (repeat' (first | refine w_a TT rfl rfl rfl sd ?_ | refine w_b ?_ | refine w_c rfl rfl ?_ | refine w_d TT rfl rfl rfl rfl sd ?_ | refine w_e ?_ | refine w_f rfl rfl ?_ | refine w_g ?_ | refine w_h ?_ | refine w_i ?_ | refine w_j ?_ | refine w_k ?_ | refine w_l ?_ | refine w_m rfl ?_ | refine w_n rfl ?_ | refine w_o TM rfl kr ?_ | ((first | refine w_p rfl rfl rfl (fun hc => ?_) (fun hc => ?_) | refine w_q rfl rfl rfl (fun hc => ?_) (fun hc => ?_) | refine w_r rfl (fun hc => ?_) (fun hc => ?_)) <;> ((try simp at hc) <;> try contradiction))))
  all_goals refine fin_ret rfl trivial (congrArg vI ?_) rfl
  all_goals omega
theorem d_numI (n : Int) : Does Tryz.prog 107 [vI n] [] 1 (Ret (vB (numB n)) 1) := by
  refine Does.intro TT Tryz.func107 rfl (by kernel_rfl) rfl rfl fun E hE => ?_
  (repeat' (first | refine w_a TT rfl rfl rfl sd ?_ | refine w_b ?_ | refine w_c rfl rfl ?_ | refine w_d TT rfl rfl rfl rfl sd ?_ | refine w_e ?_ | refine w_f rfl rfl ?_ | refine w_g ?_ | refine w_h ?_ | refine w_i ?_ | refine w_j ?_ | refine w_k ?_ | refine w_l ?_ | refine w_m rfl ?_ | refine w_n rfl ?_ | refine w_o TM rfl kr ?_ | ((first | refine w_p rfl rfl rfl (fun hc => ?_) (fun hc => ?_) | refine w_q rfl rfl rfl (fun hc => ?_) (fun hc => ?_) | refine w_r rfl (fun hc => ?_) (fun hc => ?_)) <;> ((try simp at hc) <;> try contradiction))))
  all_goals refine fin_ret rfl trivial (congrArg vB ?_) rfl
  all_goals simp [numB]; omega
theorem d_l1In (a b c : Int) : Does Tryz.prog 140 [vI a, vI b, vI c] [] 1 (Ret (vB (inB a b c)) 1) := by
  refine Does.intro TT Tryz.func140 rfl (by kernel_rfl) rfl rfl fun E hE => ?_
  (repeat' (first | refine w_a TT rfl rfl rfl sd ?_ | refine w_b ?_ | refine w_c rfl rfl ?_ | refine w_d TT rfl rfl rfl rfl sd ?_ | refine w_e ?_ | refine w_f rfl rfl ?_ | refine w_g ?_ | refine w_h ?_ | refine w_i ?_ | refine w_j ?_ | refine w_k ?_ | refine w_l ?_ | refine w_m rfl ?_ | refine w_n rfl ?_ | refine w_o TM rfl kr ?_ | ((first | refine w_p rfl rfl rfl (fun hc => ?_) (fun hc => ?_) | refine w_q rfl rfl rfl (fun hc => ?_) (fun hc => ?_) | refine w_r rfl (fun hc => ?_) (fun hc => ?_)) <;> ((try simp at hc) <;> try contradiction))))
  all_goals refine fin_ret rfl trivial (congrArg vB ?_) rfl
  all_goals simp [inB]; try omega
theorem d_numS (n : Int) : Does Tryz.prog 141 [vI n] [] 1 (Ret (vB (numB n)) 1) := by
  refine Does.intro TT Tryz.func141 rfl (by kernel_rfl) rfl rfl fun E hE => ?_
  (repeat' (first | refine w_a TT rfl rfl rfl sd ?_ | refine w_b ?_ | refine w_c rfl rfl ?_ | refine w_d TT rfl rfl rfl rfl sd ?_ | refine w_e ?_ | refine w_f rfl rfl ?_ | refine w_g ?_ | refine w_h ?_ | (first | refine w_z (d_l1In _ _ _) rfl rfl rfl rfl rfl rfl rfl rfl ft rfl rfl ?_ | refine w_A (d_l1In _ _ _) rfl rfl rfl rfl rfl rfl rfl rfl ft rfl rfl ?_) | refine w_i ?_ | refine w_j ?_ | refine w_k ?_ | refine w_l ?_ | refine w_m rfl ?_ | refine w_n rfl ?_ | refine w_o TM rfl kr ?_ | ((first | refine w_p rfl rfl rfl (fun hc => ?_) (fun hc => ?_) | refine w_q rfl rfl rfl (fun hc => ?_) (fun hc => ?_) | refine w_r rfl (fun hc => ?_) (fun hc => ?_)) <;> ((try simp at hc) <;> try contradiction))))
  all_goals refine fin_ret rfl trivial (congrArg vB ?_) rfl
  all_goals rfl
theorem gcd_round {x y a b : Int} {B : Int} (h1 : -B ≤ x ∧ x ≤ B) (h2 : -B ≤ y ∧ y ≤ B) (h0 : y ≠ 0) (h : Int.gcd x y = Int.gcd a b) :
    ((-B ≤ y ∧ y ≤ B) ∧ (-B ≤ x.tmod y ∧ x.tmod y ≤ B) ∧ Int.gcd y (x.tmod y) = Int.gcd a b) ∧ (x.tmod y).natAbs < y.natAbs := by
  have hz : (x.tmod y).natAbs = x.natAbs % y.natAbs := Int.natAbs_tmod x y
  have hl : x.natAbs % y.natAbs < y.natAbs := Nat.mod_lt _ (by omega)
  exact ⟨⟨h2, by omega, (gcd_step x y).trans h⟩, by omega⟩
theorem d_gcd (a b : Int) (ha : -9223372036854775807 ≤ a ∧ a ≤ 9223372036854775807) (hb : -9223372036854775807 ≤ b ∧ b ≤ 9223372036854775807) : Does Tryz.prog 112 [vI a, vI b] [] 1 (Ret (vI (Int.gcd a b)) 1) := by
  refine Does.intro TT Tryz.func112 rfl (by kernel_rfl) rfl rfl fun E hE => ?_
  (repeat' (first | refine w_a TT rfl rfl rfl sd ?_ | refine w_b ?_ | refine w_c rfl rfl ?_ | refine w_d TT rfl rfl rfl rfl sd ?_ | refine w_e ?_ | refine w_f rfl rfl ?_ | refine w_g ?_ | refine w_h ?_ | refine w_i ?_ | refine w_j ?_ | refine w_k ?_ | refine w_l ?_ | refine w_m rfl ?_ | refine w_n rfl ?_ | refine w_o TM rfl kr ?_ | ((first | refine w_p rfl rfl rfl (fun hc => ?_) (fun hc => ?_) | refine w_q rfl rfl rfl (fun hc => ?_) (fun hc => ?_) | refine w_r rfl (fun hc => ?_) (fun hc => ?_)) <;> ((try simp at hc) <;> try contradiction))))
  refine w_G hE (fun p : Int × Int => (-9223372036854775807 ≤ p.1 ∧ p.1 ≤ 9223372036854775807) ∧ (-9223372036854775807 ≤ p.2 ∧ p.2 ≤ 9223372036854775807) ∧ Int.gcd p.1 p.2 = Int.gcd a b) (fun p => p.2.natAbs)
    (fun p => [(0, vI p.1), (1, vI p.2)]) (fun _ => []) 1 [] (a, b) ⟨ha, hb, rfl⟩ ⟨⟨rfl, rfl, trivial⟩, trivial, rfl⟩ ?_
  rintro ⟨x, y⟩ ⟨h1, h2, h5⟩
  dsimp only at *
  (repeat' (first | refine w_a TT rfl rfl rfl sd ?_ | refine w_b ?_ | refine w_c rfl rfl ?_ | refine w_d TT rfl rfl rfl rfl sd ?_ | refine w_e ?_ | refine w_f rfl rfl ?_ | refine w_g ?_ | refine w_h ?_ | (first | refine w_z (d_absInt _ (by omega) (by omega)) rfl rfl rfl rfl rfl rfl rfl rfl ft rfl rfl ?_ | refine w_A (d_absInt _ (by omega) (by omega)) rfl rfl rfl rfl rfl rfl rfl rfl ft rfl rfl ?_) | refine w_i ?_ | refine w_j ?_ | refine w_k ?_ | refine w_l ?_ | refine w_m rfl ?_ | refine w_n rfl ?_ | refine w_o TM rfl kr ?_ | ((first | refine w_p rfl rfl rfl (fun hc => ?_) (fun hc => ?_) | refine w_q rfl rfl rfl (fun hc => ?_) (fun hc => ?_) | refine w_r rfl (fun hc => ?_) (fun hc => ?_)) <;> ((try simp at hc) <;> try contradiction))))
  · obtain ⟨h6, h7⟩ := gcd_round h1 h2 hc h5
    exact ⟨[], (y, x.tmod y), h6, h7, ⟨rfl, rfl, trivial⟩, trivial, rfl⟩
  · refine fin_ret rfl trivial (congrArg vI ?_) rfl
    subst hc
    rw [← h5]; simp
theorem d_gcdOf (a b : Int) : Does Tryz.prog 148 [vI a, vI b] [] 1 (Ret (vI (gcdOf a b)) 1) := by
  refine Does.intro TT Tryz.func148 rfl (by kernel_rfl) rfl rfl fun E hE => ?_
  (repeat' (first | refine w_a TT rfl rfl rfl sd ?_ | refine w_b ?_ | refine w_c rfl rfl ?_ | refine w_d TT rfl rfl rfl rfl sd ?_ | refine w_e ?_ | refine w_f rfl rfl ?_ | refine w_g ?_ | refine w_h ?_ | (first | refine w_z (d_numS _) rfl rfl rfl rfl rfl rfl rfl rfl ft rfl rfl ?_ | refine w_A (d_numS _) rfl rfl rfl rfl rfl rfl rfl rfl ft rfl rfl ?_) | refine w_i ?_ | refine w_j ?_ | refine w_k ?_ | refine w_l ?_ | refine w_m rfl ?_ | refine w_n rfl ?_ | refine w_o TM rfl kr ?_ | ((first | refine w_p rfl rfl rfl (fun hc => ?_) (fun hc => ?_) | refine w_q rfl rfl rfl (fun hc => ?_) (fun hc => ?_) | refine w_r rfl (fun hc => ?_) (fun hc => ?_)) <;> ((try simp at hc) <;> try contradiction))))
  · refine fin_ret rfl trivial (congrArg vI ?_) rfl
    simp_all [gcdOf]
  · refine fin_ret rfl trivial (congrArg vI ?_) rfl
    simp_all [gcdOf]
  · have ha := numB_true.1 (by assumption : numB a = true)
    have hb := numB_true.1 (by assumption : numB b = true)
    refine w_G hE (fun p : Int × Int => (-400000000 ≤ p.1 ∧ p.1 ≤ 400000000) ∧ (-400000000 ≤ p.2 ∧ p.2 ≤ 400000000) ∧ Int.gcd p.1 p.2 = Int.gcd a b) (fun p => p.2.natAbs)
      (fun p => [(0, vI p.1), (1, vI p.2)]) (fun _ => []) 1 [] (a, b) ⟨ha, hb, rfl⟩ ⟨⟨rfl, rfl, trivial⟩, trivial, rfl⟩ ?_
    rintro ⟨x, y⟩ ⟨h1, h2, h5⟩
    dsimp only at *
    (repeat' (first | refine w_a TT rfl rfl rfl sd ?_ | refine w_b ?_ | refine w_c rfl rfl ?_ | refine w_d TT rfl rfl rfl rfl sd ?_ | refine w_e ?_ | refine w_f rfl rfl ?_ | refine w_g ?_ | refine w_h ?_ | (first | refine w_z (d_l1Abs _ (by omega) (by omega)) rfl rfl rfl rfl rfl rfl rfl rfl ft rfl rfl ?_ | refine w_A (d_l1Abs _ (by omega) (by omega)) rfl rfl rfl rfl rfl rfl rfl rfl ft rfl rfl ?_) | refine w_i ?_ | refine w_j ?_ | refine w_k ?_ | refine w_l ?_ | refine w_m rfl ?_ | refine w_n rfl ?_ | refine w_o TM rfl kr ?_ | ((first | refine w_p rfl rfl rfl (fun hc => ?_) (fun hc => ?_) | refine w_q rfl rfl rfl (fun hc => ?_) (fun hc => ?_) | refine w_r rfl (fun hc => ?_) (fun hc => ?_)) <;> ((try simp at hc) <;> try contradiction))))
    · obtain ⟨h6, h7⟩ := gcd_round h1 h2 hc h5
      exact ⟨[], (y, x.tmod y), h6, h7, ⟨rfl, rfl, trivial⟩, trivial, rfl⟩
    · refine fin_ret rfl trivial (congrArg vI ?_) rfl
      subst hc
      simp_all [gcdOf]
end Go.Proofs.YtfkbjkmlpinoeaaGreat

/-
  Words for slices of numbers: 'RI w A xs': a slice at A reads as the list xs; 'OI': the call itself owns it. Own text.
-/
namespace Go.Proofs.YtfkbjkmlpinoeaaGreat
open Go.RowKit

/-- A slice whose first cell lies at A reads as these numbers. -/
def RI (w : World) (A : Option Addr) (xs : List Int) : Prop :=
  0 < xs.length → ∃ b off, A = some ⟨b, off, none⟩ ∧ b < w.heap.size ∧ ∀ k (h : k < xs.length), w.cell? ⟨b, off + k, none⟩ = some (.int .i64 xs[k])

theorem RI.nil {w : World} {A : Option Addr} : RI w A [] := fun h => absurd h (by simp)
theorem RI.up {w W : World} {A : Option Addr} {xs : List Int} (h : RI w A xs) (hb : Below w.heap.size w W) : RI W A xs := fun h0 => by
  obtain ⟨b, off, rfl, hlt, hc⟩ := h h0
  exact ⟨b, off, rfl, Nat.lt_of_lt_of_le hlt hb.size, fun k hk => (hb.cell (p := ⟨b, off + k, none⟩) hlt).trans (hc k hk)⟩
theorem RI.below {B : Nat} {w W : World} {A : Option Addr} {xs : List Int} (h : RI w A xs) (hB : w.heap.size ≤ B) (hb : Below B w W) : RI W A xs := h.up (hb.mono hB)
/-- one cell, for a round -/
theorem RI.at_ {w : World} {A : Option Addr} {xs : List Int} (h : RI w A xs) {k : Nat} (hk : k < xs.length) :
    ∃ b off, A = some ⟨b, off, none⟩ ∧ b < w.heap.size ∧ w.cell? ⟨b, off + k, none⟩ = some (.int .i64 xs[k]) := by
  obtain ⟨b, off, e, hb, hc⟩ := h (by omega)
  exact ⟨b, off, e, hb, hc k hk⟩
theorem RI.take {w : World} {A : Option Addr} {xs : List Int} (h : RI w A xs) (n : Nat) : RI w A (xs.take n) := fun h0 => by
  have h0' : 0 < n ∧ 0 < xs.length := by rw [List.length_take] at h0; omega
  obtain ⟨b, off, rfl, hlt, hc⟩ := h h0'.2
  refine ⟨b, off, rfl, hlt, fun k hk => ?_⟩
  have hk' : k < xs.length := by simp at hk; omega
  rw [hc k hk']; simp

/-- The call owns the row at A: n numbers, room for c. -/
def OI (w : World) (base : Nat) (A : Option Addr) (n c : Nat) (xs : List Int) : Prop :=
  xs.length = n ∧ w.ownsRow base 3 1 (.slice A n c) n (xs.map (Value.int .i64))

theorem OI.none (w : World) (base : Nat) : OI w base .none 0 0 [] := ⟨rfl, World.ownsRow_nil w base _ _⟩
theorem OI.len {w : World} {base : Nat} {A : Option Addr} {n c : Nat} {xs : List Int} (h : OI w base A n c xs) : xs.length = n := h.1
theorem OI.read {w : World} {base : Nat} {A : Option Addr} {n c : Nat} {xs : List Int} (h : OI w base A n c xs) : RI w A xs := fun h0 => by
  obtain ⟨hl, ho⟩ := h
  rcases ho.2 with ⟨_, hn⟩ | ⟨g, cap, cur, hv, _, hg, _⟩
  · omega
  · have hA : A = some ⟨g, 0, Option.none⟩ := by injection hv
    have hcap : c = cap := by injection hv
    subst hA
    subst hcap
    refine ⟨g, 0, rfl, (Array.getElem?_eq_some_iff.1 hg).1, fun k hk => ?_⟩
    have := World.ownsRow.cellAt (w := w) (j := k) ho (by omega)
    simp only [Nat.zero_add]
    rw [this]
    simp [hk]
theorem OI.shape {w : World} {base : Nat} {A : Option Addr} {n c : Nat} {xs : List Int} (h : OI w base A n c xs) : (A = Option.none ∧ n = 0 ∧ c = 0) ∨ ∃ g, A = some ⟨g, 0, Option.none⟩ ∧ base ≤ g ∧ g < w.heap.size ∧ n ≤ c := by
  obtain ⟨hl, ho⟩ := h
  rcases ho.2 with ⟨hv, hn⟩ | ⟨g, cap, cur, hv, hb, hg, hc, _⟩
  · left; injection hv with h1 h2 h3; exact ⟨h1, hn, h3⟩
  · right; injection hv with h1 h2 h3; subst h1; subst h3; exact ⟨g, rfl, hb, (Array.getElem?_eq_some_iff.1 hg).1, hc⟩
theorem OI.cap {w : World} {base : Nat} {A : Option Addr} {n c : Nat} {xs : List Int} (h : OI w base A n c xs) : n ≤ c := by
  rcases h.shape with ⟨_, h1, h2⟩ | ⟨g, _, _, _, h3⟩ <;> omega
theorem OI.cell {w : World} {base g n c : Nat} {xs : List Int} (h : OI w base (some ⟨g, 0, .none⟩) n c xs) {k : Nat} (hk : k < xs.length) : w.cell? ⟨g, k, .none⟩ = some (.int .i64 xs[k]) := by
  have := World.ownsRow.cellAt (w := w) (j := k) h.2 (by have := h.1; omega)
  rw [this]; simp [hk]
theorem OI.frozen {w : World} {base g n c : Nat} {xs : List Int} (h : OI w base (some ⟨g, 0, .none⟩) n c xs) (k : Nat) : w.frozen? ⟨g, k, .none⟩ = false :=
  World.ownsRow.frozenAt (w := w) h.2 k
theorem OI.store {w : World} {base g n c : Nat} {xs : List Int} (h : OI w base (some ⟨g, 0, .none⟩) n c xs) (k : Nat) (x : Int) :
    OI (w.setCell ⟨g, k, .none⟩ (.int .i64 x)) base (some ⟨g, 0, .none⟩) n c (xs.set k x) := by
  refine ⟨by simp [h.1], ?_⟩
  have := (World.ownsRow.stored (w := w) h.2 k (.int .i64 x)).1
  simpa [List.map_set] using this
theorem OI.kept {w w' : World} {row : Option Nat} {base : Nat} {A : Option Addr} {n c : Nat} {xs : List Int} (h : OI w base A n c xs) (hg : w.grownBy w' row) (hne : ∀ a, A = some a → some a.block ≠ row) : OI w' base A n c xs :=
  ⟨h.1, h.2.kept hg (by cases A with
    | none => left; rfl
    | some a => right; exact hne a rfl)⟩
theorem OI.up {w W : World} {base : Nat} {A : Option Addr} {n c : Nat} {xs : List Int} (h : OI w base A n c xs) (hb : Below w.heap.size w W) : OI W base A n c xs := by
  refine ⟨h.1, h.2.1, ?_⟩
  rcases h.2.2 with h0 | ⟨g, cap, cur, hv, hbg, hg, r⟩
  · exact .inl h0
  · exact .inr ⟨g, cap, cur, hv, hbg, (hb.block g (Array.getElem?_eq_some_iff.1 hg).1).trans hg, r⟩
theorem OI.mono {w : World} {base base' : Nat} {A : Option Addr} {n c : Nat} {xs : List Int} (h : OI w base A n c xs) (hb : base' ≤ base) : OI w base' A n c xs := by
  refine ⟨h.1, h.2.1, ?_⟩
  rcases h.2.2 with h0 | ⟨g, cap, cur, hv, hbg, r⟩
  · exact .inl h0
  · exact .inr ⟨g, cap, cur, hv, Nat.le_trans hb hbg, r⟩

theorem OI.set_below {w : World} {base : Nat} {A : Option Addr} {n c : Nat} {xs : List Int} (h : OI w base A n c xs) {p : Addr} (hp : p.block < base) (u : Value) : OI (w.setCell p u) base A n c xs :=
  ⟨h.1, ownsRow_setCell_below h.2 hp u⟩
theorem OI.alloc {w : World} {base : Nat} {A : Option Addr} {n c : Nat} {xs : List Int} (h : OI w base A n c xs) (o : Obj) : OI (w.alloc o) base A n c xs := h.up ((Below.refl _ _).alloc (Nat.le_refl _) o)
theorem OI.ext {w : World} {base : Nat} {A : Option Addr} {n c : Nat} {xs : List Int} (h : OI w base A n c xs) (x : Ext w) : OI x.val base A n c xs := h.up x.below

theorem Tryz.infoInt : (Tryz.prog.info? 3).map (fun i => (i.zero, i.size, i.bytes)) = some (some (.int .i64 0), 1, 8) := by kernel_rfl

/-- 'make([]int, n)' -/
theorem wp_make_ints {w : World} {ops : Array Oper} {rest : List Oper} {o : Oper} {a : Act} {Q : Exit → Act → World → Prop}
    (hg : o.guard = none) (l c : Operand) (hop : o.op = Op.makeSlice 24 l c) (L C : Int) (n : Nat) (hl : a.eval l = .int .i64 L) (hc : a.eval c = .int .i64 C) (hL : L = (n : Int)) (hC : C = (n : Int)) (hn : n ≤ 35184372088832)
    (hK : ∀ w', OI w' w.heap.size (some ⟨w.heap.size, 0, none⟩) n n (List.replicate n 0) → w'.heap.size = w.heap.size + 1 → Below w.heap.size w w' → wpList Tryz.prog ops Q rest (a.put o.dst (.slice (some ⟨w.heap.size, 0, none⟩) n n)) w') :
    wpList Tryz.prog ops Q (o :: rest) a w := by
  obtain ⟨i0, hi, hz0, hz1, hz2⟩ := info_parts Tryz.infoInt
  subst hL
  subst hC
  refine wpList_plain hg fun K hK' => ?_
  have hr := run_make (P := Tryz.prog) w 24 3 i0 (.int .i64 0) Tryz.underlying24 hi hz0 .i64 .i64 n n (by omega) (by omega) (by rw [hz2]; omega) (by omega)
  simp only [Int.toNat_natCast] at hr
  unfold Oper.wp
  simp only [execOp, hop, hl, hc]
  have hs : ∀ (c' : Nat), madeCells (Value.cells (.int .i64 0)) (c' * i0.size) = madeCells #[.int .i64 0] c' := fun c' => by rw [hz1, Nat.mul_one]; rfl
  rw [hs] at hr
  simp [hr, Result.andThen]
  refine hK' _ _ (hK _ ⟨by simp, ?_⟩ (by simp) ((Below.refl _ _).alloc (Nat.le_refl _) _))
  have := World.ownsRow_lit (base := w.heap.size) (e := 3) (size := 1) w (madeCells #[Value.int .i64 0] n) n (Nat.le_refl _) (by simp only [maxLen]; omega) (by rw [size_madeCells]; omega)
  rw [toList_madeCells_one] at this
  simpa using this

/-- 'append(s, x)', s a row of the call's own -/
theorem wp_append_int {w : World} {ops : Array Oper} {rest : List Oper} {o : Oper} {a : Act} {Q : Exit → Act → World → Prop}
    (hg : o.guard = none) (s x : Operand) (ho : o.op = .call { callee := .builtin .append, args := #[s, x], argTypes := #[24, 24] })
    (base : Nat) (A : Option Addr) (n c : Nat) (xs : List Int) (v : Int) (g : Nat) (hs : a.eval s = .slice A n c) (hx : a.eval x = .slice (some ⟨g, 0, none⟩) 1 1)
    (hown : OI w base A n c xs) (hcell : w.cell? ⟨g, 0, none⟩ = some (.int .i64 v)) (hn : n ≤ 1099511627776) (hbase : base ≤ w.heap.size)
    (hK : ∀ A' c' w', OI w' base A' (n + 1) c' (xs ++ [v]) → Below base w w' → wpList Tryz.prog ops Q rest (a.put o.dst (.slice A' (n + 1) c')) w') :
    wpList Tryz.prog ops Q (o :: rest) a w := by
  obtain ⟨i0, hi, hz0, hz1, hz2⟩ := info_parts Tryz.infoInt
  refine wpList_append_own w hg s x 24 ho base 3 i0 (.int .i64 0) 1 8 Tryz.underlying24 hi hz0 hz1 hz2 rfl (by omega) _ n (xs.map (Value.int .i64)) hs hown.2 ⟨g, 0, none⟩ 1 1 [.int .i64 v] hx rfl (fun j u hj => ?_) (by simp [Value.oneCell']) (by simp only [maxLen]; omega) (by omega) hbase (fun v' w' h1 h2 _ => ?_)
  · match j, hj with
    | 0, hj =>
      simp only [List.getElem?_cons_zero, Option.some_inj] at hj
      rw [← hj, Go.WideShapes.add_plain]
      exact hcell
    | j + 1, hj => simp at hj
  · have hb : Below base w w' := ⟨h2.os, h2.tape, h2.output, h2.size, fun k hk => h2.block k (by omega) (fun e => by
      have := World.ownsRow.lt (w := w) hown.2 k e.symm
      omega)⟩
    rcases h1.2 with ⟨_, h0⟩ | ⟨g', cap', cur', hv', r⟩
    · omega
    · subst hv'
      refine hK (some ⟨g', 0, none⟩) cap' w' ⟨by simp [hown.1], ?_⟩ hb
      simpa using h1
/-- '[]int{}' -/
theorem OI.empty {w : World} {base : Nat} (hb : base ≤ w.heap.size) : OI (w.alloc (.cells #[] 3)) base (some ⟨w.heap.size, 0, .none⟩) 0 0 [] :=
  ⟨rfl, by simpa using World.ownsRow_lit (base := base) (e := 3) (size := 1) w #[] 0 hb (by simp [maxLen]) rfl⟩

theorem set_take_rep {xs : List Int} {k : Nat} (hk : k < xs.length) :
    (xs.take k ++ List.replicate (xs.length - k) 0).set k xs[k] = xs.take (k + 1) ++ List.replicate (xs.length - (k + 1)) 0 := by
  apply List.ext_getElem?
  intro j
  by_cases hj : j = k
  · subst hj
    rw [List.getElem?_set_self (by simp; omega), List.getElem?_append_left (by simp; omega)]
    simp [hk]
  · rw [List.getElem?_set_ne (by omega)]
    by_cases h1 : j < k
    · rw [List.getElem?_append_left (by simp; omega), List.getElem?_append_left (by simp; omega)]
      rw [List.getElem?_take_of_lt h1, List.getElem?_take_of_lt (by omega)]
    · rw [List.getElem?_append_right (by simp; omega), List.getElem?_append_right (by simp; omega)]
      simp only [List.length_take, List.getElem?_replicate]
      by_cases h2 : j < xs.length
      · rw [if_pos (by omega), if_pos (by omega)]
      · rw [if_neg (by omega), if_neg (by omega)]

/-- What 'toIntS' hands back. -/
def MadeInts (base : Nat) (xs : List Int) (w0 : World) (e : Ending) (w' : World) : Prop :=
  ∃ A c, e = .returned (.slice A xs.length c) ∧ OI w' base A xs.length c xs ∧ ∃ x : Ext w0, w' = x.val
set_option maxHeartbeats 1000000 in
theorem toIntS_any (A : Option Addr) (c : Nat) (xs : List Int) (w : World) (hr : RI w A xs) (hn : xs.length ≤ 17592186044416) :
    Calls Tryz.prog 41 #[.slice A xs.length c] w (MadeInts w.heap.size xs w) := by
  go_enter Tryz.func41, Tryz.ntmps41
  go_wp2_with (refine wp_make_ints rfl _ _ rfl _ _ xs.length rfl rfl rfl rfl (by omega) ?_; intro w1 hO1 hs1 hb1)
  go_loopw [4] (fun i wr => ∃ k : Nat, k ≤ xs.length ∧ i = .int .i64 k ∧ OI wr w.heap.size (some ⟨w.heap.size, 0, none⟩) xs.length xs.length (xs.take k ++ List.replicate (xs.length - k) 0) ∧ Below w.heap.size w wr) (fun i _ => xs.length - (intOf i).toNat)
  case atStart => exact ⟨0, Nat.zero_le _, rfl, by simpa using hO1, hb1⟩
  case round =>
    obtain ⟨k, hk, rfl, hO, hb⟩ := hrel
    by_cases hlt : k < xs.length
    · obtain ⟨b, off, rfl, hbl, hcell⟩ := (hr.up hb).at_ hlt
      have hcs := hO.cell (k := k) (by simp; omega)
      have hfz := hO.frozen k
      go_wp2
      go_roundw
      case rel => 
        refine ⟨k + 1, hlt, by go_num, ?_, hb.setCell (Nat.le_refl _) _⟩
        have := hO.store k xs[k]
        rwa [set_take_rep hlt] at this
      case measure => simp [intOf]; omega
    · go_wp2
      go_ret
      have : k = xs.length := by omega
      subst this
      refine ⟨_, _, rfl, by simpa using hO, Ext.some hb⟩
/-- k, k + 1, .. -/
def marks (k : Int) (n : Nat) : List Int := (List.range n).map fun (i : Nat) => k + (i : Int)
theorem marks_len {k : Int} {n : Nat} : (marks k n).length = n := by simp [marks]
def Marked (base : Nat) (A : Option Addr) (n c : Nat) (xs : List Int) (k : Int) (w0 : World) (e : Ending) (w' : World) : Prop :=
  e = .returned (.int .i64 k) ∧ OI w' base A n c xs ∧ Below base w0 w'
theorem marks_step {xs : List Int} {k : Int} {i : Nat} (h : i < xs.length) : (marks k i ++ xs.drop i).set i (k + (i : Int)) = marks k (i + 1) ++ xs.drop (i + 1) := by
  rw [List.drop_eq_getElem_cons h]
  rw [List.set_append_right _ _ (by simp [marks])]
  simp only [marks, List.length_map, List.length_range, Nat.sub_self, List.set_cons_zero, List.range_succ, List.map_append, List.map_cons, List.map_nil, List.append_assoc, List.cons_append, List.nil_append]
set_option maxHeartbeats 1000000 in
theorem markIntS_any (base : Nat) (A : Option Addr) (c : Nat) (xs : List Int) (k : Int) (w : World) (hO : OI w base A xs.length c xs) (hk : 0 ≤ k) (hk' : k ≤ 1099511627776) (hn : xs.length ≤ 1099511627776) :
    Calls Tryz.prog 35 #[.slice A xs.length c, .int .i64 k] w (Marked base A xs.length c (marks k xs.length) (k + xs.length) w) := by
  go_enter Tryz.func35, Tryz.ntmps35
  go_wp2
  go_loopw [1, 5] (fun kv iv wr => ∃ i : Nat, i ≤ xs.length ∧ iv = .int .i64 i ∧ kv = .int .i64 (k + (i : Int)) ∧ OI wr base A xs.length c (marks k i ++ xs.drop i) ∧ Below base w wr) (fun _ iv _ => xs.length - (intOf iv).toNat)
  case atStart => exact ⟨0, Nat.zero_le _, rfl, by simp, by simpa [marks] using hO, Below.refl _ _⟩
  case round =>
    obtain ⟨i, hi, rfl, rfl, hO1, hb⟩ := hrel
    by_cases hlt : i < xs.length
    · rcases hO1.shape with ⟨_, h0, _⟩ | ⟨g, rfl, hg1, hg2, hg3⟩
      · omega
      · have hcs := hO1.cell (k := i) (by simp [marks]; omega)
        have hfz := hO1.frozen i
        have HO := Lib.hid (marks_step (k := k) hlt)
        have hO2 := hO1.store i (k + (i : Int))
        rw [HO.out] at hO2
        go_wp2
        go_roundw
        case rel => exact ⟨i + 1, hlt, by go_num, by go_num, hO2, hb.setCell hg1 _⟩
        case measure => simp [intOf]; omega
    · go_wp2
      go_ret
      have : i = xs.length := by omega
      subst this
      exact ⟨rfl, by simpa using hO1, hb⟩
set_option maxHeartbeats 1000000 in
theorem heldIntS_any (A : Option Addr) (n c : Nat) (k : Int) (w : World) (hR : RI w A (marks k n)) (hk : 0 ≤ k) (hk' : k ≤ 1099511627776) (hn : n ≤ 1099511627776) :
    Calls Tryz.prog 36 #[.slice A n c, .int .i64 k] w fun e w' => e = .returned (.int .i64 (k + n)) ∧ w = w' := by
  go_enter Tryz.func36, Tryz.ntmps36
  go_wp2
  go_loop [1, 5] (fun kv iv => ∃ i : Nat, i ≤ n ∧ iv = .int .i64 i ∧ kv = .int .i64 (k + (i : Int))) (fun _ iv => n - (intOf iv).toNat)
  case atStart => exact ⟨0, Nat.zero_le _, rfl, by simp⟩
  case round =>
    obtain ⟨i, hi, rfl, rfl⟩ := hrel
    by_cases hlt : i < n
    · obtain ⟨b, off, rfl, hbl, hcell⟩ := hR.at_ (k := i) (by rw [marks_len]; exact hlt)
      have he : (marks k n)[i]'(by rw [marks_len]; exact hlt) = k + (i : Int) := by simp [marks]
      rw [he] at hcell
      clear he
      go_wp2
      go_round
      case rel => exact ⟨i + 1, hlt, by go_num, by go_num⟩
      case measure => simp [intOf]; omega
    · go_wp2
      go_ret
      have : i = n := by omega
      subst this
      exact ⟨rfl, rfl⟩
end Go.Proofs.YtfkbjkmlpinoeaaGreat

/-
  CONTRACTS: slices of numbers.
-/
namespace Go.Proofs.YtfkbjkmlpinoeaaGreat
open Go.RowKit

def vS (k sz off len cap : Nat) : AV := .one (.sl k sz off len cap)
theorem getD_at {xs : List Int} {j : Nat} (h : j < xs.length) : xs.getD (0 + (j : Int).toNat) 0 = xs[j] := by simp [h]
theorem gD {xs : List Int} {j : Nat} (h : j < xs.length) : xs[j]?.getD 0 = xs[j] := by simp [h]
theorem own_ints {t : TypeId} {c : Nat} {l l' : List Int} {m : Nat → Nat} (h : l = l') : some (Blk.own t c (.ints l)) = some ((Blk.own t c (.ints l')).ren m) := by subst h; rfl
theorem all_take {f : Int → Bool} {xs : List Int} {j : Nat} (h : j < xs.length) (ha : (xs.take j).all f = true) (hj : f xs[j] = true) : (xs.take (j + 1)).all f = true := by
  rw [List.take_succ_eq_append_getElem h, List.all_append, ha]; simp [hj]
theorem all_bad {f : Int → Bool} {xs : List Int} {j : Nat} (h : j < xs.length) (hj : f xs[j] = false) : xs.all f = false := by
  rw [List.all_eq_false]; exact ⟨xs[j], List.getElem_mem h, by simp [hj]⟩
theorem d_areNumbers (xs : List Int) (c : Nat) (hl : xs.length ≤ 1099511627776) : Does Tryz.prog 66 [vS 1 1 0 xs.length c] [(1, .ro (.ints xs))] 2 (Ret (vB (xs.all numB)) 2) := by
  refine Does.intro TT Tryz.func66 rfl (by kernel_rfl) rfl rfl fun E hE => ?_
  (repeat' (first | refine w_a TT rfl rfl rfl sd ?_ | refine w_b ?_ | refine w_c rfl rfl ?_ | refine w_d TT rfl rfl rfl rfl sd ?_ | refine w_e ?_ | refine w_f rfl rfl ?_ | refine w_g ?_ | refine w_h ?_ | refine w_i ?_ | refine w_j ?_ | refine w_k ?_ | refine w_l ?_ | refine w_m rfl ?_ | refine w_n rfl ?_ | refine w_o TM rfl kr ?_ | ((first | refine w_p rfl rfl rfl (fun hc => ?_) (fun hc => ?_) | refine w_q rfl rfl rfl (fun hc => ?_) (fun hc => ?_) | refine w_r rfl (fun hc => ?_) (fun hc => ?_)) <;> ((try simp at hc) <;> try contradiction))))
  refine w_G hE (fun k : Nat => k ≤ xs.length ∧ (xs.take k).all numB = true) (fun k => xs.length - k)
    (fun k => [(0, vS 1 1 0 xs.length c), (5, vS 1 1 0 xs.length c), (6, vI xs.length), (7, vI k)]) (fun _ => [(1, .ro (.ints xs))]) 2 [] 0 ⟨Nat.zero_le _, rfl⟩ ⟨w_1, w_2, rfl⟩ ?_
  rintro k ⟨h1, h2⟩
  (repeat' (first | refine w_a TT rfl rfl rfl sd ?_ | refine w_b ?_ | refine w_c rfl rfl ?_ | refine w_d TT rfl rfl rfl rfl sd ?_ | refine w_e ?_ | refine w_f rfl rfl ?_ | refine w_g ?_ | refine w_h ?_ | (first | refine w_z (d_numI _) rfl rfl rfl rfl rfl rfl rfl rfl ft rfl rfl ?_ | refine w_A (d_numI _) rfl rfl rfl rfl rfl rfl rfl rfl ft rfl rfl ?_) | refine w_i ?_ | refine w_j ?_ | refine w_k ?_ | refine w_l ?_ | refine w_m rfl ?_ | refine w_n rfl ?_ | refine w_o TM rfl kr ?_ | ((first | refine w_p rfl rfl rfl (fun hc => ?_) (fun hc => ?_) | refine w_q rfl rfl rfl (fun hc => ?_) (fun hc => ?_) | refine w_r rfl (fun hc => ?_) (fun hc => ?_)) <;> ((try simp at hc) <;> try contradiction))))
  · refine fin_ret rfl w_3 (congrArg vB ?_) rfl
    rw [gD (by assumption)] at hc
    exact (all_bad _ hc).symm
  · refine ⟨[], k + 1, ⟨by omega, ?_⟩, w_4, ⟨w_1, w_2, rfl⟩⟩
    rw [gD (by assumption)] at hc
    exact all_take _ h2 hc
  · refine fin_ret rfl w_3 (congrArg vB ?_) rfl
    rw [List.take_of_length_le (by omega)] at h2
    exact h2.symm
def MadeI (xs : List Int) (k : Nat) (v : AV) (Hout : List (Nat × Blk)) (n : Nat) : Prop := ∃ c, xs.length ≤ c ∧ v = vS k 1 0 xs.length c ∧ Hout = [(k, .own 3 c (.ints xs))] ∧ n = k + 1
theorem MadeI.out {xs : List Int} {k : Nat} : ∀ v Hout n1, MadeI xs k v Hout n1 → ∃ b, Hout = [(k, b)] ∧ n1 = k + 1 ∧ b.keys = [] := fun _ _ _ ⟨c, _, _, h2, h3⟩ => ⟨_, h2, h3, by simp [Blk.keys, Elts.keys, Elts.all, ints_keys]⟩
theorem d_toIntS (xs : List Int) (c : Nat) (hl : xs.length ≤ 1099511627776) : Does Tryz.prog 41 [vS 1 1 0 xs.length c] [(1, .ro (.ints xs))] 2 (MadeI xs 2) := by
  refine Does.intro TT Tryz.func41 rfl (by kernel_rfl) rfl rfl fun E hE => ?_
  (repeat' (first | refine w_a TT rfl rfl rfl sd ?_ | refine w_b ?_ | refine w_c rfl rfl ?_ | refine w_d TT rfl rfl rfl rfl sd ?_ | refine w_e ?_ | refine w_f rfl rfl ?_ | refine w_g ?_ | refine w_h ?_ | refine w_i ?_ | refine w_j ?_ | refine w_k ?_ | refine w_l ?_ | refine w_m rfl ?_ | refine w_n rfl ?_ | refine w_o TM rfl kr ?_ | ((first | refine w_p rfl rfl rfl (fun hc => ?_) (fun hc => ?_) | refine w_q rfl rfl rfl (fun hc => ?_) (fun hc => ?_) | refine w_r rfl (fun hc => ?_) (fun hc => ?_)) <;> ((try simp at hc) <;> try contradiction))))
  refine w_G hE (fun k : Nat => k ≤ xs.length) (fun k => xs.length - k)
    (fun k => [(0, vS 1 1 0 xs.length c), (3, vS 2 1 0 xs.length xs.length), (4, vI k)]) (fun k => [(1, .ro (.ints xs)), (2, .own 3 xs.length (.ints (xs.take k ++ List.replicate (xs.length - k) 0)))]) 3 [] 0 (Nat.zero_le _) ⟨w_1, w_2, rfl⟩ ?_
  intro k h1
  (repeat' (first | refine w_a TT rfl rfl rfl sd ?_ | refine w_b ?_ | refine w_c rfl rfl ?_ | refine w_d TT rfl rfl rfl rfl sd ?_ | refine w_e ?_ | refine w_f rfl rfl ?_ | refine w_g ?_ | refine w_h ?_ | refine w_i ?_ | refine w_j ?_ | refine w_k ?_ | refine w_l ?_ | refine w_m rfl ?_ | refine w_n rfl ?_ | refine w_o TM rfl kr ?_ | ((first | refine w_p rfl rfl rfl (fun hc => ?_) (fun hc => ?_) | refine w_q rfl rfl rfl (fun hc => ?_) (fun hc => ?_) | refine w_r rfl (fun hc => ?_) (fun hc => ?_)) <;> ((try simp at hc) <;> try contradiction))))
  · refine ⟨[], k + 1, hc, w_4, ⟨w_1, ⟨rfl, own_ints ?_, trivial⟩, rfl⟩⟩
    rw [getD_at hc]
    simpa using set_take_rep hc
  · have : k = xs.length := by omega
    subst this
    exact fin rfl trivial [] (vS 2 1 0 xs.length xs.length) [(2, .own 3 xs.length (.ints xs))] 3 ⟨_, Nat.le_refl _, rfl, rfl, rfl⟩ rfl ⟨trivial, ⟨own_ints (by simp), trivial⟩, rfl⟩ rfl
theorem d_eqIntS (xs ys : List Int) (c d : Nat) (hl : xs.length ≤ 1099511627776) (hl' : ys.length ≤ 1099511627776) : Does Tryz.prog 34 [vS 1 1 0 xs.length c, vS 2 1 0 ys.length d] [(1, .ro (.ints xs)), (2, .ro (.ints ys))] 3 (Ret (vB (decide (xs = ys))) 3) := by
  refine Does.intro TT Tryz.func34 rfl (by kernel_rfl) rfl rfl fun E hE => ?_
  (repeat' (first | refine w_a TT rfl rfl rfl sd ?_ | refine w_b ?_ | refine w_c rfl rfl ?_ | refine w_d TT rfl rfl rfl rfl sd ?_ | refine w_e ?_ | refine w_f rfl rfl ?_ | refine w_g ?_ | refine w_h ?_ | refine w_i ?_ | refine w_j ?_ | refine w_k ?_ | refine w_l ?_ | refine w_m rfl ?_ | refine w_n rfl ?_ | refine w_o TM rfl kr ?_ | ((first | refine w_p rfl rfl rfl (fun hc => ?_) (fun hc => ?_) | refine w_q rfl rfl rfl (fun hc => ?_) (fun hc => ?_) | refine w_r rfl (fun hc => ?_) (fun hc => ?_)) <;> ((try simp at hc) <;> try contradiction))))
  · refine fin_ret rfl w_3 (congrArg vB ?_) rfl
    symm; apply decide_eq_false; intro e; subst e; exact hc rfl
  · refine w_G hE (fun k : Nat => k ≤ xs.length ∧ xs.take k = ys.take k) (fun k => xs.length - k)
      (fun k => [(0, vS 1 1 0 xs.length c), (1, vS 2 1 0 ys.length d), (5, vI k)]) (fun _ => [(1, .ro (.ints xs)), (2, .ro (.ints ys))]) 3 [] 0 ⟨Nat.zero_le _, rfl⟩ ⟨w_1, w_2, rfl⟩ ?_
    rintro k ⟨h1, h2⟩
    (repeat' (first | refine w_a TT rfl rfl rfl sd ?_ | refine w_b ?_ | refine w_c rfl rfl ?_ | refine w_d TT rfl rfl rfl rfl sd ?_ | refine w_e ?_ | refine w_f rfl rfl ?_ | refine w_g ?_ | refine w_h ?_ | refine w_i ?_ | refine w_j ?_ | refine w_k ?_ | refine w_l ?_ | refine w_m rfl ?_ | refine w_n rfl ?_ | refine w_o TM rfl kr ?_ | ((first | refine w_p rfl rfl rfl (fun hc => ?_) (fun hc => ?_) | refine w_q rfl rfl rfl (fun hc => ?_) (fun hc => ?_) | refine w_r rfl (fun hc => ?_) (fun hc => ?_)) <;> ((try simp at hc) <;> try contradiction))))
    · refine fin_ret rfl w_3 (congrArg vB ?_) rfl
      symm; apply decide_eq_false; intro e; subst e; exact hc rfl
    · have hk : k < ys.length := by omega
      refine ⟨[], k + 1, ⟨by omega, ?_⟩, w_4, ⟨w_1, w_2, rfl⟩⟩
      rw [gD (by assumption), gD hk] at hc
      rw [List.take_succ_eq_append_getElem (by assumption), List.take_succ_eq_append_getElem hk, h2, hc]
    · refine fin_ret rfl w_3 (congrArg vB ?_) rfl
      rw [List.take_of_length_le (by omega), List.take_of_length_le (by omega)] at h2
      simp [h2]
attribute [simp] marks_len
theorem marks_at {k : Int} {n j : Nat} (h : j < n) : (marks k n)[j]?.getD 0 = k + (j : Int) := by simp [marks, h]
theorem own_out {t : TypeId} {c : Nat} {l l' : List Int} {m : Nat → Nat} (h : l = l') : some (Blk.own t c (.ints l)) = some ((Blk.own t c (.ints l')).ren m) := by subst h; rfl
def Marks (k : Int) (t : TypeId) (c n : Nat) (v : AV) (Hout : List (Nat × Blk)) (n1 : Nat) : Prop := v = vI (k + n) ∧ Hout = [(1, .own t c (.ints (marks k n)))] ∧ n1 = 2
theorem d_markIntS (xs : List Int) (c cap : Nat) (k : Int) (hl : xs.length ≤ 1099511627776) (hk : 0 ≤ k) (hk' : k ≤ 4611686018427387904) : Does Tryz.prog 35 [vS 1 1 0 xs.length c, vI k] [(1, .own 3 cap (.ints xs))] 2 (Marks k 3 cap xs.length) := by
  refine Does.intro TT Tryz.func35 rfl (by kernel_rfl) rfl rfl fun E hE => ?_
  (repeat' (first | refine w_a TT rfl rfl rfl sd ?_ | refine w_b ?_ | refine w_c rfl rfl ?_ | refine w_d TT rfl rfl rfl rfl sd ?_ | refine w_e ?_ | refine w_f rfl rfl ?_ | refine w_g ?_ | refine w_h ?_ | refine w_i ?_ | refine w_j ?_ | refine w_k ?_ | refine w_l ?_ | refine w_m rfl ?_ | refine w_n rfl ?_ | refine w_o TM rfl kr ?_ | ((first | refine w_p rfl rfl rfl (fun hc => ?_) (fun hc => ?_) | refine w_q rfl rfl rfl (fun hc => ?_) (fun hc => ?_) | refine w_r rfl (fun hc => ?_) (fun hc => ?_)) <;> ((try simp at hc) <;> try contradiction))))
  refine w_G hE (fun i : Nat => i ≤ xs.length) (fun i => xs.length - i)
    (fun i => [(0, vS 1 1 0 xs.length c), (1, vI (k + i)), (5, vI i)]) (fun i => [(1, .own 3 cap (.ints (marks k i ++ xs.drop i)))]) 2 [] 0 (Nat.zero_le _) ⟨w_1, w_2, rfl⟩ ?_
  intro i h1
  (repeat' (first | refine w_a TT rfl rfl rfl sd ?_ | refine w_b ?_ | refine w_c rfl rfl ?_ | refine w_d TT rfl rfl rfl rfl sd ?_ | refine w_e ?_ | refine w_f rfl rfl ?_ | refine w_g ?_ | refine w_h ?_ | refine w_i ?_ | refine w_j ?_ | refine w_k ?_ | refine w_l ?_ | refine w_m rfl ?_ | refine w_n rfl ?_ | refine w_o TM rfl kr ?_ | ((first | refine w_p rfl rfl rfl (fun hc => ?_) (fun hc => ?_) | refine w_q rfl rfl rfl (fun hc => ?_) (fun hc => ?_) | refine w_r rfl (fun hc => ?_) (fun hc => ?_)) <;> ((try simp at hc) <;> try contradiction))))
  · refine ⟨[], i + 1, hc, w_4, ⟨⟨rfl, congrArg some (congrArg vI (show k + (i : Int) + 1 = k + ((i + 1 : Nat) : Int) by omega)), rfl, trivial⟩, ⟨own_ints ?_, trivial⟩, rfl⟩⟩
    rw [← marks_step hc]; simp
  · have : i = xs.length := by omega
    subst this
    exact fin rfl trivial [] (vI (k + xs.length)) [(1, .own 3 cap (.ints (marks k xs.length)))] 2 ⟨rfl, rfl, rfl⟩ rfl ⟨trivial, ⟨own_ints (by simp), trivial⟩, rfl⟩ rfl
theorem d_heldIntS (n : Nat) (c : Nat) (k : Int) (hl : n ≤ 1099511627776) (hk : 0 ≤ k) (hk' : k ≤ 4611686018427387904) : Does Tryz.prog 36 [vS 1 1 0 n c, vI k] [(1, .ro (.ints (marks k n)))] 2 (Ret (vI (k + n)) 2) := by
  refine Does.intro TT Tryz.func36 rfl (by kernel_rfl) rfl rfl fun E hE => ?_
  (repeat' (first | refine w_a TT rfl rfl rfl sd ?_ | refine w_b ?_ | refine w_c rfl rfl ?_ | refine w_d TT rfl rfl rfl rfl sd ?_ | refine w_e ?_ | refine w_f rfl rfl ?_ | refine w_g ?_ | refine w_h ?_ | refine w_i ?_ | refine w_j ?_ | refine w_k ?_ | refine w_l ?_ | refine w_m rfl ?_ | refine w_n rfl ?_ | refine w_o TM rfl kr ?_ | ((first | refine w_p rfl rfl rfl (fun hc => ?_) (fun hc => ?_) | refine w_q rfl rfl rfl (fun hc => ?_) (fun hc => ?_) | refine w_r rfl (fun hc => ?_) (fun hc => ?_)) <;> ((try simp at hc) <;> try contradiction))))
  refine w_G hE (fun i : Nat => i ≤ n) (fun i => n - i)
    (fun i => [(0, vS 1 1 0 n c), (1, vI (k + i)), (5, vI i)]) (fun i => [(1, .ro (.ints (marks k n)))]) 2 [] 0 (Nat.zero_le _) ⟨w_1, w_2, rfl⟩ ?_
  intro i h1
  (repeat' (first | refine w_a TT rfl rfl rfl sd ?_ | refine w_b ?_ | refine w_c rfl rfl ?_ | refine w_d TT rfl rfl rfl rfl sd ?_ | refine w_e ?_ | refine w_f rfl rfl ?_ | refine w_g ?_ | refine w_h ?_ | refine w_i ?_ | refine w_j ?_ | refine w_k ?_ | refine w_l ?_ | refine w_m rfl ?_ | refine w_n rfl ?_ | refine w_o TM rfl kr ?_ | ((first | refine w_p rfl rfl rfl (fun hc => ?_) (fun hc => ?_) | refine w_q rfl rfl rfl (fun hc => ?_) (fun hc => ?_) | refine w_r rfl (fun hc => ?_) (fun hc => ?_)) <;> ((try simp at hc) <;> try contradiction))))
  · exact absurd (marks_at (by assumption)) hc
  · exact ⟨[], i + 1, by assumption, w_4, ⟨⟨rfl, congrArg some (congrArg vI (show k + (i : Int) + 1 = k + ((i + 1 : Nat) : Int) by omega)), rfl, trivial⟩, ⟨rfl, trivial⟩, rfl⟩⟩
  · have : i = n := by omega
    subst this
    refine fin_ret rfl w_3 (rfl) rfl
end Go.Proofs.YtfkbjkmlpinoeaaGreat
