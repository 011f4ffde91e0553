/-
  PLAIN LAW: an injective map of a finite list into itself: each point comes back, and if all of them need the same number of steps, it divides the list's length.
-/
import Derived.Test.YtbaaelampabhdaapComp
set_option linter.unusedVariables false
set_option linter.unusedSimpArgs false
namespace Go.Proofs.Ytbaaelampabhdaa

def iterT {α : Type} (T : α → α) : Nat → α → α
  | 0, x => x
  | n + 1, x => T (iterT T n x)
theorem iterT_add {α : Type} {T : α → α} {x : α} : ∀ {n m : Nat}, iterT T (n + m) x = iterT T n (iterT T m x)
  | 0, m => by rw [Nat.zero_add]; rfl
  | n + 1, m => by rw [show n + 1 + m = (n + m) + 1 by omega]; show T _ = T _; rw [iterT_add]
theorem nodup_le {α : Type} [DecidableEq α] : ∀ {l m : List α}, l.Nodup → (∀ x ∈ l, x ∈ m) → l.length ≤ m.length
  | [], _, _, _ => Nat.zero_le _
  | x :: l, m, h, hs => by
    have hx : x ∈ m := hs x (List.mem_cons_self ..)
    have h1 := List.nodup_cons.1 h
    have := nodup_le (l := l) (m := m.erase x) h1.2 fun y hy => by
      have hne : y ≠ x := fun e => h1.1 (e ▸ hy)
      exact (List.mem_erase_of_ne hne).2 (hs y (List.mem_cons_of_mem _ hy))
    have e := List.length_erase_of_mem hx
    have : 0 < m.length := List.length_pos_of_mem hx
    simp only [List.length_cons]; omega
section
variable {α : Type} {l : List α} {T : α → α}
def ptsT (T : α → α) (x : α) : Nat → List α
  | 0 => []
  | n + 1 => iterT T n x :: ptsT T x n
theorem ptsT_len {x : α} : ∀ {n : Nat}, (ptsT T x n).length = n
  | 0 => rfl
  | n + 1 => by simp [ptsT, ptsT_len (n := n)]
theorem mem_ptsT {x y : α} : ∀ {n : Nat}, y ∈ ptsT T x n ↔ ∃ k, k < n ∧ y = iterT T k x
  | 0 => by simp [ptsT]
  | n + 1 => by
    rw [ptsT, List.mem_cons, mem_ptsT (n := n)]
    constructor
    · rintro (h | ⟨k, h1, h2⟩)
      · exact ⟨n, by omega, h⟩
      · exact ⟨k, by omega, h2⟩
    · rintro ⟨k, h1, h2⟩
      rcases Nat.lt_or_ge k n with c | c
      · exact .inr ⟨k, c, h2⟩
      · obtain rfl : k = n := by omega
        exact .inl h2
theorem iter_mem (hl : ∀ x ∈ l, T x ∈ l) {x : α} (hx : x ∈ l) : ∀ n, iterT T n x ∈ l
  | 0 => hx
  | n + 1 => hl _ (iter_mem hl hx n)
theorem iter_back (hl : ∀ x ∈ l, T x ∈ l) (hi : ∀ x ∈ l, ∀ y ∈ l, T x = T y → x = y) {x : α} (hx : x ∈ l) : ∀ {i j : Nat}, iterT T (j + i) x = iterT T i x → iterT T j x = x
  | 0, _, h => h
  | i + 1, j, h => iter_back hl hi hx (i := i) (hi _ (iter_mem hl hx _) _ (iter_mem hl hx _) (by rw [← Nat.add_assoc] at h; exact h))
theorem ptsT_nodup (hl : ∀ x ∈ l, T x ∈ l) (hi : ∀ x ∈ l, ∀ y ∈ l, T x = T y → x = y) {x : α} (hx : x ∈ l) : ∀ {n : Nat}, (∀ k, 1 ≤ k → k < n → iterT T k x ≠ x) → (ptsT T x n).Nodup
  | 0, _ => List.nodup_nil
  | n + 1, h => by
    rw [ptsT, List.nodup_cons]
    refine ⟨fun hm => ?_, ptsT_nodup hl hi hx fun k h1 h2 => h k h1 (by omega)⟩
    obtain ⟨k, h1, h2⟩ := mem_ptsT.1 hm
    refine h (n - k) (by omega) (by omega) (iter_back hl hi hx (i := k) ?_)
    rw [show n - k + k = n by omega]; exact h2
/-- a point comes back -/
theorem orbit [DecidableEq α] (hl : ∀ x ∈ l, T x ∈ l) (hi : ∀ x ∈ l, ∀ y ∈ l, T x = T y → x = y) {x : α} (hx : x ∈ l) : ∃ n, 1 ≤ n ∧ n ≤ l.length ∧ iterT T n x = x ∧ ∀ k, 1 ≤ k → k < n → iterT T k x ≠ x := by
  have key : ∀ m n : Nat, m + n = l.length + 1 → 1 ≤ n → (∀ k, 1 ≤ k → k < n → iterT T k x ≠ x) → ∃ n, 1 ≤ n ∧ n ≤ l.length ∧ iterT T n x = x ∧ ∀ k, 1 ≤ k → k < n → iterT T k x ≠ x := fun m => by
    induction m with
    | zero =>
      intro n hn _ h
      have := nodup_le (ptsT_nodup hl hi hx h) (m := l) fun y hy => by
        obtain ⟨k, _, rfl⟩ := mem_ptsT.1 hy
        exact iter_mem hl hx k
      rw [ptsT_len] at this; omega
    | succ m ih =>
      intro n hn h1 h
      by_cases c : iterT T n x = x
      · exact ⟨n, h1, by omega, c, h⟩
      · refine ih (n + 1) (by omega) (by omega) fun k k1 k2 => ?_
        rcases Nat.lt_or_ge k n with q | q
        · exact h k k1 q
        · obtain rfl : k = n := by omega
          exact c
  exact key l.length 1 (by omega) (Nat.le_refl _) fun k h1 h2 => by omega
theorem filter_len [DecidableEq α] : ∀ {o m : List α}, o.Nodup → (∀ x ∈ o, x ∈ m) → m.Nodup → (m.filter fun y => !decide (y ∈ o)).length + o.length = m.length
  | [], m, _, _, _ => by simp
  | x :: o, m, h, hs, hm => by
    have h1 := List.nodup_cons.1 h
    have hx : x ∈ m := hs x (List.mem_cons_self ..)
    have ih := filter_len (o := o) (m := m.erase x) h1.2 (fun y hy => by
      have hne : y ≠ x := fun e => h1.1 (e ▸ hy)
      exact (List.mem_erase_of_ne hne).2 (hs y (List.mem_cons_of_mem _ hy))) (hm.erase x)
    have e := List.length_erase_of_mem hx
    have hp : 0 < m.length := List.length_pos_of_mem hx
    have e2 : (m.filter fun y => !decide (y ∈ x :: o)) = (m.erase x).filter fun y => !decide (y ∈ o) := by
      rw [hm.erase_eq_filter, List.filter_filter]
      apply List.filter_congr
      intro y _
      by_cases c1 : y = x <;> by_cases c2 : y ∈ o <;> simp [c1, c2]
    rw [e2, List.length_cons]; omega
/-- points that all come back after n steps, and not before, are a multiple of n -/
theorem lagr [DecidableEq α] {n : Nat} (hn : 1 ≤ n) : ∀ (m : Nat) (l : List α), l.length ≤ m → l.Nodup → (∀ x ∈ l, T x ∈ l) → (∀ x ∈ l, ∀ y ∈ l, T x = T y → x = y) → (∀ x ∈ l, iterT T n x = x) → (∀ x ∈ l, ∀ k, 1 ≤ k → k < n → iterT T k x ≠ x) → n ∣ l.length := fun m => by
  induction m with
  | zero => intro l h _ _ _ _ _; rw [show l.length = 0 by omega]; exact Nat.dvd_zero n
  | succ m ih =>
    intro l hlen hd hl hi hc hf
    cases l with
    | nil => exact Nat.dvd_zero n
    | cons x l0 =>
      generalize hL : x :: l0 = l at *
      have hx : x ∈ l := hL ▸ List.mem_cons_self ..
      have ho := ptsT_nodup hl hi hx (hf x hx)
      have hs : ∀ y ∈ ptsT T x n, y ∈ l := fun y hy => by
        obtain ⟨k, _, rfl⟩ := mem_ptsT.1 hy
        exact iter_mem hl hx k
      have e := filter_len ho hs hd
      rw [ptsT_len] at e
      have hm : ∀ y, y ∈ (l.filter fun y => !decide (y ∈ ptsT T x n)) ↔ y ∈ l ∧ y ∉ ptsT T x n := fun y => by simp [List.mem_filter]
      have := ih (l.filter fun y => !decide (y ∈ ptsT T x n)) (by omega) (hd.filter _) (fun y hy => ?_) (fun y hy z hz => hi y ((hm y).1 hy).1 z ((hm z).1 hz).1) (fun y hy => hc y ((hm y).1 hy).1) (fun y hy => hf y ((hm y).1 hy).1)
      · rw [← e]; exact Nat.dvd_add this (Nat.dvd_refl n)
      · obtain ⟨h1, h2⟩ := (hm y).1 hy
        refine (hm _).2 ⟨hl y h1, fun hin => h2 ?_⟩
        obtain ⟨k, k1, k2⟩ := mem_ptsT.1 hin
        cases k with
        | zero =>
          refine mem_ptsT.2 ⟨n - 1, by omega, hi y h1 _ (iter_mem hl hx _) ?_⟩
          have : T (iterT T (n - 1) x) = iterT T n x := by show iterT T (n - 1 + 1) x = _; rw [show n - 1 + 1 = n by omega]
          rw [k2, this, hc x hx]; rfl
        | succ k => exact mem_ptsT.2 ⟨k, by omega, hi y h1 _ (iter_mem hl hx _) k2⟩
end
end Go.Proofs.Ytbaaelampabhdaa
