/-
  WALKS: two slices of numbers compared.
-/
import Derived.Test.YtimaihabaflhiaaSlice
namespace Go.Proofs.Ytimaihabaflhiaa
open Go.RowKit

set_option maxHeartbeats 1000000 in
theorem eqIntS_any (A B : Option Addr) (c d : Nat) (xs ys : List Int) (w : World) (hx : RI w A xs) (hy : RI w B ys) (hn : xs.length ≤ 17592186044416) (hn' : ys.length ≤ 17592186044416) :
    Gives Try.prog 13 #[.slice A xs.length c, .slice B ys.length d] w (.bool (decide (xs = ys))) := by
  refine Gives.of_below ?_
  by_cases hl : xs.length = ys.length
  · have hl1 : ((xs.length : Int) != (ys.length : Int)) = false := by rw [hl]; simp
    have hl2 : ((xs.length : Int) != (xs.length : Int)) = false := by simp
    have HL := Lib.hid hl
    clear hl
    go_enter Try.func13, Try.ntmps13
    go_wp2
    go_loopw [5] (fun i wr => ∃ k : Nat, k ≤ xs.length ∧ i = .int .i64 k ∧ Hid (xs.take k = ys.take k) ∧ Below w.heap.size w wr) (fun i _ => xs.length - (intOf i).toNat)
    case atStart => exact ⟨0, Nat.zero_le _, rfl, rfl, Below.refl _ _⟩
    case round =>
      obtain ⟨k, hk, rfl, he, hb⟩ := hrel
      by_cases hlt : k < xs.length
      · have hlt' : k < ys.length := by have := HL.out; omega
        obtain ⟨b, off, rfl, hbl, hcell⟩ := (hx.up hb).at_ hlt
        obtain ⟨b', off', rfl, hbl', hcell'⟩ := (hy.up hb).at_ hlt'
        by_cases hv : xs[k] = ys[k]
        · have hv' : (xs[k] != ys[k]) = false := by simp [hv]
          have HV := Lib.hid hv
          clear hv
          go_wp2
          (refine wp_region_ext (by kernel_rfl) (by kernel_rfl) ?_; (repeat (go_big_quiet_step (fail))); refine wpQuiet_nil ?_; intro _ hw'; obtain ⟨xq, hw''⟩ := hw'; subst hw'')
          go_wp2
          go_roundw
          case rel => exact ⟨k + 1, hlt, by go_num, by
            show xs.take (k+1) = ys.take (k+1)
            rw [List.take_succ_eq_append_getElem hlt, List.take_succ_eq_append_getElem hlt', he.out, HV.out], (by repeat' (first | (with_reducible exact Below.refl _ _) | (with_reducible assumption) | (refine Below.via (by with_reducible assumption) ?_ ?_) | (with_reducible refine Ext.up _ ?_ ?_) | (with_reducible exact Nat.le_refl _) | (exact Below.size (by with_reducible assumption)) | (with_reducible refine Ext.le_size _ ?_) | (with_reducible refine le_alloc ?_ _) | (with_reducible refine le_setCell ?_ _ _) | (with_reducible refine le_drew ?_) | (with_reducible refine Below.alloc ?_ ?_ _) | (with_reducible refine Below.drew ?_) | (with_reducible refine Below.setCell ?_ ?_ _) | go_size | (simp [go_sem]; done) | omega | (simp [go_sem]; omega)))⟩
          case measure => simp [intOf]; omega
        · have hv' : (xs[k] != ys[k]) = true := by simp [hv]
          have hne : xs ≠ ys := fun e => hv (by subst e; rfl)
          have HN := Lib.hid hne
          clear hne hv
          go_wp2
          (refine wp_region_ext (by kernel_rfl) (by kernel_rfl) ?_; (repeat (go_big_quiet_step (fail))); refine wpQuiet_nil ?_; intro _ hw'; obtain ⟨xq, hw''⟩ := hw'; subst hw'')
          go_wp2
          go_ret
          exact ⟨ret_bool (by simp [HN.out]), (by repeat' (first | (with_reducible exact Below.refl _ _) | (with_reducible assumption) | (refine Below.via (by with_reducible assumption) ?_ ?_) | (with_reducible refine Ext.up _ ?_ ?_) | (with_reducible exact Nat.le_refl _) | (exact Below.size (by with_reducible assumption)) | (with_reducible refine Ext.le_size _ ?_) | (with_reducible refine le_alloc ?_ _) | (with_reducible refine le_setCell ?_ _ _) | (with_reducible refine le_drew ?_) | (with_reducible refine Below.alloc ?_ ?_ _) | (with_reducible refine Below.drew ?_) | (with_reducible refine Below.setCell ?_ ?_ _) | go_size | (simp [go_sem]; done) | omega | (simp [go_sem]; omega)))⟩
      · go_wp2
        go_ret
        have h1 : k = xs.length := by omega
        have h2 : xs = ys := by
          have := he.out
          rw [h1, List.take_of_length_le (Nat.le_refl _), List.take_of_length_le (by rw [HL.out]; exact Nat.le_refl _)] at this
          exact this
        exact ⟨ret_bool (by simp [h2]), hb⟩
  · have hl1 : ((xs.length : Int) != (ys.length : Int)) = true := by simp; omega
    have hne : xs ≠ ys := fun e => hl (by rw [e])
    have HN := Lib.hid hne
    clear hne hl
    go_enter Try.func13, Try.ntmps13
    go_wp2
    go_ret
    exact ⟨ret_bool (by simp [HN.out]), Below.refl _ _⟩
end Go.Proofs.Ytimaihabaflhiaa
