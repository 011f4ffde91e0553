/-
  TEXTS OF THE PROOF, put together: bDrawK, bGram, Am14, bRaysFn, Law, bLaw, bLawB.
-/
import Derived.Test.YtfkbjkmlpinoeaaGreatR31
import Derived.Test.YtfkbjkmlpinoeaaGreatR22
import Derived.Test.YtfkbjkmlpinoeaaGreatR20
import Derived.Test.YtfkbjkmlpinoeaaGreatR28
import Derived.Test.YtfkbjkmlpinoeaaGreatR17
import Derived.Test.YtfkbjkmlpinoeaaGreatRows
import Derived.Test.YtfkbjkmlpinoeaaGreatR07
import Derived.ProofKit
import Derived.Lib.SmallJoins
import Derived.OpenShut
import Derived.Test.YtfkbjkmlpinoeaaGreatR08
set_option linter.unusedVariables false
set_option linter.unusedSimpArgs false
namespace Go.Proofs.YtfkbjkmlpinoeaaGreat
open Go.RowKit
def DrewMul (t : TypeId) (v : AV) (Hout : List (Nat × Blk)) (n1 : Nat) : Prop :=
  ∃ (k : Nat) (r : Int) (zs cs : List Int) (cap cc : Nat), (1 ≤ k ∧ k ≤ 3) ∧ zs.length ≤ 1000 ∧ cs.length = k ∧ zs.length ≤ cap ∧ cs.length ≤ cc ∧ v = .tup [.agg [.int r, .int k, .sl 2 1 0 zs.length cap], .one (.sl 3 1 0 cs.length cc)] ∧ Hout = [(2, .own t cap (.ints zs)), (3, .own t cc (.ints cs))] ∧ n1 = 4
def DrewRay (t : TypeId) (v : AV) (Hout : List (Nat × Blk)) (n1 : Nat) : Prop :=
  ∃ (k : Nat) (r : Int) (zs : List Int) (cap : Nat), (1 ≤ k ∧ k ≤ 3) ∧ zs.length ≤ 1000 ∧ zs.length ≤ cap ∧ v = .agg [.int r, .int k, .sl 2 1 0 zs.length cap] ∧ Hout = [(2, .own t cap (.ints zs))] ∧ n1 = 3
theorem d_drawRay (bs : List Int) (c : Nat) (hl : bs.length ≤ 1048576) : Does Tryz.prog 11 [vS 1 1 0 bs.length c] [(1, .ro (.bytes bs))] 2 (DrewRay 3) := by
 refine Does.intro TT Tryz.func11 rfl (by kernel_rfl) Zz Zz fun E hE => ?_
 ((repeat' (first | refine stp ?_ | ((refine w_E (d_l1New bs c hl) Zz Zz Zz Zz Zz Zz Zz ft rfl ?_); rintro v Hout n1 ⟨i0, h0, rfl, rfl, rfl⟩) | ((refine w_E (d_l27Cone bs c _ _ hl) Zz Zz Zz Zz Zz Zz Zz ft rfl ?_); rintro v Hout n1 ⟨k, hk, r, zs, capz, i1, h1, hz, hcapz, rfl, rfl, rfl⟩) | (refine stq ?_ ?_ <;> (intro hc; ((try simp at hc) <;> try contradiction))) | fail)) <;> try (exfalso; omega))
 all_goals exact fin rfl w_3 [(2, 4)] (.agg [.int r, .int k, .sl 2 1 0 zs.length capz]) [(2, .own 3 capz (.ints zs))] 3 ⟨k, r, zs, capz, hk, hz, hcapz, rfl, rfl, rfl⟩ rfl ⟨trivial, ⟨rfl, trivial⟩, rfl⟩ rfl
end Go.Proofs.YtfkbjkmlpinoeaaGreat
namespace Go.Proofs.YtfkbjkmlpinoeaaGreat
open Go.RowKit
def sameM (r c r' c' : Int) (xs ys : List Int) : Bool := decide (r = r' ∧ c = c' ∧ xs = ys)
theorem take_all {xs ys : List Int} {k : Nat} (hl : xs.length = ys.length) (hk : ¬ k < xs.length) (h : xs.take k = ys.take k) : xs = ys := by
  rwa [List.take_of_length_le (by omega), List.take_of_length_le (by omega)] at h
theorem take_next {xs ys : List Int} {k : Nat} (h1 : k < xs.length) (h2 : k < ys.length) (h : xs.take k = ys.take k) (he : xs[k] = ys[k]) : xs.take (k + 1) = ys.take (k + 1) := by
  rw [List.take_succ_eq_append_getElem h1, List.take_succ_eq_append_getElem h2, h, he]
theorem d_equalSl (xs ys : List Int) (c d : Nat) (hl : xs.length ≤ 1099511627776) (hl' : ys.length ≤ 1099511627776) : Does Tryz.prog 55 [vS 1 1 0 xs.length c, vS 2 1 0 ys.length d] [(1, .ro (.ints xs)), (2, .ro (.ints ys))] 3 (Ret (vB (decide (xs = ys))) 3) := by
 refine Does.intro TT Tryz.func55 rfl (by kernel_rfl) Zz Zz fun E hE => ?_
 by_cases he : xs.length = ys.length
 ·((repeat' (first | refine stx ?_ | (refine stq ?_ ?_ <;> (intro hc; ((try simp at hc) <;> try contradiction))) | fail)) <;> try (exfalso; omega))
  refine w_G hE (fun k : Nat => k ≤ xs.length ∧ xs.take k = ys.take k) (fun k => xs.length - k)
   (fun k => [(0, vS 1 1 0 xs.length c), (1, vS 2 1 0 ys.length d), (12, vI xs.length), (13, vI k)]) (fun _ => [(1, .ro (.ints xs)), (2, .ro (.ints ys))]) 3 [] 0 ⟨Nat.zero_le _, rfl⟩ ⟨w_1, w_2, rfl⟩ ?_
  rintro k ⟨h1, h2⟩
  by_cases hk : k < xs.length
  ·have hk' : k < ys.length := by omega
   ((repeat' (first | refine stx ?_ | (refine stq ?_ ?_ <;> (intro hc; ((try simp at hc) <;> try contradiction))) | fail)) <;> try (exfalso; omega))
   ·refine fin_ret rfl w_3 (congrArg vB ?_) rfl
    rw [gD hk, gD hk'] at hc
    symm; apply decide_eq_false; intro e; subst e; exact hc rfl
   ·rw [gD hk, gD hk'] at hc
    exact ⟨[], k + 1, ⟨by omega, take_next hk hk' h2 hc⟩, w_4, ⟨w_1, w_2, rfl⟩⟩
  ·((repeat' (first | refine stx ?_ | (refine stq ?_ ?_ <;> (intro hc; ((try simp at hc) <;> try contradiction))) | fail)) <;> try (exfalso; omega))
   refine fin_ret rfl w_3 (congrArg vB ?_) rfl
   simp [take_all he hk h2]
 ·((repeat' (first | refine stx ?_ | (refine stq ?_ ?_ <;> (intro hc; ((try simp at hc) <;> try contradiction))) | fail)) <;> try (exfalso; omega))
  refine fin_ret rfl w_3 (congrArg vB ?_) rfl
  symm; apply decide_eq_false; intro e; subst e; exact he rfl
theorem d_sameI (r c r' c' : Int) (xs ys : List Int) (ca cb : Nat) (hl : xs.length ≤ 1099511627776) (hl' : ys.length ≤ 1099511627776) : Does Tryz.prog 20 [vM r c 1 xs.length ca, vM r' c' 2 ys.length cb] [(1, .ro (.ints xs)), (2, .ro (.ints ys))] 3 (Ret (vB (sameM r c r' c' xs ys)) 3) := by
 refine Does.intro TT Tryz.func20 rfl (by kernel_rfl) Zz Zz fun E hE => ?_
 have hd := d_equalSl xs ys ca cb hl hl'
 cases he : decide (xs = ys)
 all_goals
  rw [he] at hd
  simp only [decide_eq_false_iff_not, decide_eq_true_eq] at he
  ((repeat' (first | refine stx ?_ | (first | refine w_z (hd) Zz Zz Zz Zz Zz Zz Zz Zz ft Zz Zz ?_ | refine w_A (hd) Zz Zz Zz Zz Zz Zz Zz Zz ft Zz Zz ?_) | (refine stq ?_ ?_ <;> (intro hc; ((try simp at hc) <;> try contradiction))) | fail)) <;> try (exfalso; omega))
 all_goals refine fin_ret rfl w_3 (congrArg vB (by rw [Bool.eq_iff_iff]; simp [sameM, he]; try omega)) rfl
def gramB (r c : Int) (xs : List Int) : Bool := sqB r c xs && decide (turnM xs r.toNat c.toNat = xs)
def symTo (xs : List Int) (n i j : Nat) : Prop := ∀ p q, (p < i ∧ q < p) ∨ (p = i ∧ q < j) → xs.getD (p * n + q) 0 = xs.getD (q * n + p) 0
def chgZ (gr gc : Int) (gx : List Int) (ur uc : Int) (ux : List Int) : Option (List Int) := match gramB gr gc gx with
  | true => match mulZ ur uc gr gc ux gx with
    | some p => mulZ ur gc uc ur p (turnM ux ur.toNat uc.toNat)
    | none => none
  | false => none
def isoB (gr gc : Int) (gx : List Int) (hr hc : Int) (hx : List Int) (ur uc : Int) (ux : List Int) : Bool := match chgZ hr hc hx ur uc ux with
  | some z => sameM ur ur gr gc z gx && unimB ur uc ux
  | none => false
end Go.Proofs.YtfkbjkmlpinoeaaGreat
namespace Go.Proofs.YtfkbjkmlpinoeaaGreat
open Go.RowKit
section
variable {P : Program} {E : Env} {N : Nat} {Q : Post} {fr : Nat → Option AV} {H : Nat → Option Blk} {nx : Nat} {l0 : List Oper} {ρs : Rho} {nxs : Nat} {hs : List (Nat × Blk)} {fuel : Nat} {listed : Array Bool}
theorem Inv.view2 {ρ : Rho} {a : Act} {w : World} (hI : Inv E N ρ ⟨fr, H, nx⟩ a w) {t k o m sz cp : Nat} {b : Blk} {e e' : Elts} (ht : fr t = some (.one (.sl k sz o m cp))) (hk : H k = some b) (hb : b.isOwn = false) (he : b.elts = some e) (hs : e.sub o m = some e') (hz : e.sz = sz) (hle : o + m ≤ e.len) (hr : e.rds = []) (hks : keysOf e.all = []) :
    ∃ a' ρ', Inv E N ρ' ⟨upd fr t (.one (.sl nx sz 0 m cp)), upd H nx (.al a' e'), nx + 1⟩ a w ∧ ∀ q, q < nx → ρ' q = ρ q := by
  refine ⟨_, _, ⟨?_, hI.h.view hk hb he hs hle hr hks⟩, fun q hq => setR_ne (Nat.ne_of_lt hq)⟩
  have hkn := (hI.h.key k b hk).1
  have hf := hI.f.mono (ρ' := setR ρ nx ((ρ k).map fun p => (p.1, p.2 + o * e.sz))) (nx' := nx + 1) (fun q hq => setR_ne (Nat.ne_of_lt hq)) (Nat.le_succ _)
  refine ⟨hf.defers, hf.size, fun s v hv => ?_, fun s v hv q hq => ?_⟩ <;> dsimp only at hv ⊢
  · by_cases c : s = t
    · subst c
      rw [upd_same] at hv
      cases hv
      rw [hI.f.val _ _ ht]
      simp only [AV.conc, SV.conc, adr, setR_same, Nat.zero_mul]
      cases ρ k with
      | none => rfl
      | some p => simp [hz]
    · rw [upd_ne c] at hv; exact hf.val s v hv
  · by_cases c : s = t
    · subst c
      rw [upd_same] at hv
      cases hv
      simp [AV.keys, SV.keys] at hq
      omega
    · rw [upd_ne c] at hv; exact hf.key s v hv q hq
theorem awpHop_view {i : Nat} (t : Nat) {k o m sz cp : Nat} {b : Blk} {e e' : Elts} (ht : fr t = some (.one (.sl k sz o m cp))) (hk : H k = some b) (hb : b.isOwn = false) (he : b.elts = some e) (hs' : e.sub o m = some e') (hz : e.sz = sz) (hle : o + m ≤ e.len) (hr : e.rds = []) (hks : keysOf e.all = [])
    (h : ∀ a', awpHop P E N l0 Q ρs nxs hs fuel listed i ⟨upd fr t (.one (.sl nx sz 0 m cp)), upd H nx (.al a' e'), nx + 1⟩) : awpHop P E N l0 Q ρs nxs hs fuel listed i ⟨fr, H, nx⟩ := by
  unfold awpHop at *
  intro ρ a w hh
  obtain ⟨a', ρ', hI', h3⟩ := hh.inv.view2 ht hk hb he hs' hz hle hr hks
  exact h a' ρ' a w ⟨hI', fun k hk => (h3 k (Nat.lt_of_lt_of_le hk hh.le)).trans (hh.agree k hk), hh.held, Nat.le_trans hh.le (Nat.le_succ _)⟩
end
end Go.Proofs.YtfkbjkmlpinoeaaGreat
namespace Go.Proofs.YtfkbjkmlpinoeaaGreat
open Go.RowKit
theorem raysB_some {r c : Int} {xs : List Int} {s : List Int × Nat} (h : raysB r c xs = some s) : ∃ L, raysO r c xs = some L ∧ s = (L.flatten, L.length) := by
  rw [raysB, Option.map_eq_some_iff] at h
  obtain ⟨L, h1, h2⟩ := h
  exact ⟨L, h1, h2.symm⟩
theorem rays_facts {r c : Int} {xs : List Int} {L : List (List Int)} (h : raysO r c xs = some L) : ∃ a b : Nat, r = a ∧ c = b ∧ a ≤ 8 ∧ 1 ≤ b ∧ b ≤ 3 ∧ xs.length = a * b ∧ xs.all numB = true ∧ coneM a b xs = true ∧ L.length ≤ 24 ∧ L.flatten.length = L.length * b ∧ (∀ v ∈ L, v.length = b ∧ v.all numB = true ∧ inConeB a b xs v = true) := by
  have h24 := (raysO_row h).1
  obtain ⟨a, b, raw, rfl, rfl, ha, hb1, hb, hx, hn, hC, hp, hr, rfl⟩ := raysO_some h
  have hrow := fun v (hv : v ∈ addsL raw) => cand_row hx hn hC hb1 hr v (mem_addsL.1 hv)
  exact ⟨a, b, rfl, rfl, ha, hb1, hb, hx, hn, hC, h24, flat_lenX fun v hv => (hrow v hv).1, fun v hv => ⟨(hrow v hv).1, (hrow v hv).2, (inCone_iff hC).2 ⟨(hrow v hv).1, (hrow v hv).2, ((raw_iff hC hx hn hb1 hb hr v).1 (mem_addsL.1 hv)).ext.mem⟩⟩⟩
set_option maxRecDepth 100000 in
set_option maxHeartbeats 32000000 in
theorem d_fnRays (bs : List Int) (c : Nat) : Does Tryz.prog 3 [vS 1 1 0 bs.length c] [(1, .ro (.bytes bs))] 2 (Ret (vB true) 2) := by
 refine Does.intro TT Tryz.func3 rfl (by kernel_rfl) Zz Zz fun E hE => ?_
 by_cases hbg : (1048576 : Int) < bs.length
 ·((repeat' (first | refine stx ?_ | ((first | refine w_z (d_big _ _) Zz Zz Zz Zz Zz Zz Zz Zz ft Zz Zz ?_ | refine w_A (d_big _ _) Zz Zz Zz Zz Zz Zz Zz Zz ft Zz Zz ?_) <;> simp only [hbg]) | (refine stq ?_ ?_ <;> (intro hc; ((try simp at hc) <;> try contradiction))) | fail)) <;> try (exfalso; omega))
  all_goals refine fin_ret rfl w_3 (rfl) rfl
 ·have hl : bs.length ≤ 1048576 := by omega
  ((repeat' (first | refine stp ?_ | ((first | refine w_z (d_big _ _) Zz Zz Zz Zz Zz Zz Zz Zz ft Zz Zz ?_ | refine w_A (d_big _ _) Zz Zz Zz Zz Zz Zz Zz Zz ft Zz Zz ?_) <;> simp only [hbg]) | ((refine w_E (d_drawRay bs c hl) Zz Zz Zz Zz Zz Zz Zz ft rfl ?_)) | (refine stq ?_ ?_ <;> (intro hc; ((try simp at hc) <;> try contradiction))) | fail)) <;> try (exfalso; omega))
  rintro v Hout n1 ⟨kc, r, xs, ca, hk, hxl, hxc, rfl, rfl, rfl⟩
  have hx1 : xs.length ≤ 1099511627776 := by omega
  have h1 := d_raysI r kc xs ca hx1 hxc
  have h2 := d_raysS r kc xs ca hx1
  rw [show raysT r kc xs = raysB r kc xs from rfl] at h2
  cases hB : raysB r kc xs with
  | none =>
   rw [hB] at h1 h2
   ((repeat' (first | refine stx ?_ | ((refine w_E (h1) Zz Zz Zz Zz Zz Zz Zz ft rfl ?_); rintro v Hout n1 ⟨rfl, rfl, rfl⟩) | ((refine w_E (h2) Zz Zz Zz Zz Zz Zz Zz ft rfl ?_); rintro v Hout n1 ⟨rfl, rfl, rfl⟩) | (refine stq ?_ ?_ <;> (intro hc; ((try simp at hc) <;> try contradiction))) | fail)) <;> try (exfalso; omega))
   all_goals refine fin_ret rfl w_3 (rfl) rfl
  | some s =>
   rw [hB] at h1 h2
   obtain ⟨L, hL, rfl⟩ := raysB_some hB
   obtain ⟨a, b, rfl, eb, ha, hb1, hb, hx, hxn, hC, hL24, hfl, hLr⟩ := rays_facts hL
   have : b = kc := by omega
   subst this
   have hfl2 : L.flatten.length ≤ 72 := by rw [hfl]; exact Nat.mul_le_mul hL24 hb
   ((repeat' (first | refine stx ?_ | ((refine w_E (h1) Zz Zz Zz Zz Zz Zz Zz ft rfl ?_); rintro v Hout n1 ⟨cr, hcr, rfl, rfl, rfl⟩) | ((refine w_E (h2) Zz Zz Zz Zz Zz Zz Zz ft rfl ?_); rintro v Hout n1 ⟨cs, hcs, rfl, rfl, rfl⟩) | (refine stq ?_ ?_ <;> (intro hc; ((try simp at hc) <;> try contradiction))) | fail)) <;> try (exfalso; omega))
   ((first | refine awpL_ghost (Ghost.reveal 2 rfl) ?_ | refine awp_ghost (Ghost.reveal 2 rfl) ?_ | refine awpH_ghost (Ghost.reveal 2 rfl) ?_ | refine awpHop_ghost (Ghost.reveal 2 rfl) ?_); rintro _ _ ⟨ax, rfl, rfl⟩)
   ((first | refine awpL_ghost (Ghost.reveal 4 rfl) ?_ | refine awp_ghost (Ghost.reveal 4 rfl) ?_ | refine awpH_ghost (Ghost.reveal 4 rfl) ?_ | refine awpHop_ghost (Ghost.reveal 4 rfl) ?_); rintro _ _ ⟨ar, rfl, rfl⟩)
   refine w_G hE (fun i : Nat => i ≤ L.length) (fun i => L.length - i)
    (fun i => [(3, .one (.ptr 3 3 0 0)), (4, .one (.ptr 5 3 0 0)), (8, vI i)]) (fun i => [(2, .al ax (.ints xs)), (3, .own 26 1 (.lit [.int a, .int b, .sl 2 1 0 xs.length ca])), (4, .al ar (.ints L.flatten)), (5, .own 26 1 (.lit [.int L.length, .int b, .sl 4 1 0 L.flatten.length cr]))]) 8 [] 0 (Nat.zero_le _) ⟨w_1, w_2, rfl⟩ ?_
   intro i hi
   by_cases hil : i < L.length
   ·have hil2 : ¬ L.length ≤ i := by omega
    obtain ⟨q1, q2, q3, q4, q5⟩ := sl_row (ca := cr) hil hb1 hfl hcr
    obtain ⟨g1, g2, g3⟩ := hLr (L.getD i []) (by rw [getD_in hil]; exact List.getElem_mem hil)
    have hY : (L.flatten.drop (slOff 0 ((i : Int) * b).toNat cr)).take ((((i : Int) + 1) * b).toNat - ((i : Int) * b).toNat) = L.getD i [] := by
     rw [q1, q2]; exact flat_row (fun v hv => (hLr v hv).1) hil
    have ht := fun ca' cb (h : xs.length ≤ ca') => d_tightL a b ((((i : Int) + 1) * b).toNat - ((i : Int) * b).toNat) xs (L.getD i []) ca' cb (by rw [q2, g1]) hx1 h ha hb1 hb hx hxn g1 g2
    have hin := fun ca' cb (h : xs.length ≤ ca') => d_inConeI a b xs (L.getD i []) ca' cb hx1 (by omega) h
    rw [g3, show (L.getD i []).length = (((i : Int) + 1) * b).toNat - ((i : Int) * b).toNat by rw [q2, g1]] at hin
    have hex := fun ca' cb (h : xs.length ≤ ca') => d_extI a b xs (L.getD i []) ca' cb hx1 (by omega) h
    rw [show (L.getD i []).length = (((i : Int) + 1) * b).toNat - ((i : Int) * b).toNat by rw [q2, g1]] at hex
    have hTl : (pickR xs b (tightN xs b (L.getD i []) a)).length ≤ 24 := by
     rw [pickR_len hx fun p hp => tightN_lt p hp]
     have := tightN_len (xs := xs) (c := b) (ys := L.getD i []) (i := a)
     exact Nat.le_trans (Nat.mul_le_mul this hb) (by omega)
    have hrk := fun ca' => d_rankS ((tightN xs b (L.getD i []) a).length : Nat) b (pickR xs b (tightN xs b (L.getD i []) a)) ca' (by omega)
    have hrr := fun k => ray_rank (k := k) hL (v := L.getD i []) (by rw [getD_in hil]; exact List.getElem_mem hil)
    rw [← hY] at ht hin hex hrk hrr
    cases hr : rankB ((tightN xs b ((L.flatten.drop (slOff 0 ((i : Int) * b).toNat cr)).take ((((i : Int) + 1) * b).toNat - ((i : Int) * b).toNat)) a).length : Nat) b (pickR xs b (tightN xs b ((L.flatten.drop (slOff 0 ((i : Int) * b).toNat cr)).take ((((i : Int) + 1) * b).toNat - ((i : Int) * b).toNat)) a)) with
    | none =>
     rw [hr] at hrk
     ((repeat' (first | refine stx ?_ | ((refine awpL_view 62 Zz Zz Zz Zz Zz Zz (by first | omega | (simp only [Elts.len]; omega)) rfl ints_keys ?_; intro av); (refine w_E (ht _ _ hxc) Zz Zz Zz Zz Zz Zz Zz ft rfl ?_); rintro v Hout n1 ⟨ct, hct, rfl, rfl, rfl⟩) | (first | refine w_z (hrk _) Zz Zz Zz Zz Zz Zz Zz Zz ft Zz Zz ?_ | refine w_A (hrk _) Zz Zz Zz Zz Zz Zz Zz Zz ft Zz Zz ?_) | ((refine awpL_view 68 Zz Zz Zz Zz Zz Zz (by first | omega | (simp only [Elts.len]; omega)) rfl ints_keys ?_; intro av); (first | refine w_z (hin _ _ hxc) Zz Zz Zz Zz Zz Zz Zz Zz ft Zz Zz ?_ | refine w_A (hin _ _ hxc) Zz Zz Zz Zz Zz Zz Zz Zz ft Zz Zz ?_)) | ((refine awpL_view 75 Zz Zz Zz Zz Zz Zz (by first | omega | (simp only [Elts.len]; omega)) rfl ints_keys ?_; intro av); (first | refine w_z (hex _ _ hxc) Zz Zz Zz Zz Zz Zz Zz Zz ft Zz Zz ?_ | refine w_A (hex _ _ hxc) Zz Zz Zz Zz Zz Zz Zz Zz ft Zz Zz ?_)) | (refine stq ?_ ?_ <;> (intro hc; ((try simp at hc) <;> try contradiction))) | fail)) <;> try (exfalso; omega))
     exact ⟨[], i + 1, hil, w_4, ⟨w_1, w_2, rfl⟩⟩
    | some k =>
     rw [hr] at hrk
     rw [hrr k hr] at hex
     ((repeat' (first | refine stx ?_ | ((refine awpL_view 62 Zz Zz Zz Zz Zz Zz (by first | omega | (simp only [Elts.len]; omega)) rfl ints_keys ?_; intro av); (refine w_E (ht _ _ hxc) Zz Zz Zz Zz Zz Zz Zz ft rfl ?_); rintro v Hout n1 ⟨ct, hct, rfl, rfl, rfl⟩) | (first | refine w_z (hrk _) Zz Zz Zz Zz Zz Zz Zz Zz ft Zz Zz ?_ | refine w_A (hrk _) Zz Zz Zz Zz Zz Zz Zz Zz ft Zz Zz ?_) | ((refine awpL_view 68 Zz Zz Zz Zz Zz Zz (by first | omega | (simp only [Elts.len]; omega)) rfl ints_keys ?_; intro av); (first | refine w_z (hin _ _ hxc) Zz Zz Zz Zz Zz Zz Zz Zz ft Zz Zz ?_ | refine w_A (hin _ _ hxc) Zz Zz Zz Zz Zz Zz Zz Zz ft Zz Zz ?_)) | ((refine awpL_view 75 Zz Zz Zz Zz Zz Zz (by first | omega | (simp only [Elts.len]; omega)) rfl ints_keys ?_; intro av); (first | refine w_z (hex _ _ hxc) Zz Zz Zz Zz Zz Zz Zz Zz ft Zz Zz ?_ | refine w_A (hex _ _ hxc) Zz Zz Zz Zz Zz Zz Zz Zz ft Zz Zz ?_)) | (refine stq ?_ ?_ <;> (intro hc; ((try simp at hc) <;> try contradiction))) | fail)) <;> try (exfalso; omega))
     exact ⟨[], i + 1, hil, w_4, ⟨w_1, w_2, rfl⟩⟩
   ·obtain rfl : i = L.length := by omega
    have hri := fun ca => d_rankI L.length b L.flatten ca (by omega)
    cases hr : rankB L.length b L.flatten with
    | none =>
     rw [hr] at hri
     ((repeat' (first | refine stx ?_ | (first | refine w_z (hri _) Zz Zz Zz Zz Zz Zz Zz Zz ft Zz Zz ?_ | refine w_A (hri _) Zz Zz Zz Zz Zz Zz Zz Zz ft Zz Zz ?_) | (refine stq ?_ ?_ <;> (intro hc; ((try simp at hc) <;> try contradiction))) | fail)) <;> try (exfalso; omega))
     all_goals refine fin_ret rfl w_3 (rfl) rfl
    | some n =>
     rw [hr] at hri
     by_cases hnb : n < b
     ·((repeat' (first | refine stx ?_ | (first | refine w_z (hri _) Zz Zz Zz Zz Zz Zz Zz Zz ft Zz Zz ?_ | refine w_A (hri _) Zz Zz Zz Zz Zz Zz Zz Zz ft Zz Zz ?_) | (refine stq ?_ ?_ <;> (intro hc; ((try simp at hc) <;> try contradiction))) | fail)) <;> try (exfalso; omega))
      all_goals refine fin_ret rfl w_3 (rfl) rfl
     ·by_cases hL8 : 8 < L.length
      ·((repeat' (first | refine stx ?_ | (first | refine w_z (hri _) Zz Zz Zz Zz Zz Zz Zz Zz ft Zz Zz ?_ | refine w_A (hri _) Zz Zz Zz Zz Zz Zz Zz Zz ft Zz Zz ?_) | (refine stq ?_ ?_ <;> (intro hc; ((try simp at hc) <;> try contradiction))) | fail)) <;> try (exfalso; omega))
       all_goals refine fin_ret rfl w_3 (rfl) rfl
      ·have h3 := fun ca h => d_facI L.length b L.flatten ca (by omega) h
       cases hF : raysB L.length b L.flatten with
       | none =>
        rw [hF] at h3
        ((repeat' (first | refine stx ?_ | (first | refine w_z (hri _) Zz Zz Zz Zz Zz Zz Zz Zz ft Zz Zz ?_ | refine w_A (hri _) Zz Zz Zz Zz Zz Zz Zz Zz ft Zz Zz ?_) | ((refine w_E (h3 _ hcr) Zz Zz Zz Zz Zz Zz Zz ft rfl ?_); rintro v Hout n1 ⟨rfl, rfl, rfl⟩) | (refine stq ?_ ?_ <;> (intro hc; ((try simp at hc) <;> try contradiction))) | fail)) <;> try (exfalso; omega))
        all_goals refine fin_ret rfl w_3 (rfl) rfl
       | some sf =>
        rw [hF] at h3
        obtain ⟨Lf, hLf, rfl⟩ := raysB_some hF
        obtain ⟨a2, b2, ea2, eb2, -, -, -, -, -, hC2, hf24, hffl, -⟩ := rays_facts hLf
        have : L.length = a2 := by omega
        subst this
        have : b = b2 := by omega
        subst this
        have hffl2 : Lf.flatten.length ≤ 72 := by rw [hffl]; exact Nat.mul_le_mul hf24 hb
        by_cases hf8 : 8 < Lf.length
        ·((repeat' (first | refine stx ?_ | (first | refine w_z (hri _) Zz Zz Zz Zz Zz Zz Zz Zz ft Zz Zz ?_ | refine w_A (hri _) Zz Zz Zz Zz Zz Zz Zz Zz ft Zz Zz ?_) | ((refine w_E (h3 _ hcr) Zz Zz Zz Zz Zz Zz Zz ft rfl ?_); rintro v Hout n1 ⟨cf, hcf, rfl, rfl, rfl⟩) | (refine stq ?_ ?_ <;> (intro hc; ((try simp at hc) <;> try contradiction))) | fail)) <;> try (exfalso; omega))
         all_goals refine fin_ret rfl w_3 (rfl) rfl
        ·have h4 := fun ca h => d_raysI Lf.length b Lf.flatten ca (by omega) h
         cases hBk : raysB Lf.length b Lf.flatten with
         | none =>
          rw [hBk] at h4
          ((repeat' (first | refine stx ?_ | (first | refine w_z (hri _) Zz Zz Zz Zz Zz Zz Zz Zz ft Zz Zz ?_ | refine w_A (hri _) Zz Zz Zz Zz Zz Zz Zz Zz ft Zz Zz ?_) | ((refine w_E (h3 _ hcr) Zz Zz Zz Zz Zz Zz Zz ft rfl ?_); rintro v Hout n1 ⟨cf, hcf, rfl, rfl, rfl⟩) | ((refine w_E (h4 _ hcf) Zz Zz Zz Zz Zz Zz Zz ft rfl ?_); rintro v Hout n1 ⟨rfl, rfl, rfl⟩) | (refine stq ?_ ?_ <;> (intro hc; ((try simp at hc) <;> try contradiction))) | fail)) <;> try (exfalso; omega))
          refine w_G hE (fun i : Nat => i ≤ a) (fun i => a - i)
           (fun i => [(3, .one (.ptr 3 3 0 0)), (4, .one (.ptr 5 3 0 0)), (16, .one (.ptr 10 3 0 0)), (17, vB false), (18, vI i)]) (fun i => [(2, .al ax (.ints xs)), (3, .own 26 1 (.lit [.int a, .int b, .sl 2 1 0 xs.length ca])), (4, .al ar (.ints L.flatten)), (5, .own 26 1 (.lit [.int L.length, .int b, .sl 4 1 0 L.flatten.length cr])), (10, .own 26 1 (.lit zeroM))]) 11 [] 0 (Nat.zero_le _) ⟨w_1, w_2, rfl⟩ ?_
          intro i hi
          by_cases hia : i < a
          ·have hia2 : ¬ a ≤ i := by omega
           obtain ⟨q1, q2, q3, q4, q5⟩ := sl_row (ca := ca) hia hb1 hx hxc
           have hYe : (xs.drop (slOff 0 ((i : Int) * b).toNat ca)).take ((((i : Int) + 1) * b).toNat - ((i : Int) * b).toNat) = subX xs (i * b) b := by rw [q1, q2]; rfl
           have hYl : (subX xs (i * b) b).length = b := subX_len q5
           have hrd := fun c1 c2 h => d_inConeI L.length b L.flatten (subX xs (i * b) b) c1 c2 (by omega) (by omega) h
           rw [row_dual hL hC2 hia, show (subX xs (i * b) b).length = (((i : Int) + 1) * b).toNat - ((i : Int) * b).toNat by rw [q2]; exact hYl, ← hYe] at hrd
           ((repeat' (first | refine stp ?_ | (refine stq ?_ ?_ <;> (intro hc; ((try simp at hc) <;> try contradiction))) | fail)) <;> try (exfalso; omega))
           refine awp_held TM [(3, _), (5, _)] sb rfl (fun ρs => ?_)
           refine zt0 ?_
           refine zt1 ?_
           refine zt2 ?_
           refine zt3 ?_
           refine zt4 ?_
           refine zt5 ?_
           refine zt6 ?_
           refine zt7 ?_
           refine zt8 ?_
           refine zt9 ?_
           refine zt10 ?_
           refine zt11 ?_
           refine zt12 ?_
           refine w_u [13] kr rfl ⟨?_, trivial⟩
           first | (refine zho ?_) | (refine awpHop_view 140 Zz Zz Zz Zz Zz Zz (by first | omega | (simp only [Elts.len]; omega)) rfl ints_keys ?_; intro av; refine w_B _ (hrd _ _ hcr) Zz Zz Zz Zz Zz Zz Zz Zz Zz ft Zz Zz sb rfl ?_)
           refine zt14 ?_
           refine w_v kr ?_
           rotate_left
           all_goals ((repeat' (first | refine stx ?_ | (refine stq ?_ ?_ <;> (intro hc; ((try simp at hc) <;> try contradiction))) | fail)) <;> try (exfalso; omega))
           all_goals exact ⟨[], i + 1, hia, w_4, ⟨w_1, w_2, rfl⟩⟩
          ·obtain rfl : i = a := by omega
           ((repeat' (first | refine stx ?_ | (refine stq ?_ ?_ <;> (intro hc; ((try simp at hc) <;> try contradiction))) | fail)) <;> try (exfalso; omega))
           all_goals refine fin_ret rfl w_3 (rfl) rfl
         | some sb =>
          rw [hBk] at h4
          obtain ⟨Lb, hLb, rfl⟩ := raysB_some hBk
          rw [rays_back hL hLf hLb] at h4
          ((repeat' (first | refine stx ?_ | (first | refine w_z (hri _) Zz Zz Zz Zz Zz Zz Zz Zz ft Zz Zz ?_ | refine w_A (hri _) Zz Zz Zz Zz Zz Zz Zz Zz ft Zz Zz ?_) | ((refine w_E (h3 _ hcr) Zz Zz Zz Zz Zz Zz Zz ft rfl ?_); rintro v Hout n1 ⟨cf, hcf, rfl, rfl, rfl⟩) | ((refine w_E (h4 _ hcf) Zz Zz Zz Zz Zz Zz Zz ft rfl ?_); rintro v Hout n1 ⟨ck, hck, rfl, rfl, rfl⟩) | (refine stq ?_ ?_ <;> (intro hc; ((try simp at hc) <;> try contradiction))) | fail)) <;> try (exfalso; omega))
          have hsm := fun c1 c2 => d_sameI L.length b L.length b L.flatten L.flatten c1 c2 (by omega) (by omega)
          rw [show sameM L.length b L.length b L.flatten L.flatten = true by simp [sameM]] at hsm
          refine w_G hE (fun i : Nat => i ≤ a) (fun i => a - i)
           (fun i => [(3, .one (.ptr 3 3 0 0)), (4, .one (.ptr 5 3 0 0)), (16, .one (.ptr 11 3 0 0)), (17, vB true), (18, vI i)]) (fun i => [(2, .al ax (.ints xs)), (3, .own 26 1 (.lit [.int a, .int b, .sl 2 1 0 xs.length ca])), (4, .al ar (.ints L.flatten)), (5, .own 26 1 (.lit [.int L.length, .int b, .sl 4 1 0 L.flatten.length cr])), (10, .own 3 ck (.ints L.flatten)), (11, .own 26 1 (.lit [.int L.length, .int b, .sl 10 1 0 L.flatten.length ck]))]) 12 [] 0 (Nat.zero_le _) ⟨w_1, w_2, rfl⟩ ?_
          intro i hi
          by_cases hia : i < a
          ·have hia2 : ¬ a ≤ i := by omega
           obtain ⟨q1, q2, q3, q4, q5⟩ := sl_row (ca := ca) hia hb1 hx hxc
           have hYe : (xs.drop (slOff 0 ((i : Int) * b).toNat ca)).take ((((i : Int) + 1) * b).toNat - ((i : Int) * b).toNat) = subX xs (i * b) b := by rw [q1, q2]; rfl
           have hYl : (subX xs (i * b) b).length = b := subX_len q5
           have hrd := fun c1 c2 h => d_inConeI L.length b L.flatten (subX xs (i * b) b) c1 c2 (by omega) (by omega) h
           rw [row_dual hL hC2 hia, show (subX xs (i * b) b).length = (((i : Int) + 1) * b).toNat - ((i : Int) * b).toNat by rw [q2]; exact hYl, ← hYe] at hrd
           ((repeat' (first | refine stp ?_ | (refine stq ?_ ?_ <;> (intro hc; ((try simp at hc) <;> try contradiction))) | fail)) <;> try (exfalso; omega))
           refine awp_held TM [(3, _), (5, _)] sb rfl (fun ρs => ?_)
           refine zt0 ?_
           refine zt1 ?_
           refine zt2 ?_
           refine zt3 ?_
           refine zt4 ?_
           refine zt5 ?_
           refine zt6 ?_
           refine zt7 ?_
           refine zt8 ?_
           refine zt9 ?_
           refine zt10 ?_
           refine zt11 ?_
           refine zt12 ?_
           refine w_u [13] kr rfl ⟨?_, trivial⟩
           first | (refine zho ?_) | (refine awpHop_view 140 Zz Zz Zz Zz Zz Zz (by first | omega | (simp only [Elts.len]; omega)) rfl ints_keys ?_; intro av; refine w_B _ (hrd _ _ hcr) Zz Zz Zz Zz Zz Zz Zz Zz Zz ft Zz Zz sb rfl ?_)
           refine zt14 ?_
           refine w_v kr ?_
           rotate_left
           all_goals ((repeat' (first | refine stx ?_ | (refine stq ?_ ?_ <;> (intro hc; ((try simp at hc) <;> try contradiction))) | fail)) <;> try (exfalso; omega))
           all_goals exact ⟨[], i + 1, hia, w_4, ⟨w_1, w_2, rfl⟩⟩
          ·obtain rfl : i = a := by omega
           ((repeat' (first | refine stx ?_ | (first | refine w_z (hsm _ _) Zz Zz Zz Zz Zz Zz Zz Zz ft Zz Zz ?_ | refine w_A (hsm _ _) Zz Zz Zz Zz Zz Zz Zz Zz ft Zz Zz ?_) | (refine stq ?_ ?_ <;> (intro hc; ((try simp at hc) <;> try contradiction))) | fail)) <;> try (exfalso; omega))
           all_goals refine fin_ret rfl w_3 (rfl) rfl
end Go.Proofs.YtfkbjkmlpinoeaaGreat
namespace Go.Proofs.YtfkbjkmlpinoeaaGreat
open Go.ChangeShapes Go.WideShapes Go.ChangeAt Go.RowKit Go.Joins
theorem Tryz.own : ownKnob Tryz.prog.godebug = none := by kernel_rfl
theorem Tryz.laidOut : laidOutB Tryz.prog = true := by kernel_rfl
theorem trodAll_below {H : Type} {enc : TypeId × Value → H} {P : Program} (hl : laidOutB P = true) {W W' : World} (hb : Below W.heap.size W W') :
    ∀ {ts : List TypeId} {vs : List Value} {ds : List (DataW H)} {ps : List MemPlace}, (∀ t ∈ ts, P.readableRec t = true ∧ t < P.types.size) →
      DataW.TrodAll enc P W 0 (fun _ => true) true ts vs ds ps → (∀ x ∈ ps, x.block < W.heap.size) → DataW.TrodAll enc P W' 0 (fun b => decide (b < W.heap.size)) true ts vs ds ps
  | [], vs, ds, ps, _, h, _ => by
    obtain ⟨rfl, rfl, rfl⟩ := trodAll_nil h
    exact trodAll_mk0
  | t :: ts, vs, ds, ps, ht, h, hlt => by
    obtain ⟨v, vs', d, ds', p, q, rfl, rfl, rfl, hd, hr⟩ := trodAll_cons h
    exact trodAll_cons_mk (Below.trod hl (ht t (by simp)).1 (ht t (by simp)).2 hd hb (fun x hx => hlt x (by simp [hx])))
      (trodAll_below hl hb (fun u hu => ht u (by simp [hu])) hr (fun x hx => hlt x (by simp [hx])))
theorem law_post {H : Type} {enc : TypeId × Value → H} {P : Program} (hl : laidOutB P = true) {f : Func} {s : ChangeSpec} {tb : TypeId} (hres : f.resultTypes = #[tb]) (hT : P.underlying tb = some .bool)
    (hp : ∀ t ∈ f.params.toList, P.readableRec t = true ∧ t < P.types.size) {W W' : World} {args : Array Value} {ds gs : List (DataW H)} {before : List MemPlace}
    (hvars : s.vars = []) (hW : DataW.Whole enc P f.params.toList s.vars false W args.toList ds gs before) (hfn : s.fn H (ds ++ gs) = { results := [.lit (.bool true)], args := ds }) (hb : Below W.heap.size W W') :
    s.post enc P f false true false false W args (.bool true) W' := by
  have hW0 := hW
  obtain ⟨p, q, hA, hV, hpq, hz, hn⟩ := hW
  have hlt : ∀ x ∈ p, x.block < W.heap.size := fun x hx => hW0.lt x (by rw [hpq]; simp [hx])
  refine ⟨ds, gs, before, [], p, [], hW0, ?_, ?_, ?_, hb.frame _, fun h => by cases h⟩
  · rw [hfn, hres]
    exact trodAll_mk1 (shut_bool hT true)
  · rw [hfn]
    exact trodAll_below hl hb hp hA hlt
  · rw [hfn, hvars]
    rfl
end Go.Proofs.YtfkbjkmlpinoeaaGreat
namespace Go.Proofs.YtfkbjkmlpinoeaaGreat
open Go.ChangeShapes Go.WideShapes Go.ChangeAt Go.RowKit Go.Joins
def plainB : Blk → Bool
  | .ro e => !e.flag
  | .dead => true
  | _ => false
theorem Elts.flag_rds {e : Elts} (h : e.flag = false) : e.rds = [] := by
  cases e with
  | rows q f l => simp only [Elts.flag] at h; subst h; rfl
  | vals f l => simp only [Elts.flag] at h; subst h; rfl
  | mats f l => simp only [Elts.flag] at h; subst h; rfl
  | _ => rfl
theorem plainB_sound {b : Blk} (h : plainB b = true) : b.isOwn = false ∧ b.isAl = false ∧ b.rds = [] ∧ ∀ g, ¬ b.Far g := by
  cases b with
  | dead => exact ⟨rfl, rfl, rfl, fun g ⟨x, hx, _⟩ => by cases hx⟩
  | ro e =>
    simp only [plainB, Bool.not_eq_true'] at h
    have h0 := Elts.flag_rds h
    exact ⟨rfl, rfl, h0, fun g ⟨x, hx, _⟩ => by have : x ∈ e.rds := hx
                                                rw [h0] at this; cases this⟩
  | _ => cases h
def roIn (Hin : List (Nat × Blk)) (n0 : Nat) : Bool := Hin.all fun p => Nat.blt p.1 n0 && plainB p.2 && p.2.keys.all fun k => Nat.blt k n0
def BlksOK (ρ : Rho) (w : World) : List (Nat × Blk) → Prop
  | [] => True
  | p :: r => BlkOK ρ p.1 w p.2 ∧ BlksOK ρ w r
theorem BlksOK.at_ {ρ : Rho} {w : World} : ∀ {l : List (Nat × Blk)}, BlksOK ρ w l → ∀ p ∈ l, BlkOK ρ p.1 w p.2
  | p :: r, h, q, hq => by
    rcases List.mem_cons.1 hq with rfl | hq
    · exact h.1
    · exact BlksOK.at_ h.2 q hq
theorem Does.gives {f : FuncId} {args : List AV} {Hin : List (Nat × Blk)} {n0 n : Nat} {v : AV} (h : Does Tryz.prog f args Hin n0 (Ret v n)) (ρ : Rho) (w : World) (h0 : ρ 0 = none) (hpos : 0 < n0) (hin : roIn Hin n0 = true)
    (hb : BlksOK ρ w Hin) (ha : leB n0 (args.flatMap AV.keys) = true) (hv : v.keys = []) : Gives Tryz.prog f (args.map (AV.conc ρ)).toArray w (v.conc ρ) := by
  have hk : ∀ {k b}, lk Hin k = some b → k < n0 ∧ b.isOwn = false ∧ (∀ k' ∈ b.keys, k' < n0) ∧ b.rds = [] ∧ ∀ g, ¬ b.Far g := fun hl => by
    have := List.all_eq_true.1 hin _ (lk_mem hl)
    simp only [Bool.and_eq_true, Bool.not_eq_true', List.all_eq_true] at this
    obtain ⟨f1, _, f2, f3⟩ := plainB_sound this.1.2
    exact ⟨nblt this.1.1, f1, fun k' hk' => nblt (this.2 k' hk'), f2, f3⟩
  have ha' := leB_sound ha
  refine Gives.of_below (Calls.mono (h.calls ρ w ⟨h0, fun k b hl => hb.at_ _ (lk_mem hl), fun k b hl => ⟨(hk hl).1, (hk hl).2.2.1⟩, fun k k' b b' p p' hl _ ho => ?_, fun k b p hl _ _ hge => ?_, fun k b hl ho => ?_, ⟨rfl, rfl, rfl, Nat.le_refl _, fun _ _ _ _ => rfl⟩, fun _ _ => rfl, Nat.le_refl _, hpos, fun k b hl x hx => ?_, fun k k' b b' p g hl _ ho => ?_, fun k k' t t' q q' l l' hl => ?_, fun k t q l hl => ?_, fun k k' t q l e p hl => ?_⟩
    (fun u hu k hk' => ha' k (List.mem_flatMap.2 ⟨u, hu, hk'⟩))) ?_)
  · rw [(hk hl).2.1] at ho; cases ho
  · have := (hk hl).1
    exact absurd hge (by simpa [envOf] using this)
  · rw [(hk hl).2.1] at ho; cases ho
  · rw [(hk hl).2.2.2.1] at hx; cases hx
  · rw [(hk hl).2.1] at ho; cases ho
  · cases (hk hl).2.1
  · cases (hk hl).2.1
  · cases (hk hl).2.1
  · rintro e w' ⟨ρ', v', Hout, n1, ⟨rfl, rfl, rfl⟩, rfl, hH, _⟩
    refine ⟨congrArg _ (AV.conc_congr fun k hk' => by rw [hv] at hk'; cases hk'), hH.keeps.os, hH.keeps.tape, hH.keeps.output, hH.keeps.size, fun b hlt => hH.keeps.block b hlt (fun k p _ ho _ => ?_) fun ⟨k, t, q, l, hl, _⟩ => ?_⟩
    · obtain ⟨b', hl, ho⟩ := ho
      rw [(hk hl).2.1] at ho; cases ho
    · cases (hk hl).2.1
def rhoOf (l : List (Nat × Option Addr)) : Rho := fun k => match lk l k with
  | some (some a) => some (a.block, a.off)
  | _ => none
def SlOK (A : Option Addr) : Prop := ∀ a, A = some a → a.spot = none
theorem rhoOf_adr {l : List (Nat × Option Addr)} {k : Nat} {A : Option Addr} (hA : SlOK A) (h : lk l k = some A) : adr (rhoOf l) k 0 = A := by
  cases A with
  | none => simp [adr, rhoOf, h]
  | some a =>
    have := hA a rfl
    cases a
    simp at this
    subst this
    simp [adr, rhoOf, h]
theorem RI.blk {l : List (Nat × Option Addr)} {k : Nat} {A : Option Addr} {w : World} {xs : List Int} (hR : RI w A xs) (h : lk l k = some A) : BlkOK (rhoOf l) k w (.ro (.ints xs)) := by
  cases A with
  | none =>
    have : ¬0 < xs.length := fun h => by obtain ⟨b, off, e, _⟩ := hR h; cases e
    have hρ : rhoOf l k = none := by simp [rhoOf, h]
    simp only [BlkOK, hρ, Elts.len]
    omega
  | some a =>
    have hρ : rhoOf l k = some (a.block, a.off) := by simp [rhoOf, h]
    simp only [BlkOK, hρ]
    refine ⟨fun hl => ?_, fun j u hu => ?_⟩
    · obtain ⟨b, off, e, hb, _⟩ := hR hl
      cases e; exact hb
    · simp only [Elts.all, List.getElem?_map, Option.map_eq_some_iff] at hu
      obtain ⟨n, hn, rfl⟩ := hu
      obtain ⟨hj, rfl⟩ := List.getElem?_eq_some_iff.1 hn
      obtain ⟨b, off, e, _, hc⟩ := hR (by omega)
      cases e; exact hc j hj
theorem okWide_spot {P : Program} {w : World} {r : Reach} {b : Nat} {t e : TypeId} {A : Option Addr} {n c : Nat} (ht : P.underlying t = some (.slice e)) (h : Cell.okWide P w r b t (.slice A n c)) : SlOK A ∧ n ≤ c := by
  simp only [Cell.okWide, ht] at h
  cases A with
  | none =>
    refine ⟨fun a e => (by cases e), ?_⟩
    simp only [Cell.ok, ht] at h
    split at h <;> simp_all
  | some a =>
    simp only [Cell.ok, ht] at h
    refine ⟨fun a' e => ?_, h.1⟩
    cases e
    exact h.2.2.2.1
end Go.Proofs.YtfkbjkmlpinoeaaGreat
namespace Go.Proofs.YtfkbjkmlpinoeaaGreat
open Go.ChangeShapes Go.WideShapes Go.ChangeAt Go.RowKit Go.Joins
def RB (w : World) (A : Option Addr) (xs : List Int) : Prop :=
  0 < xs.length → ∃ b off, A = some ⟨b, off, none⟩ ∧ b < w.heap.size ∧ ∀ k (h : k < xs.length), w.cell? ⟨b, off + k, none⟩ = some (.int .u8 xs[k])
set_option maxRecDepth 100000 in
theorem open_RB {H : Type} {enc : TypeId × Value → H} {w : World} {fuel : Nat} {cs : List Value} {x : DataW H × List MemPlace}
    (h : DataW.trod enc Tryz.prog w 0 (fun _ => true) true fuel 22 cs = some x) :
    ∃ (A : Option Addr) (c : Nat) (xs : List Int), cs = [.slice A xs.length c] ∧ xs.length ≤ 9223372036854775807 ∧ RB w A xs := by
  rcases open_ints Tryz.underlying22 Tryz.underlying5 (by kernel_rfl) h with ⟨rfl, _⟩ | ⟨a, len, cap, zs, rfl, _, hl, hm, hz, _, hc, hw⟩
  · exact ⟨none, 0, [], rfl, by simp, fun h => absurd h (by simp)⟩
  · simp only [if_true] at hz
    have hm' : cap ≤ 9223372036854775807 := by simpa [maxLen] using hm
    refine ⟨some a, cap, zs.take len, by simp; omega, by simp; omega, fun h0 => ?_⟩
    have hlen : len ≤ zs.length := by omega
    obtain ⟨b, off, rfl, hc'⟩ := ints_at hc (by simp at h0; omega)
    refine ⟨b, off, rfl, World.block_lt_of_cell? w ⟨b, off + 0, none⟩ (hc' 0 (by simp at h0; omega)), fun k hk => ?_⟩
    have hk' : k < zs.length := by simp at hk; omega
    rw [hc' k hk']
    simp [hk']
set_option maxRecDepth 100000 in
theorem open_RB_arg {H : Type} {enc : TypeId × Value → H} {w : World} {v : Value} {d : DataW H} {p : List MemPlace} {b : Nat}
    (hv : Value.okWide Tryz.prog w .any b 22 v) (h : DataW.Trod enc Tryz.prog w 0 (fun _ => true) true 22 v d p) :
    ∃ (A : Option Addr) (c : Nat) (xs : List Int), v = .slice A xs.length c ∧ xs.length ≤ 9223372036854775807 ∧ RB w A xs ∧ SlOK A ∧ xs.length ≤ c := by
  obtain ⟨a0, len, cap, rfl⟩ := okWide_slice Tryz.underlying22 hv
  obtain ⟨fuel, hf⟩ := h
  obtain ⟨A, c, xs, hcs, h1, h2⟩ := open_RB hf
  have : Value.slice a0 len cap = .slice A xs.length c := by simpa [Value.cells] using hcs
  cases this
  simp only [Value.okWide, Tryz.underlying22] at hv
  obtain ⟨h4, h5⟩ := okWide_spot Tryz.underlying22 hv
  exact ⟨_, _, xs, rfl, h1, h2, h4, h5⟩
theorem RB.blk {l : List (Nat × Option Addr)} {k : Nat} {A : Option Addr} {w : World} {xs : List Int} (hR : RB w A xs) (h : lk l k = some A) : BlkOK (rhoOf l) k w (.ro (.bytes xs)) := by
  cases A with
  | none =>
    have : ¬0 < xs.length := fun h => by obtain ⟨b, off, e, _⟩ := hR h; cases e
    have hρ : rhoOf l k = none := by simp [rhoOf, h]
    simp only [BlkOK, hρ, Elts.len]
    omega
  | some a =>
    have hρ : rhoOf l k = some (a.block, a.off) := by simp [rhoOf, h]
    simp only [BlkOK, hρ]
    refine ⟨fun hl => ?_, fun j u hu => ?_⟩
    · obtain ⟨b, off, e, hb, _⟩ := hR hl
      cases e; exact hb
    · simp only [Elts.all, List.getElem?_map, Option.map_eq_some_iff] at hu
      obtain ⟨n, hn, rfl⟩ := hu
      obtain ⟨hj, rfl⟩ := List.getElem?_eq_some_iff.1 hn
      obtain ⟨b, off, e, _, hc⟩ := hR (by omega)
      cases e; exact hc j hj
theorem code_gives {f : FuncId} (h : ∀ (bs : List Int) (c : Nat), Does Tryz.prog f [vS 1 1 0 bs.length c] [(1, .ro (.bytes bs))] 2 (Ret (vB true) 2)) (A : Option Addr) (c : Nat) (bs : List Int) (w : World) (hR : RB w A bs) (hs : SlOK A) : Gives Tryz.prog f #[.slice A bs.length c] w (.bool true) := by
  have h1 : roIn [(1, .ro (.bytes bs))] 2 = true := by simp [roIn, plainB, Elts.flag, Blk.keys, Elts.keys, Elts.all, bytes_keys]
  have h2 : BlksOK (rhoOf [(1, A)]) w [(1, .ro (.bytes bs))] := ⟨hR.blk (l := [(1, A)]) (k := 1) rfl, trivial⟩
  have h := Does.gives (h bs c) (rhoOf [(1, A)]) w rfl (by decide) h1 h2 Zz Zz
  have e1 : adr (rhoOf [(1, A)]) 1 0 = A := rhoOf_adr hs rfl
  have e2 : ([vS 1 1 0 bs.length c].map (AV.conc (rhoOf [(1, A)]))).toArray = #[.slice A bs.length c] := by simp [AV.conc, SV.conc, vS, e1]
  rw [e2] at h
  exact h
end Go.Proofs.YtfkbjkmlpinoeaaGreat
