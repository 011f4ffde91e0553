/-
  TEXTS OF THE PROOF, put together: bEqM, bRelsLaw, Law, bLaw.
-/
import Derived.Test.YtekpamojojfplaaGreatA09
import Derived.Test.YtekpamojojfplaaGreatA30
import Derived.Test.YtekpamojojfplaaGreatRows
import Derived.Test.YtekpamojojfplaaGreatA07
import Derived.ProofKit
import Derived.Lib.SmallJoins
import Derived.OpenShut
set_option linter.unusedVariables false
set_option linter.unusedSimpArgs false
namespace Go.Proofs.YtekpamojojfplaaGreat
open Go.RowKit
theorem d_eqMatrix (r c r' c' : Int) (xs ys : List Int) (ca cb : Nat) (hl : xs.length ≤ 1099511627776) (hl' : ys.length ≤ 1099511627776) : Does Tryz.prog 24 [vM r c 1 xs.length ca, vM r' c' 2 ys.length cb] [(1, .ro (.ints xs)), (2, .ro (.ints ys))] 3 (Ret (vB (decide (r = r' ∧ c = c' ∧ xs = ys))) 3) := by
 refine Does.intro TT Tryz.func24 rfl (by kernel_rfl) Zz Zz fun E hE => ?_
 (repeat' (first | refine stx ?_ | (first | refine w_z (d_eqIntS xs ys _ _ hl hl') Zz Zz Zz Zz Zz Zz Zz Zz ft Zz Zz ?_ | refine w_A (d_eqIntS xs ys _ _ hl hl') Zz Zz Zz Zz Zz Zz Zz Zz ft Zz Zz ?_) | (refine stq ?_ ?_ <;> (intro hc; ((try simp at hc) <;> try contradiction))) | fail))
 all_goals refine fin_ret rfl w_3 (congrArg vB ?_) rfl
 all_goals simp_all
def MarksM (k : Int) (t : TypeId) (c n : Nat) (v : AV) (Hout : List (Nat × Blk)) (n1 : Nat) : Prop := v = vI (k + n) ∧ Hout = [(1, .own t c (.ints (marks k n)))] ∧ n1 = 2
theorem d_markMatrix (r c : Int) (xs : List Int) (ca cap : Nat) (k : Int) (hl : xs.length ≤ 1099511627776) (hk : 0 ≤ k) (hk' : k ≤ 4611686018427387904) : Does Tryz.prog 27 [vM r c 1 xs.length ca, vI k] [(1, .own 3 cap (.ints xs))] 2 (MarksM k 3 cap xs.length) := by
 refine Does.intro TT Tryz.func27 rfl (by kernel_rfl) Zz Zz fun E hE => ?_
 (repeat' (first | refine stx ?_ | ((refine w_E (d_markIntS xs _ cap k hl hk hk') Zz Zz Zz Zz Zz Zz Zz ft rfl ?_); rintro v Hout n1 ⟨rfl, rfl, rfl⟩) | (refine stq ?_ ?_ <;> (intro hc; ((try simp at hc) <;> try contradiction))) | fail))
 exact fin rfl w_3 [] (vI (k + xs.length)) [(1, .own 3 cap (.ints (marks k xs.length)))] 2 ⟨rfl, rfl, rfl⟩ rfl ⟨trivial, ⟨rfl, trivial⟩, rfl⟩ rfl
theorem d_heldMatrix (r c : Int) (n : Nat) (ca : Nat) (k : Int) (hl : n ≤ 1099511627776) (hk : 0 ≤ k) (hk' : k ≤ 4611686018427387904) : Does Tryz.prog 28 [vM r c 1 n ca, vI k] [(1, .ro (.ints (marks k n)))] 2 (Ret (vI (k + n)) 2) := by
 refine Does.intro TT Tryz.func28 rfl (by kernel_rfl) Zz Zz fun E hE => ?_
 ((repeat' (first | refine stx ?_ | (first | refine w_z (d_heldIntS n _ k hl hk hk') Zz Zz Zz Zz Zz Zz Zz Zz ft Zz Zz ?_ | refine w_A (d_heldIntS n _ k hl hk hk') Zz Zz Zz Zz Zz Zz Zz Zz ft Zz Zz ?_) | (refine stq ?_ ?_ <;> (intro hc; ((try simp at hc) <;> try contradiction))) | fail)) <;> try (exfalso; omega))
 all_goals refine fin_ret rfl w_3 (rfl) rfl
end Go.Proofs.YtekpamojojfplaaGreat
namespace Go.Proofs.YtekpamojojfplaaGreat
open Go.RowKit
set_option maxRecDepth 100000 in
set_option maxHeartbeats 16000000 in
theorem d_lawRels (xs : List Int) (c : Nat) : Does Tryz.prog 4 [vS 1 1 0 xs.length c] [(1, .ro (.ints xs))] 2 (Ret (vB true) 2) := by
 refine Does.intro TT Tryz.func4 rfl (by kernel_rfl) Zz Zz fun E hE => ?_
 by_cases hy : xs.length ≤ 1048576
 ·have hl : xs.length ≤ 1099511627776 := by omega
  have h1 := fun ca => d_relS xs ca hl
  have h2 := fun ca => d_relI xs ca hl
  cases hR : relsO xs with
  | none =>
   rw [hR] at h1 h2
   ((repeat' (first | refine stx ?_ | (refine w_C (d_toIntS xs _ hl) Zz Zz Zz Zz Zz Zz Zz ft Zz Zz (MadeI.out) ?_; rintro v b ⟨c1, hc1, rfl, he, -⟩; cases he) | ((refine w_E (h1 _) Zz Zz Zz Zz Zz Zz Zz ft rfl ?_); rintro v Hout n1 ⟨rfl, rfl, rfl⟩) | ((refine w_E (h2 _) Zz Zz Zz Zz Zz Zz Zz ft rfl ?_); rintro v Hout n1 ⟨rfl, rfl, rfl⟩) | (first | refine w_z (d_eqMatrix 0 0 0 0 [] [] 0 0 (by decide) (by decide)) Zz Zz Zz Zz Zz Zz Zz Zz ft Zz Zz ?_ | refine w_A (d_eqMatrix 0 0 0 0 [] [] 0 0 (by decide) (by decide)) Zz Zz Zz Zz Zz Zz Zz Zz ft Zz Zz ?_) | (first | refine w_z (d_eqIntS xs xs _ _ hl hl) Zz Zz Zz Zz Zz Zz Zz Zz ft Zz Zz ?_ | refine w_A (d_eqIntS xs xs _ _ hl hl) Zz Zz Zz Zz Zz Zz Zz Zz ft Zz Zz ?_) | ((refine w_E (d_markIntS xs _ _ 1 hl (by omega) (by omega)) Zz Zz Zz Zz Zz Zz Zz ft rfl ?_); rintro v Hout n1 ⟨rfl, rfl, rfl⟩) | ((refine w_E (d_markMatrix 0 0 [] 0 0 1 (by decide) (by omega) (by omega)) Zz Zz Zz Zz Zz Zz Zz ft rfl ?_); rintro v Hout n1 ⟨rfl, rfl, rfl⟩) | (first | refine w_z (d_heldMatrix 0 0 0 0 1 (by decide) (by omega) (by omega)) Zz Zz Zz Zz Zz Zz Zz Zz ft Zz Zz ?_ | refine w_A (d_heldMatrix 0 0 0 0 1 (by decide) (by omega) (by omega)) Zz Zz Zz Zz Zz Zz Zz Zz ft Zz Zz ?_) | (refine stq ?_ ?_ <;> (intro hc; ((try simp at hc) <;> try contradiction))) | fail)) <;> try (exfalso; omega))
   all_goals refine fin_ret rfl w_3 (rfl) rfl
  | some s =>
   rw [hR] at h1 h2
   have hyl := relsO_len hR
   have hyy : s.1.length ≤ 1099511627776 := by omega
   ((repeat' (first | refine stx ?_ | (refine w_C (d_toIntS xs _ hl) Zz Zz Zz Zz Zz Zz Zz ft Zz Zz (MadeI.out) ?_; rintro v b ⟨c1, hc1, rfl, he, -⟩; cases he) | ((refine w_E (h1 _) Zz Zz Zz Zz Zz Zz Zz ft rfl ?_); rintro v Hout n1 ⟨cw, hcw, rfl, rfl, rfl⟩) | ((refine w_E (h2 _) Zz Zz Zz Zz Zz Zz Zz ft rfl ?_); rintro v Hout n1 ⟨cg, hcg, rfl, rfl, rfl⟩) | (first | refine w_z (d_eqMatrix s.2 xs.length s.2 xs.length s.1 s.1 _ _ hyy hyy) Zz Zz Zz Zz Zz Zz Zz Zz ft Zz Zz ?_ | refine w_A (d_eqMatrix s.2 xs.length s.2 xs.length s.1 s.1 _ _ hyy hyy) Zz Zz Zz Zz Zz Zz Zz Zz ft Zz Zz ?_) | (first | refine w_z (d_eqIntS xs xs _ _ hl hl) Zz Zz Zz Zz Zz Zz Zz Zz ft Zz Zz ?_ | refine w_A (d_eqIntS xs xs _ _ hl hl) Zz Zz Zz Zz Zz Zz Zz Zz ft Zz Zz ?_) | ((refine w_E (d_markIntS xs _ _ 1 hl (by omega) (by omega)) Zz Zz Zz Zz Zz Zz Zz ft rfl ?_); rintro v Hout n1 ⟨rfl, rfl, rfl⟩) | ((refine w_E (d_markMatrix s.2 xs.length s.1 _ _ 1 hyy (by omega) (by omega)) Zz Zz Zz Zz Zz Zz Zz ft rfl ?_); rintro v Hout n1 ⟨rfl, rfl, rfl⟩) | (first | refine w_z (d_heldMatrix s.2 xs.length s.1.length _ 1 hyy (by omega) (by omega)) Zz Zz Zz Zz Zz Zz Zz Zz ft Zz Zz ?_ | refine w_A (d_heldMatrix s.2 xs.length s.1.length _ 1 hyy (by omega) (by omega)) Zz Zz Zz Zz Zz Zz Zz Zz ft Zz Zz ?_) | (refine stq ?_ ?_ <;> (intro hc; ((try simp at hc) <;> try contradiction))) | fail)) <;> try (exfalso; omega))
   all_goals refine fin_ret rfl w_3 (rfl) rfl
 ·((repeat' (first | refine stx ?_ | (refine stq ?_ ?_ <;> (intro hc; ((try simp at hc) <;> try contradiction))) | fail)) <;> try (exfalso; omega))
  all_goals refine fin_ret rfl w_3 (rfl) rfl
end Go.Proofs.YtekpamojojfplaaGreat
namespace Go.Proofs.YtekpamojojfplaaGreat
open Go.ChangeShapes Go.WideShapes Go.ChangeAt Go.RowKit Go.Joins
theorem Tryz.own : ownKnob Tryz.prog.godebug = none := by kernel_rfl
theorem Tryz.laidOut : laidOutB Tryz.prog = true := by kernel_rfl
theorem trodAll_below {H : Type} {enc : TypeId × Value → H} {P : Program} (hl : laidOutB P = true) {W W' : World} (hb : Below W.heap.size W W') :
    ∀ {ts : List TypeId} {vs : List Value} {ds : List (DataW H)} {ps : List MemPlace}, (∀ t ∈ ts, P.readableRec t = true ∧ t < P.types.size) →
      DataW.TrodAll enc P W 0 (fun _ => true) true ts vs ds ps → (∀ x ∈ ps, x.block < W.heap.size) → DataW.TrodAll enc P W' 0 (fun b => decide (b < W.heap.size)) true ts vs ds ps
  | [], vs, ds, ps, _, h, _ => by
    obtain ⟨rfl, rfl, rfl⟩ := trodAll_nil h
    exact trodAll_mk0
  | t :: ts, vs, ds, ps, ht, h, hlt => by
    obtain ⟨v, vs', d, ds', p, q, rfl, rfl, rfl, hd, hr⟩ := trodAll_cons h
    exact trodAll_cons_mk (Below.trod hl (ht t (by simp)).1 (ht t (by simp)).2 hd hb (fun x hx => hlt x (by simp [hx])))
      (trodAll_below hl hb (fun u hu => ht u (by simp [hu])) hr (fun x hx => hlt x (by simp [hx])))
theorem law_post {H : Type} {enc : TypeId × Value → H} {P : Program} (hl : laidOutB P = true) {f : Func} {s : ChangeSpec} {tb : TypeId} (hres : f.resultTypes = #[tb]) (hT : P.underlying tb = some .bool)
    (hp : ∀ t ∈ f.params.toList, P.readableRec t = true ∧ t < P.types.size) {W W' : World} {args : Array Value} {ds gs : List (DataW H)} {before : List MemPlace}
    (hvars : s.vars = []) (hW : DataW.Whole enc P f.params.toList s.vars false W args.toList ds gs before) (hfn : s.fn H (ds ++ gs) = { results := [.lit (.bool true)], args := ds }) (hb : Below W.heap.size W W') :
    s.post enc P f false true false false W args (.bool true) W' := by
  have hW0 := hW
  obtain ⟨p, q, hA, hV, hpq, hz, hn⟩ := hW
  have hlt : ∀ x ∈ p, x.block < W.heap.size := fun x hx => hW0.lt x (by rw [hpq]; simp [hx])
  refine ⟨ds, gs, before, [], p, [], hW0, ?_, ?_, ?_, hb.frame _, fun h => by cases h⟩
  · rw [hfn, hres]
    exact trodAll_mk1 (shut_bool hT true)
  · rw [hfn]
    exact trodAll_below hl hb hp hA hlt
  · rw [hfn, hvars]
    rfl
theorem wf_i64 {n : Int} (h : (Lit.int .i64 n).wf = true) : -9223372036854775808 ≤ n ∧ n ≤ 9223372036854775807 := by
  simp [Lit.wf, IntKind.min, IntKind.max, IntKind.signed, IntKind.bits] at h
  exact ⟨by omega, by omega⟩
set_option maxRecDepth 100000 in
theorem open_RI {H : Type} {enc : TypeId × Value → H} {w : World} {fuel : Nat} {cs : List Value} {x : DataW H × List MemPlace}
    (h : DataW.trod enc Tryz.prog w 0 (fun _ => true) true fuel 24 cs = some x) :
    ∃ (A : Option Addr) (c : Nat) (xs : List Int), cs = [.slice A xs.length c] ∧ xs.length ≤ 9223372036854775807 ∧ RI w A xs ∧ ∀ n ∈ xs, -9223372036854775808 ≤ n ∧ n ≤ 9223372036854775807 := by
  rcases open_ints Tryz.underlying24 Tryz.underlying3 (by kernel_rfl) h with ⟨rfl, _⟩ | ⟨a, len, cap, zs, rfl, _, hl, hm, hz, _, hc, hw⟩
  · exact ⟨none, 0, [], rfl, by simp, RI.nil, by simp⟩
  · simp only [if_true] at hz
    have hm' : cap ≤ 9223372036854775807 := by simpa [maxLen] using hm
    refine ⟨some a, cap, zs.take len, by simp; omega, by simp; omega, fun h0 => ?_, fun n hn => wf_i64 (hw n (List.mem_of_mem_take hn))⟩
    have hlen : len ≤ zs.length := by omega
    obtain ⟨b, off, rfl, hc'⟩ := ints_at hc (by simp at h0; omega)
    refine ⟨b, off, rfl, World.block_lt_of_cell? w ⟨b, off + 0, none⟩ (hc' 0 (by simp at h0; omega)), fun k hk => ?_⟩
    have hk' : k < zs.length := by simp at hk; omega
    rw [hc' k hk']
    simp [hk']
set_option maxRecDepth 100000 in
theorem open_RI_arg {H : Type} {enc : TypeId × Value → H} {w : World} {v : Value} {d : DataW H} {p : List MemPlace} {b : Nat}
    (hv : Value.okWide Tryz.prog w .any b 24 v) (h : DataW.Trod enc Tryz.prog w 0 (fun _ => true) true 24 v d p) :
    ∃ (A : Option Addr) (c : Nat) (xs : List Int), v = .slice A xs.length c ∧ xs.length ≤ 9223372036854775807 ∧ RI w A xs ∧ ∀ n ∈ xs, -9223372036854775808 ≤ n ∧ n ≤ 9223372036854775807 := by
  obtain ⟨a0, len, cap, rfl⟩ := okWide_slice Tryz.underlying24 hv
  obtain ⟨fuel, hf⟩ := h
  obtain ⟨A, c, xs, hcs, h1, h2, h3⟩ := open_RI hf
  have : Value.slice a0 len cap = .slice A xs.length c := by simpa [Value.cells] using hcs
  exact ⟨A, c, xs, this, h1, h2, h3⟩
end Go.Proofs.YtekpamojojfplaaGreat
namespace Go.Proofs.YtekpamojojfplaaGreat
open Go.ChangeShapes Go.WideShapes Go.ChangeAt Go.RowKit Go.Joins
def plainB : Blk → Bool
  | .ro e => !e.flag
  | .dead => true
  | _ => false
theorem Elts.flag_rds {e : Elts} (h : e.flag = false) : e.rds = [] := by
  cases e with
  | rows q f l => simp only [Elts.flag] at h; subst h; rfl
  | vals f l => simp only [Elts.flag] at h; subst h; rfl
  | mats f l => simp only [Elts.flag] at h; subst h; rfl
  | _ => rfl
theorem plainB_sound {b : Blk} (h : plainB b = true) : b.isOwn = false ∧ b.isAl = false ∧ b.rds = [] ∧ ∀ g, ¬ b.Far g := by
  cases b with
  | dead => exact ⟨rfl, rfl, rfl, fun g ⟨x, hx, _⟩ => by cases hx⟩
  | ro e =>
    simp only [plainB, Bool.not_eq_true'] at h
    have h0 := Elts.flag_rds h
    exact ⟨rfl, rfl, h0, fun g ⟨x, hx, _⟩ => by have : x ∈ e.rds := hx
                                                rw [h0] at this; cases this⟩
  | _ => cases h
def roIn (Hin : List (Nat × Blk)) (n0 : Nat) : Bool := Hin.all fun p => Nat.blt p.1 n0 && plainB p.2 && p.2.keys.all fun k => Nat.blt k n0
def BlksOK (ρ : Rho) (w : World) : List (Nat × Blk) → Prop
  | [] => True
  | p :: r => BlkOK ρ p.1 w p.2 ∧ BlksOK ρ w r
theorem BlksOK.at_ {ρ : Rho} {w : World} : ∀ {l : List (Nat × Blk)}, BlksOK ρ w l → ∀ p ∈ l, BlkOK ρ p.1 w p.2
  | p :: r, h, q, hq => by
    rcases List.mem_cons.1 hq with rfl | hq
    · exact h.1
    · exact BlksOK.at_ h.2 q hq
theorem Does.gives {f : FuncId} {args : List AV} {Hin : List (Nat × Blk)} {n0 n : Nat} {v : AV} (h : Does Tryz.prog f args Hin n0 (Ret v n)) (ρ : Rho) (w : World) (h0 : ρ 0 = none) (hpos : 0 < n0) (hin : roIn Hin n0 = true)
    (hb : BlksOK ρ w Hin) (ha : leB n0 (args.flatMap AV.keys) = true) (hv : v.keys = []) : Gives Tryz.prog f (args.map (AV.conc ρ)).toArray w (v.conc ρ) := by
  have hk : ∀ {k b}, lk Hin k = some b → k < n0 ∧ b.isOwn = false ∧ (∀ k' ∈ b.keys, k' < n0) ∧ b.rds = [] ∧ ∀ g, ¬ b.Far g := fun hl => by
    have := List.all_eq_true.1 hin _ (lk_mem hl)
    simp only [Bool.and_eq_true, Bool.not_eq_true', List.all_eq_true] at this
    obtain ⟨f1, _, f2, f3⟩ := plainB_sound this.1.2
    exact ⟨nblt this.1.1, f1, fun k' hk' => nblt (this.2 k' hk'), f2, f3⟩
  have ha' := leB_sound ha
  refine Gives.of_below (Calls.mono (h.calls ρ w ⟨h0, fun k b hl => hb.at_ _ (lk_mem hl), fun k b hl => ⟨(hk hl).1, (hk hl).2.2.1⟩, fun k k' b b' p p' hl _ ho => ?_, fun k b p hl _ _ hge => ?_, fun k b hl ho => ?_, ⟨rfl, rfl, rfl, Nat.le_refl _, fun _ _ _ _ => rfl⟩, fun _ _ => rfl, Nat.le_refl _, hpos, fun k b hl x hx => ?_, fun k k' b b' p g hl _ ho => ?_, fun k k' t t' q q' l l' hl => ?_, fun k t q l hl => ?_, fun k k' t q l e p hl => ?_⟩
    (fun u hu k hk' => ha' k (List.mem_flatMap.2 ⟨u, hu, hk'⟩))) ?_)
  · rw [(hk hl).2.1] at ho; cases ho
  · have := (hk hl).1
    exact absurd hge (by simpa [envOf] using this)
  · rw [(hk hl).2.1] at ho; cases ho
  · rw [(hk hl).2.2.2.1] at hx; cases hx
  · rw [(hk hl).2.1] at ho; cases ho
  · cases (hk hl).2.1
  · cases (hk hl).2.1
  · cases (hk hl).2.1
  · rintro e w' ⟨ρ', v', Hout, n1, ⟨rfl, rfl, rfl⟩, rfl, hH, _⟩
    refine ⟨congrArg _ (AV.conc_congr fun k hk' => by rw [hv] at hk'; cases hk'), hH.keeps.os, hH.keeps.tape, hH.keeps.output, hH.keeps.size, fun b hlt => hH.keeps.block b hlt (fun k p _ ho _ => ?_) fun ⟨k, t, q, l, hl, _⟩ => ?_⟩
    · obtain ⟨b', hl, ho⟩ := ho
      rw [(hk hl).2.1] at ho; cases ho
    · cases (hk hl).2.1
def rhoOf (l : List (Nat × Option Addr)) : Rho := fun k => match lk l k with
  | some (some a) => some (a.block, a.off)
  | _ => none
def SlOK (A : Option Addr) : Prop := ∀ a, A = some a → a.spot = none
theorem rhoOf_adr {l : List (Nat × Option Addr)} {k : Nat} {A : Option Addr} (hA : SlOK A) (h : lk l k = some A) : adr (rhoOf l) k 0 = A := by
  cases A with
  | none => simp [adr, rhoOf, h]
  | some a =>
    have := hA a rfl
    cases a
    simp at this
    subst this
    simp [adr, rhoOf, h]
theorem RI.blk {l : List (Nat × Option Addr)} {k : Nat} {A : Option Addr} {w : World} {xs : List Int} (hR : RI w A xs) (h : lk l k = some A) : BlkOK (rhoOf l) k w (.ro (.ints xs)) := by
  cases A with
  | none =>
    have : ¬0 < xs.length := fun h => by obtain ⟨b, off, e, _⟩ := hR h; cases e
    have hρ : rhoOf l k = none := by simp [rhoOf, h]
    simp only [BlkOK, hρ, Elts.len]
    omega
  | some a =>
    have hρ : rhoOf l k = some (a.block, a.off) := by simp [rhoOf, h]
    simp only [BlkOK, hρ]
    refine ⟨fun hl => ?_, fun j u hu => ?_⟩
    · obtain ⟨b, off, e, hb, _⟩ := hR hl
      cases e; exact hb
    · simp only [Elts.all, List.getElem?_map, Option.map_eq_some_iff] at hu
      obtain ⟨n, hn, rfl⟩ := hu
      obtain ⟨hj, rfl⟩ := List.getElem?_eq_some_iff.1 hn
      obtain ⟨b, off, e, _, hc⟩ := hR (by omega)
      cases e; exact hc j hj
theorem okWide_spot {P : Program} {w : World} {r : Reach} {b : Nat} {t e : TypeId} {A : Option Addr} {n c : Nat} (ht : P.underlying t = some (.slice e)) (h : Cell.okWide P w r b t (.slice A n c)) : SlOK A ∧ n ≤ c := by
  simp only [Cell.okWide, ht] at h
  cases A with
  | none =>
    refine ⟨fun a e => (by cases e), ?_⟩
    simp only [Cell.ok, ht] at h
    split at h <;> simp_all
  | some a =>
    simp only [Cell.ok, ht] at h
    refine ⟨fun a' e => ?_, h.1⟩
    cases e
    exact h.2.2.2.1
set_option maxRecDepth 100000 in
theorem open_RS_arg {H : Type} {enc : TypeId × Value → H} {w : World} {v : Value} {d : DataW H} {p : List MemPlace} {b : Nat}
    (hv : Value.okWide Tryz.prog w .any b 24 v) (h : DataW.Trod enc Tryz.prog w 0 (fun _ => true) true 24 v d p) :
    ∃ (A : Option Addr) (c : Nat) (xs : List Int), v = .slice A xs.length c ∧ xs.length ≤ 9223372036854775807 ∧ RI w A xs ∧ SlOK A ∧ xs.length ≤ c ∧ ∀ n ∈ xs, -9223372036854775808 ≤ n ∧ n ≤ 9223372036854775807 := by
  obtain ⟨A, c, xs, rfl, h1, h2, h3⟩ := open_RI_arg hv h
  simp only [Value.okWide, Tryz.underlying24] at hv
  obtain ⟨h4, h5⟩ := okWide_spot Tryz.underlying24 hv
  exact ⟨A, c, xs, rfl, h1, h2, h4, h5, h3⟩
end Go.Proofs.YtekpamojojfplaaGreat
