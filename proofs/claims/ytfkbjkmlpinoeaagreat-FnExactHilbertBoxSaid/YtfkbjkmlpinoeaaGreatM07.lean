/-
  TEXTS OF THE PROOF, put together: Am7, Base, Num.
-/
import Derived.Test.YtfkbjkmlpinoeaaGreatM06
import Derived.WalkKit
import Derived.WalkSpells
import Derived.WalkLawsBesides
import Derived.Handy
import Derived.Deep.QuietTactic
import Derived.BigQuiet
import Derived.Deep.RegionHeld3
import Derived.Test.YtfkbjkmlpinoeaaGreatProg
import Derived.Lib.Hide
set_option linter.unusedVariables false
set_option linter.unusedSimpArgs false
/-
  THE ABSTRACT MACHINE, seventh part: regions that draw their order and write: what leaves the world alone is taken first, the rest in every order. Own text; over any program.
-/
namespace Go.Proofs.YtfkbjkmlpinoeaaGreat
open Go.RowKit

/-- The worlds in which the blocks hs lie as they lay. -/
def HS (ρs : Rho) (nxs : Nat) (hs : List (Nat × Blk)) (w : World) : Prop := HB ρs (lk hs) nxs w
def SubB (H : Nat → Option Blk) : List (Nat × Blk) → Prop
  | [] => True
  | p :: r => H p.1 = some p.2 ∧ SubB H r
theorem SubB.at_ {H : Nat → Option Blk} : ∀ {l : List (Nat × Blk)} {k : Nat} {b : Blk}, SubB H l → lk l k = some b → H k = some b
  | [], _, _, _, h => by cases h
  | p :: r, k, b, h, hl => by
    unfold lk at hl
    cases e : Nat.beq k p.1 with
    | true => rw [e] at hl; have e := Nat.eq_of_beq_eq_true e; cases hl; subst e; exact h.1
    | false => rw [e] at hl; exact SubB.at_ h.2 hl
structure Here (E : Env) (N : Nat) (ρs : Rho) (nxs : Nat) (hs : List (Nat × Blk)) (σ : St) (ρ : Rho) (a : Act) (w : World) : Prop where
  inv : Inv E N ρ σ a w
  agree : ∀ k, k < nxs → ρ k = ρs k
  held : HS ρs nxs hs w
  le : nxs ≤ σ.nx
def awpH (P : Program) (E : Env) (N : Nat) (l0 : List Oper) (Q : Post) (ρs : Rho) (nxs : Nat) (hs : List (Nat × Blk)) (fuel : Nat) (listed : Array Bool) (σ : St) : Prop :=
  ∀ ρ a w, Here E N ρs nxs hs σ ρ a w → wpAnyH P .any l0.toArray (lift E N Q) (HS ρs nxs hs) fuel listed a w
def awpHop (P : Program) (E : Env) (N : Nat) (l0 : List Oper) (Q : Post) (ρs : Rho) (nxs : Nat) (hs : List (Nat × Blk)) (fuel : Nat) (listed : Array Bool) (i : Nat) (σ : St) : Prop :=
  ∀ ρ a w, Here E N ρs nxs hs σ ρ a w → wpOp P l0.toArray (lift E N Q) i (fun a' w' => HS ρs nxs hs w' ∧ wpAnyH P .any l0.toArray (lift E N Q) (HS ρs nxs hs) fuel (listed.setIfInBounds i true) a' w') a w
def allP (f : Nat → Prop) : List Nat → Prop
  | [] => True
  | i :: r => f i ∧ allP f r
theorem allP.mem {f : Nat → Prop} : ∀ {l : List Nat} {i : Nat}, allP f l → i ∈ l → f i
  | [], _, _, h => by cases h
  | j :: r, i, h, hi => by
    rcases List.mem_cons.1 hi with rfl | hi
    · exact h.1
    · exact allP.mem h.2 hi
def keysB (n : Nat) (l : List (Nat × Blk)) : Bool := l.all fun p => Nat.blt p.1 n && leB n p.2.ks
section
variable {P : Program} {tab : List (Nat × TD)} {E : Env} {N : Nat} {Q : Post} {fr : Nat → Option AV} {H : Nat → Option Blk} {nx : Nat}
variable {l0 : List Oper} {ρs : Rho} {nxs : Nat} {hs : List (Nat × Blk)} {fuel : Nat} {listed : Array Bool}

theorem HS.of {ρ : Rho} {w : World} (h : HInv E ρ H nx w) (ha : ∀ k, k < nxs → ρ k = ρs k) (h0 : 0 < nxs) (hs' : SubB H hs) (hk : keysB nxs hs = true) : HS ρs nxs hs w := by
  have hkey : ∀ k b, lk hs k = some b → k < nxs ∧ ∀ k' ∈ b.keys, k' < nxs := fun k b hb => by
    have := List.all_eq_true.1 hk _ (lk_mem hb)
    simp only [Bool.and_eq_true] at this
    exact ⟨nblt this.1, fun k' hk' => leB_sound this.2 k' (by rw [← Blk.ks_eq]; exact hk')⟩
  refine ⟨by rw [← ha 0 h0]; exact h.nil, h0, fun k b hb => ?_, hkey⟩
  exact (h.blk k b (hs'.at_ hb)).congr (ha k (hkey k b hb).1).symm fun k' hk' => (ha k' ((hkey k b hb).2 k' hk')).symm
theorem HS.hb {ρ : Rho} {w : World} (h : HS ρs nxs hs w) (ha : ∀ k, k < nxs → ρ k = ρs k) (hn : nxs ≤ nx) : HB ρ (lk hs) nx w :=
  ⟨by rw [ha 0 h.pos]; exact h.nil, Nat.lt_of_lt_of_le h.pos hn, fun k b hb => (h.blk k b hb).congr (ha k (h.key k b hb).1) fun k' hk' => ha k' ((h.key k b hb).2 k' hk'),
    fun k b hb => ⟨Nat.lt_of_lt_of_le (h.key k b hb).1 hn, fun k' hk' => Nat.lt_of_lt_of_le ((h.key k b hb).2 k' hk') hn⟩⟩
/-- The beginning of a region. -/
theorem awp_held {id : Nat} (hm : P.follows .mixedOrders = true) (hs : List (Nat × Blk)) (hsub : SubB H hs) (hk : keysB nx hs = true)
    (h : ∀ ρs, awpH P E N l0 Q ρs nx hs l0.length (Array.replicate l0.length false) ⟨fr, H, nx⟩) : awp P E N (.region id l0.toArray true) Q ⟨fr, H, nx⟩ := by
  unfold awp
  intro ρ a w hI
  have hd : HInv E ρ H nx { w with drawn := w.drawn + 1 } := hI.h.drew
  have := h ρ ρ a _ ⟨⟨hI.f, hd⟩, fun _ _ => rfl, HS.of hd (fun _ _ => rfl) hd.hb.pos hsub hk, Nat.le_refl _⟩
  exact wp_region_held (S := HS ρ nx hs) hm (by simpa using this)
theorem w_v (hr : Region.ready .any l0.toArray listed = []) (h : Q .normal ⟨fr, H, nx⟩) : awpH P E N l0 Q ρs nxs hs fuel listed ⟨fr, H, nx⟩ := fun ρ _ _ hh =>
  wpAnyH_done hr ⟨ρ, _, hh.inv, h⟩ fuel
theorem w_t (hT : Tab P tab) (i : Nat) {o : Oper} {c : Prop} {v : AV} {d : Nat} (hi : nth l0 i = some o) (hsel : Region.noSelect l0.toArray = true) (hf : Region.free .any l0.toArray listed i = true) (hr : (Region.ready .any l0.toArray listed).contains i = true)
    (hQ : ∀ ch σ, Q (.panic ch) σ → False) (hdst : o.dst = some d) (hw : wantA l0 fr o = some true) (hd : Nat.blt d N = true) (hs' : pstep tab fr (lk hs) o.op = some (c, v)) (hc : c)
    (h : awpH P E N l0 Q ρs nxs hs fuel (listed.setIfInBounds i true) ⟨upd fr d v, H, nx⟩) : awpH P E N l0 Q ρs nxs hs (fuel + 1) listed ⟨fr, H, nx⟩ := fun ρ a w hh => by
  have hi' : l0.toArray[i]? = some o := by rw [← hi, nth_eq]; simp
  have hrun : ∀ w', HS ρs nxs hs w' → PS P o a w' ρ nx v := fun w' hw' => pstep_sound hT hh.inv.f (hw'.hb hh.agree hh.le) hs' hc
  refine wpAnyH_take (v := v.conc ρ) hi' hsel hf hr (fun ch a' w' ⟨_, _, _, q⟩ => (hQ _ _ q).elim) (.inl ⟨wantA_sound hh.inv.f hw, fun w' hw' => (hrun w' hw').1⟩) hh.held ?_
  rw [hdst]
  exact h ρ _ w ⟨⟨hh.inv.f.put (nblt hd) (hrun w hh.held).2, hh.inv.h⟩, hh.agree, hh.held, hh.le⟩
/-- The address of an element: it hangs on where the block lies alone, so the block need not be held. -/
theorem w_w (hT : Tab P tab) (i : Nat) {o : Oper} {c : Prop} {v : AV} {d : Nat} {t : TypeId} {x y : Operand} (hi : nth l0 i = some o) (hsel : Region.noSelect l0.toArray = true) (hf : Region.free .any l0.toArray listed i = true) (hr : (Region.ready .any l0.toArray listed).contains i = true)
    (hQ : ∀ ch σ, Q (.panic ch) σ → False) (hdst : o.dst = some d) (hw : wantA l0 fr o = some true) (hd : Nat.blt d N = true) (ho : o.op = .indexAddr t x y) (hs' : pIndexAddr tab fr H t x y = some (c, v)) (hc : c)
    (h : awpH P E N l0 Q ρs nxs hs fuel (listed.setIfInBounds i true) ⟨upd fr d v, H, nx⟩) : awpH P E N l0 Q ρs nxs hs (fuel + 1) listed ⟨fr, H, nx⟩ := fun ρ a w hh => by
  have hi' : l0.toArray[i]? = some o := by rw [← hi, nth_eq]; simp
  have hrun : ∀ w', PS P o a w' ρ nx v := fun w' => pIndexAddr_all hT.ok ho hh.inv.f hh.inv.h.hb hs' hc w'
  refine wpAnyH_take (v := v.conc ρ) hi' hsel hf hr (fun ch a' w' ⟨_, _, _, q⟩ => (hQ _ _ q).elim) (.inl ⟨wantA_sound hh.inv.f hw, fun w' _ => (hrun w').1⟩) hh.held ?_
  rw [hdst]
  exact h ρ _ w ⟨⟨hh.inv.f.put (nblt hd) (hrun w).2, hh.inv.h⟩, hh.agree, hh.held, hh.le⟩
theorem awpH_pass (i : Nat) {o : Oper} {d : Nat} (hi : nth l0 i = some o) (hsel : Region.noSelect l0.toArray = true) (hf : Region.free .any l0.toArray listed i = true) (hr : (Region.ready .any l0.toArray listed).contains i = true)
    (hQ : ∀ ch σ, Q (.panic ch) σ → False) (hdst : o.dst = some d) (hw : wantA l0 fr o = some false)
    (h : awpH P E N l0 Q ρs nxs hs fuel (listed.setIfInBounds i true) ⟨upd fr d (.tup []), H, nx⟩) : awpH P E N l0 Q ρs nxs hs (fuel + 1) listed ⟨fr, H, nx⟩ := fun ρ a w hh => by
  have hi' : l0.toArray[i]? = some o := by rw [← hi, nth_eq]; simp
  refine wpAnyH_take (v := undef) hi' hsel hf hr (fun ch a' w' ⟨_, _, _, q⟩ => (hQ _ _ q).elim) (.inr ⟨wantA_sound hh.inv.f hw, rfl⟩) hh.held ?_
  rw [hdst]
  exact h ρ _ w ⟨⟨hh.inv.f.skip d, hh.inv.h⟩, hh.agree, hh.held, hh.le⟩
theorem awpH_split {o : Oper} {s : Nat} {b : Bool} {g : Nat × Bool} (i : Nat) (_hi : nth l0 i = some o) (_hg : o.guard = some g) (_hs : slotOf l0 g.1 = some s) (hb : fr s = some (.one (.bool b)))
    (ht : b = true → awpH P E N l0 Q ρs nxs hs fuel listed ⟨upd fr s (.one (.bool true)), H, nx⟩)
    (hf : b = false → awpH P E N l0 Q ρs nxs hs fuel listed ⟨upd fr s (.one (.bool false)), H, nx⟩) : awpH P E N l0 Q ρs nxs hs fuel listed ⟨fr, H, nx⟩ := fun ρ a w hh => by
  cases b with
  | true => exact ht rfl ρ a w ⟨⟨hh.inv.f.pin hb rfl, hh.inv.h⟩, hh.agree, hh.held, hh.le⟩
  | false => exact hf rfl ρ a w ⟨⟨hh.inv.f.pin hb rfl, hh.inv.h⟩, hh.agree, hh.held, hh.le⟩
theorem w_u (rs : List Nat) (hr : Region.ready .any l0.toArray listed = rs) (hne : rs.isEmpty = false) (h : allP (fun i => awpHop P E N l0 Q ρs nxs hs fuel listed i ⟨fr, H, nx⟩) rs) :
    awpH P E N l0 Q ρs nxs hs (fuel + 1) listed ⟨fr, H, nx⟩ := fun ρ a w hh =>
  wpAnyH_all hr (fun e => by rw [e] at hne; cases hne) fun i hi => (h.mem hi) ρ a w hh
theorem awpHop_op (i : Nat) {o : Oper} {R : AV → (Nat → Option Blk) → Nat → Prop} (hi : nth l0 i = some o) (hw : wantA l0 fr o = some true) (hd : inFrame N o.dst = true) (hk : keysB nxs hs = true) (ho : OpR P o E N ⟨fr, H, nx⟩ R)
    (h : ∀ v H' nx', R v H' nx' → SubB H' hs ∧ awpH P E N l0 Q ρs nxs hs fuel (listed.setIfInBounds i true) (putA ⟨fr, H', nx'⟩ o.dst v)) : awpHop P E N l0 Q ρs nxs hs fuel listed i ⟨fr, H, nx⟩ := fun ρ a w hh => by
  have hi' : l0.toArray[i]? = some o := by rw [← hi, nth_eq]; simp
  unfold wpOp
  simp only [hi']
  rw [wantA_sound hh.inv.f hw, if_pos rfl]
  refine .inl (ho ρ a w hh.inv _ _ fun ρ' w' v H' nx' hR hH hρ hn hk' => ?_)
  obtain ⟨h1, h2⟩ := h v H' nx' hR
  have hagree : ∀ k, k < nxs → ρ' k = ρs k := fun k hk => (hρ k (Nat.lt_of_lt_of_le hk hh.le)).trans (hh.agree k hk)
  have hle : nxs ≤ nx' := Nat.le_trans hh.le hn
  have hS : HS ρs nxs hs w' := HS.of hH hagree hh.held.pos h1 hk
  refine ⟨hS, h2 ρ' _ w' ⟨Inv.put (σ' := ⟨fr, H', nx'⟩) (hh.inv.f.mono hρ hn) hH hd hk', hagree, hS, ?_⟩⟩
  cases o.dst <;> exact hle
theorem w_s (hT : Tab P tab) (i : Nat) {o : Oper} {c : Prop} {fr' : Nat → Option AV} {H' : Nat → Option Blk} {nx' : Nat} (hi : nth l0 i = some o) (hw : wantA l0 fr o = some true) (hd : inFrame N o.dst = true) (hs' : stepA tab fr H nx o = some (c, fr', H', nx')) (hc : c) (hsub : SubB H' hs) (hk : keysB nxs hs = true)
    (h : awpH P E N l0 Q ρs nxs hs fuel (listed.setIfInBounds i true) ⟨fr', H', nx'⟩) : awpHop P E N l0 Q ρs nxs hs fuel listed i ⟨fr, H, nx⟩ := by
  unfold stepA at hs'
  have key : ∀ {R : AV → (Nat → Option Blk) → Nat → Prop} {v1 : AV} {H1 : Nat → Option Blk} {n1 : Nat}, OpR P o E N ⟨fr, H, nx⟩ (det v1 H1 n1) → putA ⟨fr, H1, n1⟩ o.dst v1 = ⟨fr', H', nx'⟩ → H1 = H' → awpHop P E N l0 Q ρs nxs hs fuel listed i ⟨fr, H, nx⟩ := fun {R v1 H1 n1} ho e e2 =>
    awpHop_op i hi hw hd hk ho fun v H2 n2 ⟨e3, e4, e5⟩ => by subst e3 e4 e5; exact ⟨by rw [e2]; exact hsub, by rw [e]; exact h⟩
  split at hs'
  · rename_i c' v hr
    split at hs'
    · rename_i d hdst
      cases hs'
      exact key (R := fun _ _ _ => True) (OpR.pure hT hr hc) (by rw [hdst]; rfl) rfl
    · rename_i hdst
      cases hs'
      exact key (R := fun _ _ _ => True) (OpR.pure hT hr hc) (by rw [hdst]; rfl) rfl
  · split at hs'
    · rename_i t x d ho hdst
      split at hs'
      · rename_i v H1 hr
        cases hs'
        exact key (R := fun _ _ _ => True) (sBox_sound ho hr) (by rw [hdst]; rfl) rfl
      · cases hs'
    · rename_i t d ho hdst
      split at hs'
      · rename_i v H1 hr
        cases hs'
        exact key (R := fun _ _ _ => True) (sAlloc_sound hT ho hr) (by rw [hdst]; rfl) rfl
      · cases hs'
    · rename_i t x y d ho hdst
      split at hs'
      · rename_i c' v H1 hr
        cases hs'
        exact key (R := fun _ _ _ => True) (sMake_sound hT ho hr hc) (by rw [hdst]; rfl) rfl
      · cases hs'
    · rename_i t n ps d ho hdst
      split at hs'
      · rename_i v H1 hr
        cases hs'
        exact key (R := fun _ _ _ => True) (sBuildSlice_sound hT ho hr) (by rw [hdst]; rfl) rfl
      · split at hs'
        · rename_i c' v H1 hr
          cases hs'
          exact key (R := fun _ _ _ => True) (sBuildRows_sound hT ho hr hc) (by rw [hdst]; rfl) rfl
        · cases hs'
    · rename_i t x d ho hdst
      split at hs'
      · rename_i c' v H1 hr
        cases hs'
        exact key (R := fun _ _ _ => True) (sLoadR_sound hT ho hr hc) (by rw [hdst]; rfl) rfl
      · cases hs'
    · rename_i t x y ho hdst
      split at hs'
      · rename_i c' H1 hr
        cases hs'
        exact key (R := fun _ _ _ => True) (sStore_sound hT ho hdst hr hc) (by rw [hdst]; rfl) rfl
      · cases hs'
    · cases hs'
theorem w_y (hT : Tab P tab) (i : Nat) {o : Oper} {c : Prop} {et k sz n m d : Nat} {e' : Elts} {t : TypeId} {x y : Operand} (hi : nth l0 i = some o) (ho : o.op = .call ⟨.builtin .append, #[x, y], #[t, t]⟩) (hdst : o.dst = some d)
    (hw : wantA l0 fr o = some true) (hd : inFrame N o.dst = true) (hs' : sAppend tab fr H nx t x y = some (c, appOut H nx et k sz n e' m)) (hc : c) (hsub : SubB (upd (upd H k .dead) nx (.own et 0 e')) hs) (hk : keysB nxs hs = true) (hlt : Nat.ble nxs nx = true)
    (h : ∀ cap, n + m ≤ cap → awpH P E N l0 Q ρs nxs hs fuel (listed.setIfInBounds i true) ⟨upd fr d (.one (.sl nx sz 0 (n + m) cap)), upd (upd H k .dead) nx (.own et cap e'), nx + 1⟩) : awpHop P E N l0 Q ρs nxs hs fuel listed i ⟨fr, H, nx⟩ :=
  awpHop_op i hi hw hd hk (sAppend_sound hT ho hs' hc) fun _ _ _ ⟨cap, h1, e1, e2, e3⟩ => by
    subst e1 e2 e3
    refine ⟨?_, by rw [hdst]; exact h cap h1⟩
    have hlt := Nat.le_of_ble_eq_true hlt
    have : ∀ (l : List (Nat × Blk)), (∀ p ∈ l, p.1 < nxs) → SubB (upd (upd H k .dead) nx (.own et 0 e')) l → SubB (upd (upd H k .dead) nx (.own et cap e')) l := fun l => by
      induction l with
      | nil => intro _ _; trivial
      | cons p r ih =>
        intro hl hb
        refine ⟨?_, ih (fun q hq => hl q (by simp [hq])) hb.2⟩
        have := hl p (by simp)
        have h1 := hb.1
        rw [upd_ne (by omega)] at h1 ⊢
        exact h1
    exact this hs (fun p hp => by
      have := List.all_eq_true.1 hk p hp
      simp only [Bool.and_eq_true] at this
      exact nblt this.1) hsub
theorem w_B (i : Nat) {o : Oper} {f : FuncId} {args : List AV} {Hin : List (Nat × Blk)} {n0 n d : Nat} {v : AV} (hD : Does P f args Hin n0 (Ret v n)) {fo : Operand} {xs : Array Operand} {ts : Array TypeId}
    (hi : nth l0 i = some o) (ho : o.op = .call ⟨.value fo, xs, ts⟩) (hdst : o.dst = some d) {l : List AV} (hl : callArgs fr fo xs = some (f, l)) (ha : l = args.map (AV.ren (mp (matchM args l)))) (hw : wantA l0 fr o = some true) (hd : inFrame N o.dst = true) (hk : leB n0 (args.flatMap AV.keys) = true) (hv : v.keys = [])
    (hf : FitB H (mp (matchM args l)) Hin) (hok : okCall n0 nx (matchM args l) Hin = true) (hno : noOwn Hin = true) (hsub : SubB H hs) (hkb : keysB nxs hs = true)
    (h : awpH P E N l0 Q ρs nxs hs fuel (listed.setIfInBounds i true) ⟨upd fr d v, H, nx⟩) : awpHop P E N l0 Q ρs nxs hs fuel listed i ⟨fr, H, nx⟩ :=
  awpHop_op i hi hw hd hkb (OpR.ret hD ho (matchM args l) (ha ▸ hl) hk hv hf hok hno) fun _ _ _ ⟨e1, e2, e3⟩ => by subst e1 e2 e3; rw [hdst]; exact ⟨hsub, h⟩
theorem w_D (i : Nat) {o : Oper} {f : FuncId} {args : List AV} {Hin : List (Nat × Blk)} {n0 d : Nat} {Out : AV → List (Nat × Blk) → Nat → Prop} (hD : Does P f args Hin n0 Out) {fo : Operand} {xs : Array Operand} {ts : Array TypeId}
    (hi : nth l0 i = some o) (ho : o.op = .call ⟨.value fo, xs, ts⟩) (hdst : o.dst = some d) {l : List AV} (hl : callArgs fr fo xs = some (f, l)) (ha : l = args.map (AV.ren (mp (matchM args l)))) (hw : wantA l0 fr o = some true) (hd : inFrame N o.dst = true) (hk : leB n0 (args.flatMap AV.keys) = true)
    (hf : FitB H (mp (matchM args l)) Hin) (hok : okCall n0 nx (matchM args l) Hin = true) (hno : noOwn Hin = true) (hout : ∀ v Hout n1, Out v Hout n1 → ∃ b, Hout = [(n0, b)] ∧ n1 = n0 + 1 ∧ b.keys = []) (hsub : SubB H hs) (hkb : keysB nxs hs = true) (hlt : Nat.ble nxs nx = true)
    (h : ∀ v b, Out v [(n0, b)] (n0 + 1) → awpH P E N l0 Q ρs nxs hs fuel (listed.setIfInBounds i true) ⟨upd fr d (v.ren (mq (matchM args l) n0 nx)), upd H nx b, nx + 1⟩) : awpHop P E N l0 Q ρs nxs hs fuel listed i ⟨fr, H, nx⟩ :=
  awpHop_op i hi hw hd hkb (OpR.one hD ho (matchM args l) (ha ▸ hl) hk hf hok hno hout) fun _ _ _ ⟨v, b, h1, e1, e2, e3⟩ => by
    subst e1 e2 e3
    refine ⟨?_, by rw [hdst]; exact h v b h1⟩
    have hlt := Nat.le_of_ble_eq_true hlt
    have : ∀ (l : List (Nat × Blk)), (∀ p ∈ l, p.1 < nxs) → SubB H l → SubB (upd H nx b) l := fun l => by
      induction l with
      | nil => intro _ _; trivial
      | cons p r ih =>
        intro hl hb
        refine ⟨?_, ih (fun q hq => hl q (by simp [hq])) hb.2⟩
        have := hl p (by simp)
        rw [upd_ne (by omega)]
        exact hb.1
    exact this hs (fun p hp => by
      have := List.all_eq_true.1 hkb p hp
      simp only [Bool.and_eq_true] at this
      exact nblt this.1) hsub
end
attribute [irreducible] awpH awpHop
end Go.Proofs.YtfkbjkmlpinoeaaGreat

/-
  Plain facts on bounded integers, and small words for the walks: 'Ext W': a world in which all that lay in W lies as it did (new blocks, draws of the tape alone). Own text; no program in sight.
-/
namespace Go.Proofs.YtfkbjkmlpinoeaaGreat
open Go.RowKit

theorem ret_bool {a b : Bool} (h : a = b) : Ending.returned (.bool a) = .returned (.bool b) := by rw [h]
theorem ret_int {k : IntKind} {a b : Int} (h : a = b) : Ending.returned (.int k a) = .returned (.int k b) := by rw [h]
theorem ret_val {a b : Value} (h : a = b) : Ending.returned a = .returned b := by rw [h]

/-- A world behind W in which every block of W is as it was; n blocks are new. -/
structure Ext (W : World) where
  val : World
  below : Below W.heap.size W val
  n : Nat
  size_eq : val.heap.size = W.heap.size + n

def Ext.of {W w : World} (h : Below W.heap.size W w) : Ext W := ⟨w, h, w.heap.size - W.heap.size, by have := h.size; omega⟩
def Ext.refl (W : World) : Ext W := Ext.of (Below.refl _ _)
theorem Ext.some {W w : World} (h : Below W.heap.size W w) : ∃ x : Ext W, w = x.val := ⟨Ext.of h, rfl⟩
/-- behind a name, for a loop's relation -/
def IsExt (W wr : World) : Prop := ∃ y : Ext W, wr = y.val
theorem IsExt.of {W w : World} (h : Below W.heap.size W w) : IsExt W w := Ext.some h
instance Ext.nonempty (W : World) : Nonempty (Ext W) := ⟨Ext.refl W⟩

/-- A cell that no rule looks into. -/
def farCell (w : World) (a : Addr) : Option Value := w.cell? a
def farFrozen (w : World) (a : Addr) : Bool := w.frozen? a

attribute [go_sem] Ext.size_eq
section
variable {W : World} (x : Ext W)
@[go_sem low] theorem Ext.cell (b o : Nat) : x.val.cell? ⟨b, o, none⟩ = if b < W.heap.size then W.cell? ⟨b, o, none⟩ else farCell x.val ⟨b, o, none⟩ := by
  split
  · exact x.below.cell (p := ⟨b, o, none⟩) ‹_›
  · rfl
@[go_sem low] theorem Ext.frozen (b o : Nat) : x.val.frozen? ⟨b, o, none⟩ = if b < W.heap.size then W.frozen? ⟨b, o, none⟩ else farFrozen x.val ⟨b, o, none⟩ := by
  split
  · exact x.below.frozen (p := ⟨b, o, none⟩) ‹_›
  · rfl
@[go_sem low] theorem alloc_cell (c : Array Value) (t : TypeId) (b o : Nat) : (W.alloc (.cells c t)).cell? ⟨b, o, none⟩ = if b < W.heap.size then W.cell? ⟨b, o, none⟩ else if b = W.heap.size then c[o]? else farCell (W.alloc (.cells c t)) ⟨b, o, none⟩ := by
  split
  · exact World.cell?_alloc_lt _ _ _ ‹_›
  · split
    · subst_vars; exact World.cell?_alloc_new _ _ _ _
    · rfl
@[go_sem low] theorem setCell_cell (b o b' o' : Nat) (v : Value) : (W.setCell ⟨b, o, none⟩ v).cell? ⟨b', o', none⟩ = if b = b' then (if o = o' then (W.cell? ⟨b, o, none⟩).map (fun _ => v) else W.cell? ⟨b', o', none⟩) else W.cell? ⟨b', o', none⟩ := by
  by_cases e1 : b = b'
  · by_cases e2 : o = o'
    · subst e1
      subst e2
      rw [if_pos rfl, if_pos rfl]
      cases h : W.cell? ⟨b, o, none⟩ with
      | some u => exact World.cell?_setCell_same _ _ _ h
      | none =>
        simp only [Option.map_none]
        cases h2 : (W.setCell ⟨b, o, none⟩ v).cell? ⟨b, o, none⟩ with
        | none => rfl
        | some u =>
          exfalso
          simp only [World.cell?, World.setCell, Array.getElem?_modify] at h h2
          cases hb : W.heap[b]? with
          | none => simp [hb] at h2
          | some ob => cases ob <;> simp [hb, Array.getElem?_setIfInBounds] at h h2 <;> omega
    · rw [if_pos e1, if_neg e2]; exact World.cell?_setCell_other _ _ _ _ (by intro e; injection e with _ e3 _; exact e2 e3)
  · rw [if_neg e1]; exact World.cell?_setCell_other _ _ _ _ (by intro e; injection e with e3 _ _; exact e1 e3)
theorem Ext.size : W.heap.size ≤ x.val.heap.size := x.below.size
theorem Ext.le_size {b : Nat} (h : b ≤ W.heap.size) : b ≤ x.val.heap.size := Nat.le_trans h x.below.size
theorem Ext.up {B : Nat} {w : World} (h : Below B w W) (hB : B ≤ W.heap.size) : Below B w x.val := h.trans (x.below.mono hB)
end

theorem Below.via {B B' : Nat} {w a b : World} (h : Below B' a b) (h1 : Below B w a) (hB : B ≤ B') : Below B w b := h1.trans (h.mono hB)
theorem le_alloc {b : Nat} {w : World} (h : b ≤ w.heap.size) (o : Obj) : b ≤ (w.alloc o).heap.size := by simp; omega
theorem le_setCell {b : Nat} {w : World} (h : b ≤ w.heap.size) (a : Addr) (v : Value) : b ≤ (w.setCell a v).heap.size := by simpa [World.setCell] using h
theorem le_drew {b : Nat} {w : World} (h : b ≤ w.heap.size) : b ≤ w.drew.heap.size := h

/-- What a call gives: the value v, and a world in which all old memory is as it was. -/
def Gives (P : Program) (f : FuncId) (args : Array Value) (w : World) (v : Value) : Prop :=
  Calls P f args w fun e w' => e = .returned v ∧ ∃ x : Ext w, w' = x.val

theorem Gives.calls {P : Program} {f : FuncId} {args : Array Value} {w : World} {v : Value} (h : Gives P f args w v) :
    Calls P f args w fun e w' => e = .returned v ∧ ∃ x : Ext w, w' = x.val := h
theorem Gives.of_same {P : Program} {f : FuncId} {args : Array Value} {w : World} {v : Value} (h : Calls P f args w fun e w' => e = .returned v ∧ w = w') :
    Gives P f args w v := Calls.mono h fun _ _ ⟨he, hw⟩ => ⟨he, Ext.refl w, hw.symm⟩
theorem Gives.below {P : Program} {f : FuncId} {args : Array Value} {w : World} {v : Value} (h : Gives P f args w v) :
    Calls P f args w fun e w' => e = .returned v ∧ Below w.heap.size w w' := Calls.mono h fun _ _ ⟨he, x, hw⟩ => ⟨he, hw ▸ x.below⟩
theorem Gives.of_below {P : Program} {f : FuncId} {args : Array Value} {w : World} {v : Value} (h : Calls P f args w fun e w' => e = .returned v ∧ Below w.heap.size w w') :
    Gives P f args w v := Calls.mono h fun _ _ ⟨he, hb⟩ => ⟨he, Ext.of hb, rfl⟩

/-- At a call inside a region that draws its order. -/
theorem Gives.quiet {P : Program} {f : FuncId} {args : Array Value} {W : World} {x : Ext W} {v : Value} (h : Gives P f args x.val v) :
    Calls P f args x.val fun e w'' => e = .returned v ∧ ∃ y : Ext W, w'' = y.val :=
  Calls.mono h fun _ _ ⟨he, y, hw⟩ => ⟨he, Ext.of (x.below.trans (y.below.mono x.below.size)), hw⟩
theorem quiet_same {P : Program} {f : FuncId} {args : Array Value} {W : World} {x : Ext W} {v : Value} (h : Calls P f args x.val fun e w' => e = .returned v ∧ x.val = w') :
    Calls P f args x.val fun e w'' => e = .returned v ∧ ∃ y : Ext W, w'' = y.val := (Gives.of_same h).quiet

theorem wp_region_ext {P : Program} {id : Nat} {Q : Exit → Act → World → Prop} {a : Act} {w : World} {l : List Oper} (hm : P.follows .mixedOrders = true) (hB : Region.lexB .any l.toArray = true)
    (h : wpQuiet P l.toArray (fun w' => ∃ x : Ext w, w' = x.val) (fun a' => ∀ w', (∃ x : Ext w, w' = x.val) → Q .normal a' w') l a) : (Code.region id l.toArray true).wp P Q a w :=
  wp_region_quiet (C := fun w' => ∃ x : Ext w, w' = x.val) hm hB (Ext.some (Below.refl _ _).drew) (by simpa using h)

/-- A product of bounded numbers is bounded. -/
theorem mul_bd {a b A B : Int} (h1 : -A ≤ a) (h2 : a ≤ A) (h3 : -B ≤ b) (h4 : b ≤ B) : -(A * B) ≤ a * b ∧ a * b ≤ A * B := by
  have ha : (a.natAbs : Int) ≤ A := by omega
  have hb : (b.natAbs : Int) ≤ B := by omega
  have h : ((a * b).natAbs : Int) ≤ A * B := by
    rw [Int.natAbs_mul, Int.natCast_mul]
    exact Int.mul_le_mul ha hb (Int.natCast_nonneg _) (by omega)
  omega
theorem sq_nonneg (a : Int) : 0 ≤ a * a := by
  rw [← Int.natAbs_mul_self]; exact Int.natCast_nonneg _
theorem w64 {x : Int} (h1 : -9223372036854775808 ≤ x) (h2 : x ≤ 9223372036854775807) : wrap64 x = x := by unfold wrap64; omega

end Go.Proofs.YtfkbjkmlpinoeaaGreat

/-
  WALKS: the number functions of both packages: what each call gives.
-/
namespace Go.Proofs.YtfkbjkmlpinoeaaGreat
open Go.RowKit

def inB (a b c : Int) : Bool := decide (b ≤ a ∧ a ≤ c)
def numB (a : Int) : Bool := decide (-400000000 ≤ a ∧ a ≤ 400000000)
def absW (a : Int) : Int := if a < 0 then wrap64 (-a) else a
theorem inB_true {a b c : Int} : inB a b c = true ↔ b ≤ a ∧ a ≤ c := by simp [inB]
theorem inB_false {a b c : Int} : inB a b c = false ↔ a < b ∨ c < a := by simp [inB]; omega
theorem numB_true {a : Int} : numB a = true ↔ -400000000 ≤ a ∧ a ≤ 400000000 := by simp [numB]
theorem numB_false {a : Int} : numB a = false ↔ a < -400000000 ∨ 400000000 < a := by simp [numB]; omega
theorem absW_eq {a : Int} (h : -9223372036854775807 ≤ a) (h' : a ≤ 9223372036854775807) : absW a = (a.natAbs : Int) := by
  unfold absW; split
  · rw [w64 (by omega) (by omega)]; omega
  · omega

set_option maxHeartbeats 400000 in
theorem l1In_any (a b c : Int) (w : World) :
    Calls Tryz.prog 140 #[.int .i64 a, .int .i64 b, .int .i64 c] w fun e w' => e = .returned (.bool (inB a b c)) ∧ w = w' := by
  go_enter Tryz.func140, Tryz.ntmps140
  go_wp2
  all_goals go_ret
  all_goals exact ⟨ret_bool (by simp [inB] <;> omega), rfl⟩
set_option maxHeartbeats 400000 in
theorem isNumberS_any (a : Int) (w : World) :
    Calls Tryz.prog 141 #[.int .i64 a] w fun e w' => e = .returned (.bool (numB a)) ∧ w = w' := by
  go_enter Tryz.func141, Tryz.ntmps141
  go_wp2_with (go_at_call 140; refine (l1In_any _ _ _ _).mono ?_; rintro e w' ⟨rfl, rfl⟩)
  go_ret
  exact ⟨rfl, rfl⟩
theorem isNumberS_of {a : Int} {t : Bool} (h : numB a = t) (w : World) :
    Calls Tryz.prog 141 #[.int .i64 a] w fun e w' => e = .returned (.bool t) ∧ w = w' := h ▸ isNumberS_any a w
set_option maxHeartbeats 400000 in
theorem isNumberI_any (a : Int) (w : World) :
    Calls Tryz.prog 107 #[.int .i64 a] w fun e w' => e = .returned (.bool (numB a)) ∧ w = w' := by
  go_enter Tryz.func107, Tryz.ntmps107
  go_wp2
  all_goals go_ret
  all_goals exact ⟨ret_bool (by simp [numB] <;> omega), rfl⟩
theorem isNumberI_of {a : Int} {t : Bool} (h : numB a = t) (w : World) :
    Calls Tryz.prog 107 #[.int .i64 a] w fun e w' => e = .returned (.bool t) ∧ w = w' := h ▸ isNumberI_any a w
set_option maxHeartbeats 400000 in
theorem absInt_any (a : Int) (w : World) :
    Calls Tryz.prog 89 #[.int .i64 a] w fun e w' => e = .returned (.int .i64 (absW a)) ∧ w = w' := by
  go_enter Tryz.func89, Tryz.ntmps89
  go_wp2
  all_goals go_ret
  all_goals exact ⟨ret_int (by unfold absW; first | rw [if_pos ‹_›]; done | rw [if_neg (by omega)]), rfl⟩
set_option maxHeartbeats 400000 in
theorem l1Abs_any (a : Int) (w : World) (h : -9223372036854775807 ≤ a) (h' : a ≤ 9223372036854775807) :
    Calls Tryz.prog 86 #[.int .i64 a] w fun e w' => e = .returned (.int .i64 a.natAbs) ∧ w = w' := by
  go_enter Tryz.func86, Tryz.ntmps86
  go_wp2
  all_goals go_ret
  all_goals exact ⟨ret_int (by omega), rfl⟩

theorem gcd_step (x y : Int) : Int.gcd y (x.tmod y) = Int.gcd x y := by
  unfold Int.gcd
  rw [Int.natAbs_tmod, Nat.gcd_comm y.natAbs, ← Nat.gcd_rec, Nat.gcd_comm]

set_option maxHeartbeats 400000 in
theorem gcd_any (a b : Int) (w : World) (ha : -9223372036854775807 ≤ a) (ha' : a ≤ 9223372036854775807) (hb : -9223372036854775807 ≤ b) (hb' : b ≤ 9223372036854775807) :
    Gives Tryz.prog 112 #[.int .i64 a, .int .i64 b] w (.int .i64 (Int.gcd a b)) := by
  unfold Gives
  go_enter Tryz.func112, Tryz.ntmps112
  go_wp2
  go_loopw [0, 1] (fun s t wr => ∃ x y : Int, s = .int .i64 x ∧ t = .int .i64 y ∧ -9223372036854775807 ≤ x ∧ x ≤ 9223372036854775807 ∧ -9223372036854775807 ≤ y ∧ y ≤ 9223372036854775807 ∧ Hid (Int.gcd x y = Int.gcd a b) ∧ Below w.heap.size w wr) (fun _ t _ => (intOf t).natAbs)
  case atStart => exact ⟨a, b, rfl, rfl, ha, ha', hb, hb', rfl, Below.refl _ _⟩
  case round =>
    obtain ⟨x, y, rfl, rfl, hx, hx', hy, hy', hg, hw⟩ := hrel
    by_cases h0 : y = 0
    · subst h0
      go_wp2_with (go_at_call 89; refine (absInt_any _ _).mono ?_; rintro e w' ⟨rfl, rfl⟩)
      go_ret
      refine ⟨ret_int ?_, Ext.some hw⟩
      rw [← hg.out, absW_eq hx hx']; simp
    · go_wp2
      go_region
      have hz : (x.tmod y).natAbs = x.natAbs % y.natAbs := Int.natAbs_tmod x y
      have hl : x.natAbs % y.natAbs < y.natAbs := Nat.mod_lt _ (by omega)
      go_wp2
      go_roundw
      case rel => exact ⟨y, x.tmod y, rfl, rfl, hy, hy', by omega, by omega, (gcd_step x y).trans hg.out, hw.drew⟩
      case measure => simp [intOf]; omega
def gcdOf (a b : Int) : Int := if numB a && numB b then (Int.gcd a b : Int) else 0
theorem gcdOf_eq {a b : Int} (ha : numB a = true) (hb : numB b = true) : gcdOf a b = (Int.gcd a b : Int) := by simp [gcdOf, ha, hb]
theorem gcd_le_left {a b M : Int} (h1 : -M ≤ a) (h2 : a ≤ M) (h3 : -M ≤ b) (h4 : b ≤ M) : (Int.gcd a b : Int) ≤ M := by
  by_cases h : a = 0
  · subst h; simp; omega
  · have := Nat.le_of_dvd (by omega) (Nat.gcd_dvd_left a.natAbs b.natAbs)
    have e : Int.gcd a b = Nat.gcd a.natAbs b.natAbs := rfl
    omega
set_option maxHeartbeats 400000 in
theorem gcdOf_any (a b : Int) (w : World) :
    Gives Tryz.prog 148 #[.int .i64 a, .int .i64 b] w (.int .i64 (gcdOf a b)) := by
  refine Gives.of_below ?_
  by_cases ha : numB a = true
  · by_cases hb : numB b = true
    · have he := gcdOf_eq ha hb
      have HE := Lib.hid he
      clear he
      have ⟨ha1, ha2⟩ := numB_true.1 ha
      have ⟨hb1, hb2⟩ := numB_true.1 hb
      go_enter Tryz.func148, Tryz.ntmps148
      go_wp2_with (go_at_call 141; refine (isNumberS_any _ _).mono ?_; rintro e w' ⟨rfl, rfl⟩)
      go_loopw [0, 1] (fun s t wr => ∃ x y : Int, s = .int .i64 x ∧ t = .int .i64 y ∧ -400000000 ≤ x ∧ x ≤ 400000000 ∧ -400000000 ≤ y ∧ y ≤ 400000000 ∧ Hid (Int.gcd x y = Int.gcd a b) ∧ Below w.heap.size w wr) (fun _ t _ => (intOf t).natAbs)
      case atStart => exact ⟨a, b, rfl, rfl, ha1, ha2, hb1, hb2, rfl, Below.refl _ _⟩
      case round =>
        obtain ⟨x, y, rfl, rfl, hx, hx', hy, hy', hg, hw⟩ := hrel
        by_cases h0 : y = 0
        · subst h0
          go_wp2_with (go_at_call 86; refine (l1Abs_any _ _ (by omega) (by omega)).mono ?_; rintro e w' ⟨rfl, rfl⟩)
          go_ret
          refine ⟨ret_int ?_, hw⟩
          rw [HE.out, ← hg.out]; simp
        · go_wp2
          go_region
          have hz : (x.tmod y).natAbs = x.natAbs % y.natAbs := Int.natAbs_tmod x y
          have hl : x.natAbs % y.natAbs < y.natAbs := Nat.mod_lt _ (by omega)
          go_wp2
          go_roundw
          case rel => exact ⟨y, x.tmod y, rfl, rfl, hy, hy', by omega, by omega, (gcd_step x y).trans hg.out, hw.drew⟩
          case measure => simp [intOf]; omega
    · have hb' : numB b = false := by simpa using hb
      clear hb
      go_enter Tryz.func148, Tryz.ntmps148
      go_wp2_with (go_at_call 141; refine (isNumberS_any _ _).mono ?_; rintro e w' ⟨rfl, rfl⟩)
      go_ret
      exact ⟨ret_int (by simp [gcdOf, hb']), Below.refl _ _⟩
  · have ha' : numB a = false := by simpa using ha
    clear ha
    go_enter Tryz.func148, Tryz.ntmps148
    go_wp2_with (go_at_call 141; refine (isNumberS_any _ _).mono ?_; rintro e w' ⟨rfl, rfl⟩)
    go_ret
    exact ⟨ret_int (by simp [gcdOf, ha']), Below.refl _ _⟩

theorem emod_unique {a p r q : Int} (h0 : 0 ≤ r) (h1 : r < p) (h : a = p * q + r) : a % p = r := by
  subst h; rw [Int.mul_add_emod_self_left, Int.emod_eq_of_lt h0 h1]
theorem tmod_bd {a p : Int} (hp : 0 < p) : -p < a.tmod p ∧ a.tmod p < p := by
  have h1 : (a.tmod p).natAbs = a.natAbs % p.natAbs := Int.natAbs_tmod a p
  have h2 : a.natAbs % p.natAbs < p.natAbs := Nat.mod_lt _ (by omega)
  omega
theorem tmod_neg_emod {a p : Int} (hp : 0 < p) (h : a.tmod p < 0) : a.tmod p + p = a % p := by
  have hb := tmod_bd (a := a) hp
  have := Int.mul_tdiv_add_tmod a p
  refine (emod_unique (q := a.tdiv p - 1) (by omega) (by omega) ?_).symm
  rw [Int.mul_sub, Int.mul_one]; omega
theorem tmod_nonneg_emod {a p : Int} (hp : 0 < p) (h : 0 ≤ a.tmod p) : a.tmod p = a % p := by
  have hb := tmod_bd (a := a) hp
  have := Int.mul_tdiv_add_tmod a p
  exact (emod_unique (q := a.tdiv p) (by omega) (by omega) (by omega)).symm

theorem tdiv_floor_neg {n d : Int} (hd : 0 < d) (h : n.tmod d < 0) : n.tdiv d - 1 = n / d := by
  have hb := tmod_bd (a := n) hd
  have := Int.mul_tdiv_add_tmod n d
  refine ((Int.ediv_emod_unique hd (r := n.tmod d + d)).2 ⟨?_, by omega, by omega⟩).1.symm
  rw [Int.mul_sub, Int.mul_one]; omega
theorem tdiv_floor_nonneg {n d : Int} (hd : 0 < d) (h : 0 ≤ n.tmod d) : n.tdiv d = n / d := by
  have hb := tmod_bd (a := n) hd
  have := Int.mul_tdiv_add_tmod n d
  exact ((Int.ediv_emod_unique hd (r := n.tmod d)).2 ⟨by omega, by omega, by omega⟩).1.symm
theorem tdiv_bd (n d : Int) : -(n.natAbs : Int) ≤ n.tdiv d ∧ n.tdiv d ≤ n.natAbs := by
  have h : (n.tdiv d).natAbs = n.natAbs / d.natAbs := Int.natAbs_tdiv n d
  have h2 := Nat.div_le_self n.natAbs d.natAbs
  generalize n.natAbs / d.natAbs = q at h h2
  omega
theorem tmod_sign_nonneg {n d : Int} (h : 0 ≤ n) : 0 ≤ n.tmod d := Int.tmod_nonneg d h
theorem tmod_sign_nonpos {n d : Int} (h : n ≤ 0) : n.tmod d ≤ 0 := by
  have := Int.tmod_nonneg d (show 0 ≤ -n by omega)
  rw [Int.neg_tmod] at this; omega

set_option maxHeartbeats 400000 in
theorem l1Floor_any (n d : Int) (w : World) (hn : -9223372036854775807 ≤ n) (hn' : n ≤ 9223372036854775807) (hd : 0 < d) (h2 : d ≤ 9223372036854775807) :
    Calls Tryz.prog 185 #[.int .i64 n, .int .i64 d] w fun e w' => e = .returned (.int .i64 (n / d)) ∧ w = w' := by
  have hb := tdiv_bd n d
  have hb1 : -9223372036854775807 ≤ n.tdiv d := by omega
  have hb2 : n.tdiv d ≤ 9223372036854775807 := by omega
  clear hb
  have H1 := Lib.hid (@tdiv_floor_neg n d hd)
  have H2 := Lib.hid (@tdiv_floor_nonneg n d hd)
  go_enter Tryz.func185, Tryz.ntmps185
  go_wp2
  all_goals go_ret
  all_goals refine ⟨ret_int ?_, rfl⟩
  · have := H1.out ‹_›
    have hw : wrap64 (n.tdiv d - 1) = n.tdiv d - 1 := by unfold wrap64; omega
    first | exact this | exact hw.trans this
  · exact H2.out ‹_›
end Go.Proofs.YtfkbjkmlpinoeaaGreat
