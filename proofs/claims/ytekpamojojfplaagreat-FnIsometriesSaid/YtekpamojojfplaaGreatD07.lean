/-
  TEXTS OF THE PROOF, put together: Am7, Am8, Stp, Base, Num, bNum, Slice.
-/
import Derived.Test.YtekpamojojfplaaGreatD06
import Derived.WalkKit
import Derived.WalkSpells
import Derived.WalkLawsBesides
import Derived.Handy
import Derived.Deep.QuietTactic
import Derived.BigQuiet
import Derived.Deep.RegionHeld3
import Derived.Test.YtekpamojojfplaaGreatProg
import Derived.Lib.Hide
import Derived.OwnWalk
import Derived.Laws.OwnMore
import Derived.ChangeSlices
import Derived.WideShapes
set_option linter.unusedVariables false
set_option linter.unusedSimpArgs false
namespace Go.Proofs.YtekpamojojfplaaGreat
open Go.RowKit
def HS (ρs : Rho) (nxs : Nat) (hs : List (Nat × Blk)) (w : World) : Prop := HB ρs (lk hs) nxs w
def SubB (H : Nat → Option Blk) : List (Nat × Blk) → Prop
  | [] => True
  | p :: r => H p.1 = some p.2 ∧ SubB H r
theorem SubB.at_ {H : Nat → Option Blk} : ∀ {l : List (Nat × Blk)} {k : Nat} {b : Blk}, SubB H l → lk l k = some b → H k = some b
  | [], _, _, _, h => by cases h
  | p :: r, k, b, h, hl => by
    unfold lk at hl
    cases e : Nat.beq k p.1 with
    | true => rw [e] at hl; have e := Nat.eq_of_beq_eq_true e; cases hl; subst e; exact h.1
    | false => rw [e] at hl; exact SubB.at_ h.2 hl
structure Here (E : Env) (N : Nat) (ρs : Rho) (nxs : Nat) (hs : List (Nat × Blk)) (σ : St) (ρ : Rho) (a : Act) (w : World) : Prop where
  inv : Inv E N ρ σ a w
  agree : ∀ k, k < nxs → ρ k = ρs k
  held : HS ρs nxs hs w
  le : nxs ≤ σ.nx
def awpH (P : Program) (E : Env) (N : Nat) (l0 : List Oper) (Q : Post) (ρs : Rho) (nxs : Nat) (hs : List (Nat × Blk)) (fuel : Nat) (listed : Array Bool) (σ : St) : Prop :=
  ∀ ρ a w, Here E N ρs nxs hs σ ρ a w → wpAnyH P .any l0.toArray (lift E N Q) (HS ρs nxs hs) fuel listed a w
def awpHop (P : Program) (E : Env) (N : Nat) (l0 : List Oper) (Q : Post) (ρs : Rho) (nxs : Nat) (hs : List (Nat × Blk)) (fuel : Nat) (listed : Array Bool) (i : Nat) (σ : St) : Prop :=
  ∀ ρ a w, Here E N ρs nxs hs σ ρ a w → wpOp P l0.toArray (lift E N Q) i (fun a' w' => HS ρs nxs hs w' ∧ wpAnyH P .any l0.toArray (lift E N Q) (HS ρs nxs hs) fuel (listed.setIfInBounds i true) a' w') a w
def allP (f : Nat → Prop) : List Nat → Prop
  | [] => True
  | i :: r => f i ∧ allP f r
theorem allP.mem {f : Nat → Prop} : ∀ {l : List Nat} {i : Nat}, allP f l → i ∈ l → f i
  | [], _, _, h => by cases h
  | j :: r, i, h, hi => by
    rcases List.mem_cons.1 hi with rfl | hi
    · exact h.1
    · exact allP.mem h.2 hi
def keysB (n : Nat) (l : List (Nat × Blk)) : Bool := l.all fun p => Nat.blt p.1 n && leB n p.2.ks
section
variable {P : Program} {tab : List (Nat × TD)} {E : Env} {N : Nat} {Q : Post} {fr : Nat → Option AV} {H : Nat → Option Blk} {nx : Nat}
variable {l0 : List Oper} {ρs : Rho} {nxs : Nat} {hs : List (Nat × Blk)} {fuel : Nat} {listed : Array Bool}
theorem HS.of {ρ : Rho} {w : World} (h : HInv E ρ H nx w) (ha : ∀ k, k < nxs → ρ k = ρs k) (h0 : 0 < nxs) (hs' : SubB H hs) (hk : keysB nxs hs = true) : HS ρs nxs hs w := by
  have hkey : ∀ k b, lk hs k = some b → k < nxs ∧ ∀ k' ∈ b.keys, k' < nxs := fun k b hb => by
    have := List.all_eq_true.1 hk _ (lk_mem hb)
    simp only [Bool.and_eq_true] at this
    exact ⟨nblt this.1, fun k' hk' => leB_sound this.2 k' (by rw [← Blk.ks_eq]; exact hk')⟩
  refine ⟨by rw [← ha 0 h0]; exact h.nil, h0, fun k b hb => ?_, hkey⟩
  exact (h.blk k b (hs'.at_ hb)).congr (ha k (hkey k b hb).1).symm fun k' hk' => (ha k' ((hkey k b hb).2 k' hk')).symm
theorem HS.hb {ρ : Rho} {w : World} (h : HS ρs nxs hs w) (ha : ∀ k, k < nxs → ρ k = ρs k) (hn : nxs ≤ nx) : HB ρ (lk hs) nx w :=
  ⟨by rw [ha 0 h.pos]; exact h.nil, Nat.lt_of_lt_of_le h.pos hn, fun k b hb => (h.blk k b hb).congr (ha k (h.key k b hb).1) fun k' hk' => ha k' ((h.key k b hb).2 k' hk'),
    fun k b hb => ⟨Nat.lt_of_lt_of_le (h.key k b hb).1 hn, fun k' hk' => Nat.lt_of_lt_of_le ((h.key k b hb).2 k' hk') hn⟩⟩
theorem awp_held {id : Nat} (hm : P.follows .mixedOrders = true) (hs : List (Nat × Blk)) (hsub : SubB H hs) (hk : keysB nx hs = true)
    (h : ∀ ρs, awpH P E N l0 Q ρs nx hs l0.length (Array.replicate l0.length false) ⟨fr, H, nx⟩) : awp P E N (.region id l0.toArray true) Q ⟨fr, H, nx⟩ := by
  unfold awp
  intro ρ a w hI
  have hd : HInv E ρ H nx { w with drawn := w.drawn + 1 } := hI.h.drew
  have := h ρ ρ a _ ⟨⟨hI.f, hd⟩, fun _ _ => rfl, HS.of hd (fun _ _ => rfl) hd.hb.pos hsub hk, Nat.le_refl _⟩
  exact wp_region_held (S := HS ρ nx hs) hm (by simpa using this)
theorem w_v (hr : Region.ready .any l0.toArray listed = []) (h : Q .normal ⟨fr, H, nx⟩) : awpH P E N l0 Q ρs nxs hs fuel listed ⟨fr, H, nx⟩ := fun ρ _ _ hh =>
  wpAnyH_done hr ⟨ρ, _, hh.inv, h⟩ fuel
theorem w_t (hT : Tab P tab) (i : Nat) {o : Oper} {c : Prop} {v : AV} {d : Nat} (hi : nth l0 i = some o) (hsel : Region.noSelect l0.toArray = true) (hf : Region.free .any l0.toArray listed i = true) (hr : (Region.ready .any l0.toArray listed).contains i = true)
    (hQ : ∀ ch σ, Q (.panic ch) σ → False) (hdst : o.dst = some d) (hw : wantA l0 fr o = some true) (hd : Nat.blt d N = true) (hs' : pstep tab fr (lk hs) o.op = some (c, v)) (hc : c)
    (h : awpH P E N l0 Q ρs nxs hs fuel (listed.setIfInBounds i true) ⟨upd fr d v, H, nx⟩) : awpH P E N l0 Q ρs nxs hs (fuel + 1) listed ⟨fr, H, nx⟩ := fun ρ a w hh => by
  have hi' : l0.toArray[i]? = some o := by rw [← hi, nth_eq]; simp
  have hrun : ∀ w', HS ρs nxs hs w' → PS P o a w' ρ nx v := fun w' hw' => pstep_sound hT hh.inv.f (hw'.hb hh.agree hh.le) hs' hc
  refine wpAnyH_take (v := v.conc ρ) hi' hsel hf hr (fun ch a' w' ⟨_, _, _, q⟩ => (hQ _ _ q).elim) (.inl ⟨wantA_sound hh.inv.f hw, fun w' hw' => (hrun w' hw').1⟩) hh.held ?_
  rw [hdst]
  exact h ρ _ w ⟨⟨hh.inv.f.put (nblt hd) (hrun w hh.held).2, hh.inv.h⟩, hh.agree, hh.held, hh.le⟩
theorem w_w (hT : Tab P tab) (i : Nat) {o : Oper} {c : Prop} {v : AV} {d : Nat} {t : TypeId} {x y : Operand} (hi : nth l0 i = some o) (hsel : Region.noSelect l0.toArray = true) (hf : Region.free .any l0.toArray listed i = true) (hr : (Region.ready .any l0.toArray listed).contains i = true)
    (hQ : ∀ ch σ, Q (.panic ch) σ → False) (hdst : o.dst = some d) (hw : wantA l0 fr o = some true) (hd : Nat.blt d N = true) (ho : o.op = .indexAddr t x y) (hs' : pIndexAddr tab fr H t x y = some (c, v)) (hc : c)
    (h : awpH P E N l0 Q ρs nxs hs fuel (listed.setIfInBounds i true) ⟨upd fr d v, H, nx⟩) : awpH P E N l0 Q ρs nxs hs (fuel + 1) listed ⟨fr, H, nx⟩ := fun ρ a w hh => by
  have hi' : l0.toArray[i]? = some o := by rw [← hi, nth_eq]; simp
  have hrun : ∀ w', PS P o a w' ρ nx v := fun w' => pIndexAddr_all hT.ok ho hh.inv.f hh.inv.h.hb hs' hc w'
  refine wpAnyH_take (v := v.conc ρ) hi' hsel hf hr (fun ch a' w' ⟨_, _, _, q⟩ => (hQ _ _ q).elim) (.inl ⟨wantA_sound hh.inv.f hw, fun w' _ => (hrun w').1⟩) hh.held ?_
  rw [hdst]
  exact h ρ _ w ⟨⟨hh.inv.f.put (nblt hd) (hrun w).2, hh.inv.h⟩, hh.agree, hh.held, hh.le⟩
theorem w_u (rs : List Nat) (hr : Region.ready .any l0.toArray listed = rs) (hne : rs.isEmpty = false) (h : allP (fun i => awpHop P E N l0 Q ρs nxs hs fuel listed i ⟨fr, H, nx⟩) rs) :
    awpH P E N l0 Q ρs nxs hs (fuel + 1) listed ⟨fr, H, nx⟩ := fun ρ a w hh =>
  wpAnyH_all hr (fun e => by rw [e] at hne; cases hne) fun i hi => (h.mem hi) ρ a w hh
theorem awpHop_op (i : Nat) {o : Oper} {R : AV → (Nat → Option Blk) → Nat → Prop} (hi : nth l0 i = some o) (hw : wantA l0 fr o = some true) (hd : inFrame N o.dst = true) (hk : keysB nxs hs = true) (ho : OpR P o E N ⟨fr, H, nx⟩ R)
    (h : ∀ v H' nx', R v H' nx' → SubB H' hs ∧ awpH P E N l0 Q ρs nxs hs fuel (listed.setIfInBounds i true) (putA ⟨fr, H', nx'⟩ o.dst v)) : awpHop P E N l0 Q ρs nxs hs fuel listed i ⟨fr, H, nx⟩ := fun ρ a w hh => by
  have hi' : l0.toArray[i]? = some o := by rw [← hi, nth_eq]; simp
  unfold wpOp
  simp only [hi']
  rw [wantA_sound hh.inv.f hw, if_pos rfl]
  refine .inl (ho ρ a w hh.inv _ _ fun ρ' w' v H' nx' hR hH hρ hn hk' => ?_)
  obtain ⟨h1, h2⟩ := h v H' nx' hR
  have hagree : ∀ k, k < nxs → ρ' k = ρs k := fun k hk => (hρ k (Nat.lt_of_lt_of_le hk hh.le)).trans (hh.agree k hk)
  have hle : nxs ≤ nx' := Nat.le_trans hh.le hn
  have hS : HS ρs nxs hs w' := HS.of hH hagree hh.held.pos h1 hk
  refine ⟨hS, h2 ρ' _ w' ⟨Inv.put (σ' := ⟨fr, H', nx'⟩) (hh.inv.f.mono hρ hn) hH hd hk', hagree, hS, ?_⟩⟩
  cases o.dst <;> exact hle
theorem w_s (hT : Tab P tab) (i : Nat) {o : Oper} {c : Prop} {fr' : Nat → Option AV} {H' : Nat → Option Blk} {nx' : Nat} (hi : nth l0 i = some o) (hw : wantA l0 fr o = some true) (hd : inFrame N o.dst = true) (hs' : stepA tab fr H nx o = some (c, fr', H', nx')) (hc : c) (hsub : SubB H' hs) (hk : keysB nxs hs = true)
    (h : awpH P E N l0 Q ρs nxs hs fuel (listed.setIfInBounds i true) ⟨fr', H', nx'⟩) : awpHop P E N l0 Q ρs nxs hs fuel listed i ⟨fr, H, nx⟩ := by
  unfold stepA at hs'
  have key : ∀ {R : AV → (Nat → Option Blk) → Nat → Prop} {v1 : AV} {H1 : Nat → Option Blk} {n1 : Nat}, OpR P o E N ⟨fr, H, nx⟩ (det v1 H1 n1) → putA ⟨fr, H1, n1⟩ o.dst v1 = ⟨fr', H', nx'⟩ → H1 = H' → awpHop P E N l0 Q ρs nxs hs fuel listed i ⟨fr, H, nx⟩ := fun {R v1 H1 n1} ho e e2 =>
    awpHop_op i hi hw hd hk ho fun v H2 n2 ⟨e3, e4, e5⟩ => by subst e3 e4 e5; exact ⟨by rw [e2]; exact hsub, by rw [e]; exact h⟩
  split at hs'
  · rename_i c' v hr
    split at hs'
    · rename_i d hdst
      cases hs'
      exact key (R := fun _ _ _ => True) (OpR.pure hT hr hc) (by rw [hdst]; rfl) rfl
    · rename_i hdst
      cases hs'
      exact key (R := fun _ _ _ => True) (OpR.pure hT hr hc) (by rw [hdst]; rfl) rfl
  · split at hs'
    · rename_i t x d ho hdst
      split at hs'
      · rename_i v H1 hr
        cases hs'
        exact key (R := fun _ _ _ => True) (sBox_sound ho hr) (by rw [hdst]; rfl) rfl
      · cases hs'
    · rename_i t d ho hdst
      split at hs'
      · rename_i v H1 hr
        cases hs'
        exact key (R := fun _ _ _ => True) (sAlloc_sound hT ho hr) (by rw [hdst]; rfl) rfl
      · cases hs'
    · rename_i t x y d ho hdst
      split at hs'
      · rename_i c' v H1 hr
        cases hs'
        exact key (R := fun _ _ _ => True) (sMake_sound hT ho hr hc) (by rw [hdst]; rfl) rfl
      · cases hs'
    · rename_i t n ps d ho hdst
      split at hs'
      · rename_i v H1 hr
        cases hs'
        exact key (R := fun _ _ _ => True) (sBuildSlice_sound hT ho hr) (by rw [hdst]; rfl) rfl
      · split at hs'
        · rename_i c' v H1 hr
          cases hs'
          exact key (R := fun _ _ _ => True) (sBuildRows_sound hT ho hr hc) (by rw [hdst]; rfl) rfl
        · cases hs'
    · rename_i t x d ho hdst
      split at hs'
      · rename_i c' v H1 hr
        cases hs'
        exact key (R := fun _ _ _ => True) (sLoadR_sound hT ho hr hc) (by rw [hdst]; rfl) rfl
      · cases hs'
    · rename_i t x y ho hdst
      split at hs'
      · rename_i c' H1 hr
        cases hs'
        exact key (R := fun _ _ _ => True) (sStore_sound hT ho hdst hr hc) (by rw [hdst]; rfl) rfl
      · cases hs'
    · cases hs'
theorem w_y (hT : Tab P tab) (i : Nat) {o : Oper} {c : Prop} {et k sz n m d : Nat} {e' : Elts} {t : TypeId} {x y : Operand} (hi : nth l0 i = some o) (ho : o.op = .call ⟨.builtin .append, #[x, y], #[t, t]⟩) (hdst : o.dst = some d)
    (hw : wantA l0 fr o = some true) (hd : inFrame N o.dst = true) (hs' : sAppend tab fr H nx t x y = some (c, appOut H nx et k sz n e' m)) (hc : c) (hsub : SubB (upd (upd H k .dead) nx (.own et 0 e')) hs) (hk : keysB nxs hs = true) (hlt : Nat.ble nxs nx = true)
    (h : ∀ cap, n + m ≤ cap → awpH P E N l0 Q ρs nxs hs fuel (listed.setIfInBounds i true) ⟨upd fr d (.one (.sl nx sz 0 (n + m) cap)), upd (upd H k .dead) nx (.own et cap e'), nx + 1⟩) : awpHop P E N l0 Q ρs nxs hs fuel listed i ⟨fr, H, nx⟩ :=
  awpHop_op i hi hw hd hk (sAppend_sound hT ho hs' hc) fun _ _ _ ⟨cap, h1, e1, e2, e3⟩ => by
    subst e1 e2 e3
    refine ⟨?_, by rw [hdst]; exact h cap h1⟩
    have hlt := Nat.le_of_ble_eq_true hlt
    have : ∀ (l : List (Nat × Blk)), (∀ p ∈ l, p.1 < nxs) → SubB (upd (upd H k .dead) nx (.own et 0 e')) l → SubB (upd (upd H k .dead) nx (.own et cap e')) l := fun l => by
      induction l with
      | nil => intro _ _; trivial
      | cons p r ih =>
        intro hl hb
        refine ⟨?_, ih (fun q hq => hl q (by simp [hq])) hb.2⟩
        have := hl p (by simp)
        have h1 := hb.1
        rw [upd_ne (by omega)] at h1 ⊢
        exact h1
    exact this hs (fun p hp => by
      have := List.all_eq_true.1 hk p hp
      simp only [Bool.and_eq_true] at this
      exact nblt this.1) hsub
theorem w_B (i : Nat) {o : Oper} {f : FuncId} {args : List AV} {Hin : List (Nat × Blk)} {n0 n d : Nat} {v : AV} (hD : Does P f args Hin n0 (Ret v n)) {fo : Operand} {xs : Array Operand} {ts : Array TypeId}
    (hi : nth l0 i = some o) (ho : o.op = .call ⟨.value fo, xs, ts⟩) (hdst : o.dst = some d) {l : List AV} (hl : callArgs fr fo xs = some (f, l)) (ha : l = args.map (AV.ren (mp (matchM args l)))) (hw : wantA l0 fr o = some true) (hd : inFrame N o.dst = true) (hk : leB n0 (args.flatMap AV.keys) = true) (hv : v.keys = [])
    (hf : FitB H (mp (matchM args l)) Hin) (hok : okCall n0 nx (matchM args l) Hin = true) (hno : noOwn Hin = true) (hsub : SubB H hs) (hkb : keysB nxs hs = true)
    (h : awpH P E N l0 Q ρs nxs hs fuel (listed.setIfInBounds i true) ⟨upd fr d v, H, nx⟩) : awpHop P E N l0 Q ρs nxs hs fuel listed i ⟨fr, H, nx⟩ :=
  awpHop_op i hi hw hd hkb (OpR.ret hD ho (matchM args l) (ha ▸ hl) hk hv hf hok hno) fun _ _ _ ⟨e1, e2, e3⟩ => by subst e1 e2 e3; rw [hdst]; exact ⟨hsub, h⟩
theorem w_D (i : Nat) {o : Oper} {f : FuncId} {args : List AV} {Hin : List (Nat × Blk)} {n0 d : Nat} {Out : AV → List (Nat × Blk) → Nat → Prop} (hD : Does P f args Hin n0 Out) {fo : Operand} {xs : Array Operand} {ts : Array TypeId}
    (hi : nth l0 i = some o) (ho : o.op = .call ⟨.value fo, xs, ts⟩) (hdst : o.dst = some d) {l : List AV} (hl : callArgs fr fo xs = some (f, l)) (ha : l = args.map (AV.ren (mp (matchM args l)))) (hw : wantA l0 fr o = some true) (hd : inFrame N o.dst = true) (hk : leB n0 (args.flatMap AV.keys) = true)
    (hf : FitB H (mp (matchM args l)) Hin) (hok : okCall n0 nx (matchM args l) Hin = true) (hno : noOwn Hin = true) (hout : ∀ v Hout n1, Out v Hout n1 → ∃ b, Hout = [(n0, b)] ∧ n1 = n0 + 1 ∧ b.keys = []) (hsub : SubB H hs) (hkb : keysB nxs hs = true) (hlt : Nat.ble nxs nx = true)
    (h : ∀ v b, Out v [(n0, b)] (n0 + 1) → awpH P E N l0 Q ρs nxs hs fuel (listed.setIfInBounds i true) ⟨upd fr d (v.ren (mq (matchM args l) n0 nx)), upd H nx b, nx + 1⟩) : awpHop P E N l0 Q ρs nxs hs fuel listed i ⟨fr, H, nx⟩ :=
  awpHop_op i hi hw hd hkb (OpR.one hD ho (matchM args l) (ha ▸ hl) hk hf hok hno hout) fun _ _ _ ⟨v, b, h1, e1, e2, e3⟩ => by
    subst e1 e2 e3
    refine ⟨?_, by rw [hdst]; exact h v b h1⟩
    have hlt := Nat.le_of_ble_eq_true hlt
    have : ∀ (l : List (Nat × Blk)), (∀ p ∈ l, p.1 < nxs) → SubB H l → SubB (upd H nx b) l := fun l => by
      induction l with
      | nil => intro _ _; trivial
      | cons p r ih =>
        intro hl hb
        refine ⟨?_, ih (fun q hq => hl q (by simp [hq])) hb.2⟩
        have := hl p (by simp)
        rw [upd_ne (by omega)]
        exact hb.1
    exact this hs (fun p hp => by
      have := List.all_eq_true.1 hkb p hp
      simp only [Bool.and_eq_true] at this
      exact nblt this.1) hsub
end
attribute [irreducible] awpH awpHop
end Go.Proofs.YtekpamojojfplaaGreat
namespace Go.Proofs.YtekpamojojfplaaGreat
open Go.RowKit
section
variable {P : Program} {E : Env} {N : Nat} {Q : Post} {fr : Nat → Option AV} {H : Nat → Option Blk} {nx : Nat}
variable {l0 : List Oper} {ρs : Rho} {nxs : Nat} {hs : List (Nat × Blk)} {fuel : Nat} {listed : Array Bool}
theorem w_F (i : Nat) {o : Oper} {f : FuncId} {args : List AV} {Hin : List (Nat × Blk)} {n0 d : Nat} {Out : AV → List (Nat × Blk) → Nat → Prop} (hD : Does P f args Hin n0 Out) {fo : Operand} {xs : Array Operand} {ts : Array TypeId}
    (hi : nth l0 i = some o) (ho : o.op = .call ⟨.value fo, xs, ts⟩) (hdst : o.dst = some d) {l : List AV} (hl : callArgs fr fo xs = some (f, l)) (ha : l = args.map (AV.ren (mp (matchM args l)))) (hw : wantA l0 fr o = some true) (hd : inFrame N o.dst = true) (hk : leB n0 (args.flatMap AV.keys) = true)
    (hf : FitB H (mp (matchM args l)) Hin) (hok : okCall n0 nx (matchM args l) Hin = true) (hkb : keysB nxs hs = true)
    (h : ∀ v Hout n1, Out v Hout n1 → SubB (afterH H (matchM args l) n0 nx Hin Hout) hs ∧ awpH P E N l0 Q ρs nxs hs fuel (listed.setIfInBounds i true) ⟨upd fr d (v.ren (mq (matchM args l) n0 nx)), afterH H (matchM args l) n0 nx Hin Hout, nx + (n1 - n0)⟩) :
    awpHop P E N l0 Q ρs nxs hs fuel listed i ⟨fr, H, nx⟩ :=
  awpHop_op i hi hw hd hkb (OpR.call hD ho (matchM args l) (ha ▸ hl) hk hf hok) fun _ _ _ ⟨v, Hout, n1, h1, e1, e2, e3⟩ => by subst e1 e2 e3; rw [hdst]; exact h v Hout n1 h1
end
theorem set_cells {ρ ρ' : Rho} {l : List SV} {f : Nat} {v v' : SV} (hf : l[f]? = some v) (hv : v'.conc ρ' = v.conc ρ) (hr : ∀ k ∈ keysOf l, ρ' k = ρ k) : cells ρ' (l.set f v') = cells ρ l := by
  apply List.ext_getElem?
  intro i
  simp only [cells, List.getElem?_map, List.getElem?_set]
  by_cases c : f = i
  · subst c
    have hlt : f < l.length := (List.getElem?_eq_some_iff.1 hf).1
    rw [if_pos rfl, if_pos hlt, hf]
    simp [hv]
  · rw [if_neg c]
    cases h : l[i]? with
    | none => rfl
    | some u =>
      simp only [Option.map_some]
      rw [SV.conc_congr fun k hk => hr k (List.mem_flatMap.2 ⟨u, List.mem_of_getElem? h, hk⟩)]
theorem set_keys {l : List SV} {f n : Nat} {v' : SV} (h : ∀ k ∈ keysOf l, k < n) (hv : ∀ k ∈ v'.keys, k < n + 1) : ∀ k ∈ keysOf (l.set f v'), k < n + 1 := fun k hk => by
  obtain ⟨u, hu, hk'⟩ := List.mem_flatMap.1 hk
  rcases List.mem_or_eq_of_mem_set hu with q | rfl
  · exact Nat.lt_succ_of_lt (h k (List.mem_flatMap.2 ⟨u, q, hk'⟩))
  · exact hv k hk'
theorem HInv.nilBox {E : Env} {ρ : Rho} {H : Nat → Option Blk} {nx : Nat} {w : World} {k c f sz : Nat} {t et : TypeId} {l : List SV} {e0 : Elts} (h : HInv E ρ H nx w) (hk : H k = some (.own t c (.lit l))) (hf : nth l f = some (.sl 0 sz 0 0 0)) (he : e0.len = 0) (hz : Nat.beq e0.sz sz = true) :
    HInv E (setR ρ nx none) (upd (upd H nx (.own et 0 e0)) k (.own t c (.lit (l.set f (.sl nx sz 0 0 0))))) (nx + 1) w := by
  rw [nth_eq] at hf
  have hkn : k < nx := (h.key k _ hk).1
  have hk0 : ∀ x ∈ keysOf l, x < nx := (h.key k _ hk).2
  have hall : e0.all = [] := List.eq_nil_of_length_eq_zero (by rw [Elts.all_len, he, Nat.zero_mul])
  have hr0 : e0.rds = [] := Elts.rds_nil he
  have hnx : setR ρ nx none nx = none := setR_same
  have hag : ∀ x, x < nx → setR ρ nx none x = ρ x := fun x hx => setR_ne (Nat.ne_of_lt hx)
  have conc : (SV.sl nx sz 0 0 0).conc (setR ρ nx none) = (SV.sl 0 sz 0 0 0).conc ρ := by simp [SV.conc, adr, hnx, h.nil]
  have h1 : HInv E (setR ρ nx none) (upd H nx (.own et 0 e0)) (nx + 1) w := by
    refine h.add (row := none) (p := none) (b := .own et 0 e0) ⟨rfl, rfl, rfl, Nat.le_refl _, fun _ _ _ => rfl⟩ (fun _ e => by cases e) (fun _ _ _ _ _ _ e => by cases e) (fun _ _ _ _ _ e => by cases e) (fun q e => by cases e) (fun x hx => ?_) (fun _ _ _ _ _ _ _ hF => ?_) (fun _ _ _ e => by cases e) ?_ (fun q hq => ?_)
    · have : x ∈ e0.rds := hx
      rw [hr0] at this; cases this
    · obtain ⟨x, hx, _⟩ := hF
      have : x ∈ e0.rds := hx
      rw [hr0] at this; cases this
    · simp only [BlkOK]
      rw [he, hall]
      exact ⟨by simp [cells], .inl ⟨by simp [adr, hnx], rfl⟩⟩
    · simp [Blk.keys, Elts.keys, hall, keysOf] at hq
  have hk1 : upd H nx (.own et 0 e0) k = some (.own t c (.lit l)) := by rw [upd_ne (Nat.ne_of_lt hkn)]; exact hk
  refine h1.change hk1 ?_ ?_ (fun _ => rfl) (fun _ => rfl) (fun _ _ => rfl) (fun _ e => by cases e) (fun x hx => by cases hx) (fun _ _ _ _ _ _ _ hF => by obtain ⟨x, hx, _⟩ := hF; cases hx) (fun _ _ _ e => by cases e)
  · have h2 := h.blk k _ hk
    simp only [BlkOK] at h2 ⊢
    have e1 : adr (setR ρ nx none) k 0 = adr ρ k 0 := adr_congr (hag k hkn)
    have e2 : cells (setR ρ nx none) (Elts.lit (l.set f (.sl nx sz 0 0 0))).all = cells ρ (Elts.lit l).all := set_cells hf conc fun q hq => hag q (hk0 q hq)
    have e3 : (Elts.lit (l.set f (.sl nx sz 0 0 0))).sz = (Elts.lit l).sz := by simp [Elts.sz]
    rw [e1, e2, e3]
    exact h2
  · exact set_keys hk0 fun q hq => by simp [SV.keys] at hq; omega
section
variable {P : Program} {E : Env} {N : Nat} {Q : Post} {fr : Nat → Option AV} {H : Nat → Option Blk} {nx : Nat} {code : Code}
theorem awp_nil {k c f sz : Nat} {t et : TypeId} {l : List SV} {e0 : Elts} (hk : H k = some (.own t c (.lit l))) (hf : nth l f = some (.sl 0 sz 0 0 0)) (he : e0.len = 0) (hz : Nat.beq e0.sz sz = true) (hl : ∀ s, e0 ≠ .lit s)
    (h : awp P E N code Q ⟨fr, upd (upd H nx (.own et 0 e0)) k (.own t c (.lit (l.set f (.sl nx sz 0 0 0)))), nx + 1⟩) : awp P E N code Q ⟨fr, H, nx⟩ := by
  unfold awp at *
  intro ρ a w hI
  exact h _ a w ⟨hI.f.mono (fun x hx => setR_ne (Nat.ne_of_lt hx)) (Nat.le_succ _), hI.h.nilBox hk hf he hz⟩
end
end Go.Proofs.YtekpamojojfplaaGreat
namespace Go.Proofs.YtekpamojojfplaaGreat
theorem zho {q p : Prop} (h : q) (i : q → p := by exact w_s TT _ Zz Zz Zz Zz sd sb rfl) : p := i h
theorem zt0 {q p : Prop} (h : q) (i : q → p := by first | exact w_t TT 0 rfl kr kr kr nh Zz Zz Zz Zz sd | exact w_w TT 0 rfl kr kr kr nh Zz Zz Zz Zz Zz sd | fail) : p := i h
theorem zt1 {q p : Prop} (h : q) (i : q → p := by first | exact w_t TT 1 rfl kr kr kr nh Zz Zz Zz Zz sd | exact w_w TT 1 rfl kr kr kr nh Zz Zz Zz Zz Zz sd | fail) : p := i h
theorem zt2 {q p : Prop} (h : q) (i : q → p := by first | exact w_t TT 2 rfl kr kr kr nh Zz Zz Zz Zz sd | exact w_w TT 2 rfl kr kr kr nh Zz Zz Zz Zz Zz sd | fail) : p := i h
theorem zt3 {q p : Prop} (h : q) (i : q → p := by first | exact w_t TT 3 rfl kr kr kr nh Zz Zz Zz Zz sd | exact w_w TT 3 rfl kr kr kr nh Zz Zz Zz Zz Zz sd | fail) : p := i h
theorem zt4 {q p : Prop} (h : q) (i : q → p := by first | exact w_t TT 4 rfl kr kr kr nh Zz Zz Zz Zz sd | exact w_w TT 4 rfl kr kr kr nh Zz Zz Zz Zz Zz sd | fail) : p := i h
theorem zt5 {q p : Prop} (h : q) (i : q → p := by first | exact w_t TT 5 rfl kr kr kr nh Zz Zz Zz Zz sd | exact w_w TT 5 rfl kr kr kr nh Zz Zz Zz Zz Zz sd | fail) : p := i h
theorem zt6 {q p : Prop} (h : q) (i : q → p := by first | exact w_t TT 6 rfl kr kr kr nh Zz Zz Zz Zz sd | exact w_w TT 6 rfl kr kr kr nh Zz Zz Zz Zz Zz sd | fail) : p := i h
theorem zt7 {q p : Prop} (h : q) (i : q → p := by first | exact w_t TT 7 rfl kr kr kr nh Zz Zz Zz Zz sd | exact w_w TT 7 rfl kr kr kr nh Zz Zz Zz Zz Zz sd | fail) : p := i h
theorem zt8 {q p : Prop} (h : q) (i : q → p := by first | exact w_t TT 8 rfl kr kr kr nh Zz Zz Zz Zz sd | exact w_w TT 8 rfl kr kr kr nh Zz Zz Zz Zz Zz sd | fail) : p := i h
theorem zt9 {q p : Prop} (h : q) (i : q → p := by first | exact w_t TT 9 rfl kr kr kr nh Zz Zz Zz Zz sd | exact w_w TT 9 rfl kr kr kr nh Zz Zz Zz Zz Zz sd | fail) : p := i h
theorem zt10 {q p : Prop} (h : q) (i : q → p := by first | exact w_t TT 10 rfl kr kr kr nh Zz Zz Zz Zz sd | exact w_w TT 10 rfl kr kr kr nh Zz Zz Zz Zz Zz sd | fail) : p := i h
theorem zt11 {q p : Prop} (h : q) (i : q → p := by first | exact w_t TT 11 rfl kr kr kr nh Zz Zz Zz Zz sd | exact w_w TT 11 rfl kr kr kr nh Zz Zz Zz Zz Zz sd | fail) : p := i h
theorem zt12 {q p : Prop} (h : q) (i : q → p := by first | exact w_t TT 12 rfl kr kr kr nh Zz Zz Zz Zz sd | exact w_w TT 12 rfl kr kr kr nh Zz Zz Zz Zz Zz sd | fail) : p := i h
theorem zt13 {q p : Prop} (h : q) (i : q → p := by first | exact w_t TT 13 rfl kr kr kr nh Zz Zz Zz Zz sd | exact w_w TT 13 rfl kr kr kr nh Zz Zz Zz Zz Zz sd | fail) : p := i h
theorem zt14 {q p : Prop} (h : q) (i : q → p := by first | exact w_t TT 14 rfl kr kr kr nh Zz Zz Zz Zz sd | exact w_w TT 14 rfl kr kr kr nh Zz Zz Zz Zz Zz sd | fail) : p := i h
theorem zt15 {q p : Prop} (h : q) (i : q → p := by first | exact w_t TT 15 rfl kr kr kr nh Zz Zz Zz Zz sd | exact w_w TT 15 rfl kr kr kr nh Zz Zz Zz Zz Zz sd | fail) : p := i h
theorem zt16 {q p : Prop} (h : q) (i : q → p := by first | exact w_t TT 16 rfl kr kr kr nh Zz Zz Zz Zz sd | exact w_w TT 16 rfl kr kr kr nh Zz Zz Zz Zz Zz sd | fail) : p := i h
theorem zt17 {q p : Prop} (h : q) (i : q → p := by first | exact w_t TT 17 rfl kr kr kr nh Zz Zz Zz Zz sd | exact w_w TT 17 rfl kr kr kr nh Zz Zz Zz Zz Zz sd | fail) : p := i h
theorem zt18 {q p : Prop} (h : q) (i : q → p := by first | exact w_t TT 18 rfl kr kr kr nh Zz Zz Zz Zz sd | exact w_w TT 18 rfl kr kr kr nh Zz Zz Zz Zz Zz sd | fail) : p := i h
theorem zt19 {q p : Prop} (h : q) (i : q → p := by first | exact w_t TT 19 rfl kr kr kr nh Zz Zz Zz Zz sd | exact w_w TT 19 rfl kr kr kr nh Zz Zz Zz Zz Zz sd | fail) : p := i h
theorem zqc {q p D : Prop} (d : D) (h : q) (i : D → q → p := by first | exact fun d h => w_z d Zz Zz Zz Zz Zz Zz Zz Zz ft Zz Zz h | exact fun d h => w_A d Zz Zz Zz Zz Zz Zz Zz Zz ft Zz Zz h | fail) : p := i d h
theorem zqb {q p D : Prop} (d : D) (h : q) (i : D → q → p := by first | exact fun d h => w_B _ d Zz Zz Zz Zz Zz Zz Zz Zz Zz ft Zz Zz sb rfl h | fail) : p := i d h
theorem zqf {q p D : Prop} (d : D) (h : q) (i : D → q → p := by first | exact fun d h => w_F _ d Zz Zz Zz Zz Zz Zz Zz Zz ft Zz Zz h | fail) : p := i d h
theorem zqe {q p D : Prop} (d : D) (h : q) (i : D → q → p := by first | exact fun d h => w_E d Zz Zz Zz Zz Zz Zz Zz ft rfl h | fail) : p := i d h
theorem zqy {q p : Prop} (h : q) (i : q → p := by first | exact w_y TT _ Zz Zz Zz Zz Zz Zz sd sb Zz Zz | fail) : p := i h
theorem zqx {q p : Prop} (h : q) (i : q → p := by first | exact w_x TT Zz Zz Zz Zz Zz sd | fail) : p := i h
end Go.Proofs.YtekpamojojfplaaGreat
namespace Go.Proofs.YtekpamojojfplaaGreat
open Go.RowKit
theorem ret_bool {a b : Bool} (h : a = b) : Ending.returned (.bool a) = .returned (.bool b) := by rw [h]
theorem ret_int {k : IntKind} {a b : Int} (h : a = b) : Ending.returned (.int k a) = .returned (.int k b) := by rw [h]
structure Ext (W : World) where
  val : World
  below : Below W.heap.size W val
  n : Nat
  size_eq : val.heap.size = W.heap.size + n
def Ext.of {W w : World} (h : Below W.heap.size W w) : Ext W := ⟨w, h, w.heap.size - W.heap.size, by have := h.size; omega⟩
def Ext.refl (W : World) : Ext W := Ext.of (Below.refl _ _)
theorem Ext.some {W w : World} (h : Below W.heap.size W w) : ∃ x : Ext W, w = x.val := ⟨Ext.of h, rfl⟩
def IsExt (W wr : World) : Prop := ∃ y : Ext W, wr = y.val
theorem IsExt.of {W w : World} (h : Below W.heap.size W w) : IsExt W w := Ext.some h
instance Ext.nonempty (W : World) : Nonempty (Ext W) := ⟨Ext.refl W⟩
def farCell (w : World) (a : Addr) : Option Value := w.cell? a
def farFrozen (w : World) (a : Addr) : Bool := w.frozen? a
attribute [go_sem] Ext.size_eq
section
variable {W : World} (x : Ext W)
@[go_sem low] theorem Ext.cell (b o : Nat) : x.val.cell? ⟨b, o, none⟩ = if b < W.heap.size then W.cell? ⟨b, o, none⟩ else farCell x.val ⟨b, o, none⟩ := by
  split
  · exact x.below.cell (p := ⟨b, o, none⟩) ‹_›
  · rfl
@[go_sem low] theorem Ext.frozen (b o : Nat) : x.val.frozen? ⟨b, o, none⟩ = if b < W.heap.size then W.frozen? ⟨b, o, none⟩ else farFrozen x.val ⟨b, o, none⟩ := by
  split
  · exact x.below.frozen (p := ⟨b, o, none⟩) ‹_›
  · rfl
@[go_sem low] theorem alloc_cell (c : Array Value) (t : TypeId) (b o : Nat) : (W.alloc (.cells c t)).cell? ⟨b, o, none⟩ = if b < W.heap.size then W.cell? ⟨b, o, none⟩ else if b = W.heap.size then c[o]? else farCell (W.alloc (.cells c t)) ⟨b, o, none⟩ := by
  split
  · exact World.cell?_alloc_lt _ _ _ ‹_›
  · split
    · subst_vars; exact World.cell?_alloc_new _ _ _ _
    · rfl
@[go_sem low] theorem setCell_cell (b o b' o' : Nat) (v : Value) : (W.setCell ⟨b, o, none⟩ v).cell? ⟨b', o', none⟩ = if b = b' then (if o = o' then (W.cell? ⟨b, o, none⟩).map (fun _ => v) else W.cell? ⟨b', o', none⟩) else W.cell? ⟨b', o', none⟩ := by
  by_cases e1 : b = b'
  · by_cases e2 : o = o'
    · subst e1
      subst e2
      rw [if_pos rfl, if_pos rfl]
      cases h : W.cell? ⟨b, o, none⟩ with
      | some u => exact World.cell?_setCell_same _ _ _ h
      | none =>
        simp only [Option.map_none]
        cases h2 : (W.setCell ⟨b, o, none⟩ v).cell? ⟨b, o, none⟩ with
        | none => rfl
        | some u =>
          exfalso
          simp only [World.cell?, World.setCell, Array.getElem?_modify] at h h2
          cases hb : W.heap[b]? with
          | none => simp [hb] at h2
          | some ob => cases ob <;> simp [hb, Array.getElem?_setIfInBounds] at h h2 <;> omega
    · rw [if_pos e1, if_neg e2]; exact World.cell?_setCell_other _ _ _ _ (by intro e; injection e with _ e3 _; exact e2 e3)
  · rw [if_neg e1]; exact World.cell?_setCell_other _ _ _ _ (by intro e; injection e with e3 _ _; exact e1 e3)
theorem Ext.size : W.heap.size ≤ x.val.heap.size := x.below.size
theorem Ext.up {B : Nat} {w : World} (h : Below B w W) (hB : B ≤ W.heap.size) : Below B w x.val := h.trans (x.below.mono hB)
end
def Gives (P : Program) (f : FuncId) (args : Array Value) (w : World) (v : Value) : Prop :=
  Calls P f args w fun e w' => e = .returned v ∧ ∃ x : Ext w, w' = x.val
theorem Gives.calls {P : Program} {f : FuncId} {args : Array Value} {w : World} {v : Value} (h : Gives P f args w v) :
    Calls P f args w fun e w' => e = .returned v ∧ ∃ x : Ext w, w' = x.val := h
theorem Gives.below {P : Program} {f : FuncId} {args : Array Value} {w : World} {v : Value} (h : Gives P f args w v) :
    Calls P f args w fun e w' => e = .returned v ∧ Below w.heap.size w w' := Calls.mono h fun _ _ ⟨he, x, hw⟩ => ⟨he, hw ▸ x.below⟩
theorem Gives.of_below {P : Program} {f : FuncId} {args : Array Value} {w : World} {v : Value} (h : Calls P f args w fun e w' => e = .returned v ∧ Below w.heap.size w w') :
    Gives P f args w v := Calls.mono h fun _ _ ⟨he, hb⟩ => ⟨he, Ext.of hb, rfl⟩
theorem mul_bd {a b A B : Int} (h1 : -A ≤ a) (h2 : a ≤ A) (h3 : -B ≤ b) (h4 : b ≤ B) : -(A * B) ≤ a * b ∧ a * b ≤ A * B := by
  have ha : (a.natAbs : Int) ≤ A := by omega
  have hb : (b.natAbs : Int) ≤ B := by omega
  have h : ((a * b).natAbs : Int) ≤ A * B := by
    rw [Int.natAbs_mul, Int.natCast_mul]
    exact Int.mul_le_mul ha hb (Int.natCast_nonneg _) (by omega)
  omega
end Go.Proofs.YtekpamojojfplaaGreat
namespace Go.Proofs.YtekpamojojfplaaGreat
open Go.RowKit
def inB (a b c : Int) : Bool := decide (b ≤ a ∧ a ≤ c)
def numB (a : Int) : Bool := decide (-400000000 ≤ a ∧ a ≤ 400000000)
def absW (a : Int) : Int := if a < 0 then wrap64 (-a) else a
theorem inB_true {a b c : Int} : inB a b c = true ↔ b ≤ a ∧ a ≤ c := by simp [inB]
theorem inB_false {a b c : Int} : inB a b c = false ↔ a < b ∨ c < a := by simp [inB]; omega
theorem numB_true {a : Int} : numB a = true ↔ -400000000 ≤ a ∧ a ≤ 400000000 := by simp [numB]
def gcdOf (a b : Int) : Int := if numB a && numB b then (Int.gcd a b : Int) else 0
end Go.Proofs.YtekpamojojfplaaGreat
namespace Go.Proofs.YtekpamojojfplaaGreat
open Go.RowKit
theorem d_absInt (n : Int) (h1 : -9223372036854775807 ≤ n) (h2 : n ≤ 9223372036854775807) : Does Tryz.prog 104 [vI n] [] 1 (Ret (vI n.natAbs) 1) := by
 refine Does.intro TT Tryz.func104 rfl (by kernel_rfl) Zz Zz fun E hE => ?_
 (repeat' (first | refine stx ?_ | (refine stq ?_ ?_ <;> (intro hc; ((try simp at hc) <;> try contradiction))) | fail))
 all_goals refine fin_ret rfl trivial (congrArg vI ?_) rfl
 all_goals omega
theorem d_l1Abs (n : Int) (h1 : -9223372036854775807 ≤ n) (h2 : n ≤ 9223372036854775807) : Does Tryz.prog 105 [vI n] [] 1 (Ret (vI n.natAbs) 1) := by
 refine Does.intro TT Tryz.func105 rfl (by kernel_rfl) Zz Zz fun E hE => ?_
 (repeat' (first | refine stx ?_ | (refine stq ?_ ?_ <;> (intro hc; ((try simp at hc) <;> try contradiction))) | fail))
 all_goals refine fin_ret rfl trivial (congrArg vI ?_) rfl
 all_goals omega
theorem d_numI (n : Int) : Does Tryz.prog 118 [vI n] [] 1 (Ret (vB (numB n)) 1) := by
 refine Does.intro TT Tryz.func118 rfl (by kernel_rfl) Zz Zz fun E hE => ?_
 (repeat' (first | refine stx ?_ | (refine stq ?_ ?_ <;> (intro hc; ((try simp at hc) <;> try contradiction))) | fail))
 all_goals refine fin_ret rfl trivial (congrArg vB ?_) rfl
 all_goals simp [numB]; omega
theorem d_l1In (a b c : Int) : Does Tryz.prog 112 [vI a, vI b, vI c] [] 1 (Ret (vB (inB a b c)) 1) := by
 refine Does.intro TT Tryz.func112 rfl (by kernel_rfl) Zz Zz fun E hE => ?_
 (repeat' (first | refine stx ?_ | (refine stq ?_ ?_ <;> (intro hc; ((try simp at hc) <;> try contradiction))) | fail))
 all_goals refine fin_ret rfl trivial (congrArg vB ?_) rfl
 all_goals simp [inB]; try omega
theorem d_numS (n : Int) : Does Tryz.prog 113 [vI n] [] 1 (Ret (vB (numB n)) 1) := by
 refine Does.intro TT Tryz.func113 rfl (by kernel_rfl) Zz Zz fun E hE => ?_
 (repeat' (first | refine stx ?_ | refine zqc (d_l1In _ _ _) ?_ | (refine stq ?_ ?_ <;> (intro hc; ((try simp at hc) <;> try contradiction))) | fail))
 all_goals refine fin_ret rfl trivial (congrArg vB ?_) rfl
 all_goals rfl
end Go.Proofs.YtekpamojojfplaaGreat
namespace Go.Proofs.YtekpamojojfplaaGreat
open Go.RowKit
def RI (w : World) (A : Option Addr) (xs : List Int) : Prop :=
  0 < xs.length → ∃ b off, A = some ⟨b, off, none⟩ ∧ b < w.heap.size ∧ ∀ k (h : k < xs.length), w.cell? ⟨b, off + k, none⟩ = some (.int .i64 xs[k])
theorem RI.nil {w : World} {A : Option Addr} : RI w A [] := fun h => absurd h (by simp)
theorem RI.up {w W : World} {A : Option Addr} {xs : List Int} (h : RI w A xs) (hb : Below w.heap.size w W) : RI W A xs := fun h0 => by
  obtain ⟨b, off, rfl, hlt, hc⟩ := h h0
  exact ⟨b, off, rfl, Nat.lt_of_lt_of_le hlt hb.size, fun k hk => (hb.cell (p := ⟨b, off + k, none⟩) hlt).trans (hc k hk)⟩
theorem RI.below {B : Nat} {w W : World} {A : Option Addr} {xs : List Int} (h : RI w A xs) (hB : w.heap.size ≤ B) (hb : Below B w W) : RI W A xs := h.up (hb.mono hB)
theorem RI.at_ {w : World} {A : Option Addr} {xs : List Int} (h : RI w A xs) {k : Nat} (hk : k < xs.length) :
    ∃ b off, A = some ⟨b, off, none⟩ ∧ b < w.heap.size ∧ w.cell? ⟨b, off + k, none⟩ = some (.int .i64 xs[k]) := by
  obtain ⟨b, off, e, hb, hc⟩ := h (by omega)
  exact ⟨b, off, e, hb, hc k hk⟩
theorem RI.take {w : World} {A : Option Addr} {xs : List Int} (h : RI w A xs) (n : Nat) : RI w A (xs.take n) := fun h0 => by
  have h0' : 0 < n ∧ 0 < xs.length := by rw [List.length_take] at h0; omega
  obtain ⟨b, off, rfl, hlt, hc⟩ := h h0'.2
  refine ⟨b, off, rfl, hlt, fun k hk => ?_⟩
  have hk' : k < xs.length := by simp at hk; omega
  rw [hc k hk']; simp
def OI (w : World) (base : Nat) (A : Option Addr) (n c : Nat) (xs : List Int) : Prop :=
  xs.length = n ∧ w.ownsRow base 3 1 (.slice A n c) n (xs.map (Value.int .i64))
theorem OI.none (w : World) (base : Nat) : OI w base .none 0 0 [] := ⟨rfl, World.ownsRow_nil w base _ _⟩
theorem OI.len {w : World} {base : Nat} {A : Option Addr} {n c : Nat} {xs : List Int} (h : OI w base A n c xs) : xs.length = n := h.1
theorem OI.shape {w : World} {base : Nat} {A : Option Addr} {n c : Nat} {xs : List Int} (h : OI w base A n c xs) : (A = Option.none ∧ n = 0 ∧ c = 0) ∨ ∃ g, A = some ⟨g, 0, Option.none⟩ ∧ base ≤ g ∧ g < w.heap.size ∧ n ≤ c := by
  obtain ⟨hl, ho⟩ := h
  rcases ho.2 with ⟨hv, hn⟩ | ⟨g, cap, cur, hv, hb, hg, hc, _⟩
  · left; injection hv with h1 h2 h3; exact ⟨h1, hn, h3⟩
  · right; injection hv with h1 h2 h3; subst h1; subst h3; exact ⟨g, rfl, hb, (Array.getElem?_eq_some_iff.1 hg).1, hc⟩
theorem OI.cap {w : World} {base : Nat} {A : Option Addr} {n c : Nat} {xs : List Int} (h : OI w base A n c xs) : n ≤ c := by
  rcases h.shape with ⟨_, h1, h2⟩ | ⟨g, _, _, _, h3⟩ <;> omega
theorem OI.cell {w : World} {base g n c : Nat} {xs : List Int} (h : OI w base (some ⟨g, 0, .none⟩) n c xs) {k : Nat} (hk : k < xs.length) : w.cell? ⟨g, k, .none⟩ = some (.int .i64 xs[k]) := by
  have := World.ownsRow.cellAt (w := w) (j := k) h.2 (by have := h.1; omega)
  rw [this]; simp [hk]
theorem OI.frozen {w : World} {base g n c : Nat} {xs : List Int} (h : OI w base (some ⟨g, 0, .none⟩) n c xs) (k : Nat) : w.frozen? ⟨g, k, .none⟩ = false :=
  World.ownsRow.frozenAt (w := w) h.2 k
theorem OI.store {w : World} {base g n c : Nat} {xs : List Int} (h : OI w base (some ⟨g, 0, .none⟩) n c xs) (k : Nat) (x : Int) :
    OI (w.setCell ⟨g, k, .none⟩ (.int .i64 x)) base (some ⟨g, 0, .none⟩) n c (xs.set k x) := by
  refine ⟨by simp [h.1], ?_⟩
  have := (World.ownsRow.stored (w := w) h.2 k (.int .i64 x)).1
  simpa [List.map_set] using this
theorem OI.kept {w w' : World} {row : Option Nat} {base : Nat} {A : Option Addr} {n c : Nat} {xs : List Int} (h : OI w base A n c xs) (hg : w.grownBy w' row) (hne : ∀ a, A = some a → some a.block ≠ row) : OI w' base A n c xs :=
  ⟨h.1, h.2.kept hg (by cases A with
    | none => left; rfl
    | some a => right; exact hne a rfl)⟩
theorem OI.up {w W : World} {base : Nat} {A : Option Addr} {n c : Nat} {xs : List Int} (h : OI w base A n c xs) (hb : Below w.heap.size w W) : OI W base A n c xs := by
  refine ⟨h.1, h.2.1, ?_⟩
  rcases h.2.2 with h0 | ⟨g, cap, cur, hv, hbg, hg, r⟩
  · exact .inl h0
  · exact .inr ⟨g, cap, cur, hv, hbg, (hb.block g (Array.getElem?_eq_some_iff.1 hg).1).trans hg, r⟩
theorem OI.mono {w : World} {base base' : Nat} {A : Option Addr} {n c : Nat} {xs : List Int} (h : OI w base A n c xs) (hb : base' ≤ base) : OI w base' A n c xs := by
  refine ⟨h.1, h.2.1, ?_⟩
  rcases h.2.2 with h0 | ⟨g, cap, cur, hv, hbg, r⟩
  · exact .inl h0
  · exact .inr ⟨g, cap, cur, hv, Nat.le_trans hb hbg, r⟩
theorem OI.alloc {w : World} {base : Nat} {A : Option Addr} {n c : Nat} {xs : List Int} (h : OI w base A n c xs) (o : Obj) : OI (w.alloc o) base A n c xs := h.up ((Below.refl _ _).alloc (Nat.le_refl _) o)
theorem OI.ext {w : World} {base : Nat} {A : Option Addr} {n c : Nat} {xs : List Int} (h : OI w base A n c xs) (x : Ext w) : OI x.val base A n c xs := h.up x.below
theorem set_take_rep {xs : List Int} {k : Nat} (hk : k < xs.length) :
    (xs.take k ++ List.replicate (xs.length - k) 0).set k xs[k] = xs.take (k + 1) ++ List.replicate (xs.length - (k + 1)) 0 := by
  apply List.ext_getElem?
  intro j
  by_cases hj : j = k
  · subst hj
    rw [List.getElem?_set_self (by simp; omega), List.getElem?_append_left (by simp; omega)]
    simp [hk]
  · rw [List.getElem?_set_ne (by omega)]
    by_cases h1 : j < k
    · rw [List.getElem?_append_left (by simp; omega), List.getElem?_append_left (by simp; omega)]
      rw [List.getElem?_take_of_lt h1, List.getElem?_take_of_lt (by omega)]
    · rw [List.getElem?_append_right (by simp; omega), List.getElem?_append_right (by simp; omega)]
      simp only [List.length_take, List.getElem?_replicate]
      by_cases h2 : j < xs.length
      · rw [if_pos (by omega), if_pos (by omega)]
      · rw [if_neg (by omega), if_neg (by omega)]
def MadeInts (base : Nat) (xs : List Int) (w0 : World) (e : Ending) (w' : World) : Prop :=
  ∃ A c, e = .returned (.slice A xs.length c) ∧ OI w' base A xs.length c xs ∧ ∃ x : Ext w0, w' = x.val
def marks (k : Int) (n : Nat) : List Int := (List.range n).map fun (i : Nat) => k + (i : Int)
theorem marks_len {k : Int} {n : Nat} : (marks k n).length = n := by simp [marks]
def Marked (base : Nat) (A : Option Addr) (n c : Nat) (xs : List Int) (k : Int) (w0 : World) (e : Ending) (w' : World) : Prop :=
  e = .returned (.int .i64 k) ∧ OI w' base A n c xs ∧ Below base w0 w'
theorem marks_step {xs : List Int} {k : Int} {i : Nat} (h : i < xs.length) : (marks k i ++ xs.drop i).set i (k + (i : Int)) = marks k (i + 1) ++ xs.drop (i + 1) := by
  rw [List.drop_eq_getElem_cons h]
  rw [List.set_append_right _ _ (by simp [marks])]
  simp only [marks, List.length_map, List.length_range, Nat.sub_self, List.set_cons_zero, List.range_succ, List.map_append, List.map_cons, List.map_nil, List.append_assoc, List.cons_append, List.nil_append]
end Go.Proofs.YtekpamojojfplaaGreat
