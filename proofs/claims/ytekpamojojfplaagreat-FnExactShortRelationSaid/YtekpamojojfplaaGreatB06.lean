/-
  TEXTS OF THE PROOF, put together: Am6, Am7, Am8.
-/
import Derived.Test.YtekpamojojfplaaGreatB05
import Derived.Deep.Quiet
set_option linter.unusedVariables false
set_option linter.unusedSimpArgs false
namespace Go.Proofs.YtekpamojojfplaaGreat
open Go.RowKit
def Ret (v : AV) (n : Nat) : AV → List (Nat × Blk) → Nat → Prop := fun v' Hout n1 => v' = v ∧ Hout = [] ∧ n1 = n
def noOwn (Hin : List (Nat × Blk)) : Bool := Hin.all fun p => !p.2.isOwn
section
variable {P : Program} {tab : List (Nat × TD)} {E : Env} {N : Nat} {Q : Post} {σ : St} {fr : Nat → Option AV} {H : Nat → Option Blk} {nx : Nat}
theorem HInv.restrict {ρ ρ2 : Rho} {H H2 : Nat → Option Blk} {nx nx2 : Nat} {w : World} (h : HInv E ρ2 H2 nx2 w) (hk : ∀ k b, H k = some b → k < nx ∧ ∀ k' ∈ b.keys, k' < nx) (hH : ∀ k b, H k = some b → H2 k = some b)
    (hρ : ∀ k, k < nx → ρ2 k = ρ k) (hn : E.n0 ≤ nx) : HInv E ρ H nx w := by
  have h0 : 0 < nx := Nat.lt_of_lt_of_le h.pos hn
  refine ⟨by rw [← hρ 0 h0]; exact h.nil, fun k b hb => (h.blk k b (hH k b hb)).congr (hρ k (hk k b hb).1).symm (fun k' hk' => (hρ k' ((hk k b hb).2 k' hk')).symm), hk, fun k k' b b' p p' hb hb' ho hl hne e e' => ?_, fun k b p hb hl ha hn' e => ?_, fun k b hb ho hn' => h.old k b (hH k b hb) ho hn', h.keeps, fun k hk' => ?_, hn, h.pos, fun k b hb => h.rows k b (hH k b hb), fun k k' b b' p g hb hb' ho e hf => ?_, fun k k' t t' q q' l l' hb hb' hne => h.tt k k' t t' q q' l l' (hH k _ hb) (hH k' _ hb') hne, fun k t q l hb => h.tw k t q l (hH k _ hb), fun k k' t q l e p hb hb' hl e' => ?_⟩
  · rw [← hρ k (hk k b hb).1] at e
    rw [← hρ k' (hk k' b' hb').1] at e'
    exact h.inj k k' b b' p p' (hH k b hb) (hH k' b' hb') ho hl hne e e'
  · rw [← hρ k (hk k b hb).1] at e
    exact h.new k b p (hH k b hb) hl ha hn' e
  · rw [← hρ k (Nat.lt_of_lt_of_le hk' hn)]; exact h.ent k hk'
  · rw [← hρ k (hk k b hb).1] at e
    exact h.far k k' b b' p g (hH k b hb) (hH k' b' hb') ho e hf
  · rw [← hρ k' (hk k' _ hb').1] at e'
    exact h.tr k k' t q l e p (hH k _ hb) (hH k' _ hb') hl e'
theorem noOwn_in {Hin : List (Nat × Blk)} (h : noOwn Hin = true) (k : Nat) : ownIn Hin k = false := by
  unfold ownIn
  split
  · rename_i b hb
    have := List.all_eq_true.1 h _ (lk_mem hb)
    simpa using this
  · rfl
theorem noOwn_tok {Hin : List (Nat × Blk)} (h : noOwn Hin = true) : hasTok Hin = false := by
  apply List.any_eq_false.2
  intro p hp
  have := List.all_eq_true.1 h p hp
  cases hb : p.2 <;> simp [hb, Blk.isOwn, Blk.isTok] at this ⊢
theorem noOwn_any {Hin : List (Nat × Blk)} (h : noOwn Hin = true) (f : Nat → Bool) : Hin.any (fun p => p.2.isOwn && f p.1) = false := by
  apply List.any_eq_false.2
  intro p hp
  have := List.all_eq_true.1 h p hp
  simp at this
  simp [this]
theorem after_old {H : Nat → Option Blk} {m : List (Nat × Nat)} {n0 nx : Nat} {Hin Hout : List (Nat × Blk)} (h : noOwn Hin = true) {k : Nat} (hk : k < nx) : afterH H m n0 nx Hin Hout k = H k := by
  unfold afterH
  split
  · rename_i b hb
    obtain ⟨j, b0, _, h2, _, h3⟩ := outL_at hb
    rcases h3 with h3 | h3
    · unfold mq at h2
      cases c : Nat.blt j n0 with
      | true => have := nblt c; omega
      | false => rw [c] at h2; simp only [cond_false] at h2; omega
    · rw [noOwn_in h j] at h3; cases h3.1
  · rw [noOwn_any h (fun k' => Nat.beq (mp m k') k), noOwn_tok h]; rfl
theorem OpR.ret {o : Oper} {f : FuncId} {args : List AV} {Hin : List (Nat × Blk)} {n0 n : Nat} {v : AV} (hD : Does P f args Hin n0 (Ret v n)) {fo : Operand} {xs : Array Operand} {ts : Array TypeId}
    (ho : o.op = .call ⟨.value fo, xs, ts⟩) (m : List (Nat × Nat)) (ha : callArgs σ.fr fo xs = some (f, args.map (AV.ren (mp m)))) (hk : leB n0 (args.flatMap AV.keys) = true) (hv : v.keys = [])
    (hf : FitB σ.H (mp m) Hin) (hok : okCall n0 σ.nx m Hin = true) (hno : noOwn Hin = true) : OpR P o E N σ (det v σ.H σ.nx) := by
  intro ρ a w hI K Q hK
  refine OpR.call hD ho m ha hk hf hok ρ a w hI K Q fun ρ' w' v' H' nx' hR hH hρ hn hk' => ?_
  obtain ⟨v1, Hout, n1, ⟨e1, e2, e3⟩, e4, e5, e6⟩ := hR
  subst e1
  have hvr : v'.conc ρ' = v1.conc ρ := by
    rw [e4, AV.conc_ren]; exact AV.conc_congr fun k hk => by rw [hv] at hk; cases hk
  rw [hvr]
  refine hK ρ w' v1 σ.H σ.nx ⟨rfl, rfl, rfl⟩ ?_ (fun _ _ => rfl) (Nat.le_refl _) (by simp [hv])
  refine hH.restrict hI.h.key (fun k b hb => ?_) hρ hI.h.n0
  rw [e5, after_old hno (hI.h.key k b hb).1]; exact hb
theorem w_z {l0 rest : List Oper} {o : Oper} {f : FuncId} {args : List AV} {Hin : List (Nat × Blk)} {n0 n d : Nat} {v : AV} (hD : Does P f args Hin n0 (Ret v n)) {fo : Operand} {xs : Array Operand} {ts : Array TypeId}
    (ho : o.op = .call ⟨.value fo, xs, ts⟩) (hdst : o.dst = some d) {l : List AV} (hl : callArgs fr fo xs = some (f, l)) (ha : l = args.map (AV.ren (mp (matchM args l)))) (hw : wantA l0 fr o = some true) (hd : inFrame N o.dst = true) (hk : leB n0 (args.flatMap AV.keys) = true) (hv : v.keys = [])
    (hf : FitB H (mp (matchM args l)) Hin) (hok : okCall n0 nx (matchM args l) Hin = true) (hno : noOwn Hin = true)
    (h : awpL P E N l0 Q rest ⟨upd fr d v, H, nx⟩) : awpL P E N l0 Q (o :: rest) ⟨fr, H, nx⟩ :=
  w_H (σ := ⟨fr, H, nx⟩) hw hd (OpR.ret hD ho (matchM args l) (ha ▸ hl) hk hv hf hok hno) fun _ _ _ ⟨e1, e2, e3⟩ => by subst e1 e2 e3; rw [hdst]; exact h
theorem OpR.one {o : Oper} {f : FuncId} {args : List AV} {Hin : List (Nat × Blk)} {n0 : Nat} {Out : AV → List (Nat × Blk) → Nat → Prop} (hD : Does P f args Hin n0 Out) {fo : Operand} {xs : Array Operand} {ts : Array TypeId}
    (ho : o.op = .call ⟨.value fo, xs, ts⟩) (m : List (Nat × Nat)) (ha : callArgs σ.fr fo xs = some (f, args.map (AV.ren (mp m)))) (hk : leB n0 (args.flatMap AV.keys) = true)
    (hf : FitB σ.H (mp m) Hin) (hok : okCall n0 σ.nx m Hin = true) (hno : noOwn Hin = true) (hout : ∀ v Hout n1, Out v Hout n1 → ∃ b, Hout = [(n0, b)] ∧ n1 = n0 + 1 ∧ b.keys = []) :
    OpR P o E N σ fun v' H' nx' => ∃ v b, Out v [(n0, b)] (n0 + 1) ∧ v' = v.ren (mq m n0 σ.nx) ∧ H' = upd σ.H σ.nx b ∧ nx' = σ.nx + 1 := by
  intro ρ a w hI K Q hK
  refine OpR.call hD ho m ha hk hf hok ρ a w hI K Q fun ρ' w' v' H' nx' hR hH hρ hn hk' => ?_
  obtain ⟨v1, Hout, n1, e1, e4, e5, e6⟩ := hR
  obtain ⟨b, rfl, rfl, hbk⟩ := hout _ _ _ e1
  subst e5 e6
  have hnx : σ.nx + (n0 + 1 - n0) = σ.nx + 1 := by omega
  have hb : ∀ mm, b.ren mm = b := fun mm => by
    have ren0 : ∀ (l : List SV), keysOf l = [] → l.map (SV.ren mm) = l := fun l hl => by
      have : ∀ s ∈ l, s.keys = [] := fun s hs => List.eq_nil_iff_forall_not_mem.2 fun k hk => by
        have : k ∈ keysOf l := List.mem_flatMap.2 ⟨s, hs, hk⟩
        rw [hl] at this; cases this
      conv => rhs; rw [← List.map_id l]
      refine List.map_congr_left fun s hs => ?_
      have := this s hs
      cases s <;> simp [SV.keys] at this <;> simp [SV.ren, this]
    cases b with
    | dead => rfl
    | ro e =>
      cases e with
      | lit l => exact congrArg (fun x => Blk.ro (Elts.lit x)) (ren0 l hbk)
      | ints l => rfl
      | i2 l => rfl
      | i3 l => rfl
      | bytes l => rfl
      | rows q f l => rfl
      | vals f l => rfl
      | mats f l => rfl
    | own t c e =>
      cases e with
      | lit l => exact congrArg (fun x => Blk.own t c (Elts.lit x)) (ren0 l hbk)
      | ints l => rfl
      | i2 l => rfl
      | i3 l => rfl
      | bytes l => rfl
      | rows q f l => rfl
      | vals f l => rfl
      | mats f l => rfl
    | al a e =>
      cases e with
      | lit l => exact congrArg (fun x => Blk.al a (Elts.lit x)) (ren0 l hbk)
      | ints l => rfl
      | i2 l => rfl
      | i3 l => rfl
      | bytes l => rfl
      | rows q f l => rfl
      | vals f l => rfl
      | mats f l => rfl
    | tok t q l => rfl
  refine hK ρ' w' v' (upd σ.H σ.nx b) (σ.nx + 1) ⟨v1, b, e1, e4, rfl, rfl⟩ ?_ hρ (Nat.le_succ _) (fun k hk => by have := hk' k hk; omega)
  have hmq : mq m n0 σ.nx n0 = σ.nx := by
    unfold mq
    cases c : Nat.blt n0 n0 with
    | true => exact absurd (nblt c) (by omega)
    | false => simp
  refine hH.restrict (fun k b' hb' => ?_) (fun k b' hb' => ?_) (fun k _ => rfl) (Nat.le_succ_of_le hI.h.n0)
  · by_cases c : k = σ.nx
    · subst c; rw [upd_same] at hb'; cases hb'; exact ⟨Nat.lt_succ_self _, by simp [hbk]⟩
    · rw [upd_ne c] at hb'
      obtain ⟨f1, f2⟩ := hI.h.key k b' hb'
      exact ⟨Nat.lt_succ_of_lt f1, fun k' hk' => Nat.lt_succ_of_lt (f2 k' hk')⟩
  · by_cases c : k = σ.nx
    · subst c; rw [upd_same] at hb'; cases hb'
      unfold afterH outL
      rw [show Nat.ble n0 n0 = true by simp]
      simp only [Bool.true_or, cond_true, outL, lk, hmq, hb]
      simp
    · rw [upd_ne c] at hb'
      rw [after_old hno (hI.h.key k b' hb').1]; exact hb'
theorem w_C {l0 rest : List Oper} {o : Oper} {f : FuncId} {args : List AV} {Hin : List (Nat × Blk)} {n0 d : Nat} {Out : AV → List (Nat × Blk) → Nat → Prop} (hD : Does P f args Hin n0 Out) {fo : Operand} {xs : Array Operand} {ts : Array TypeId}
    (ho : o.op = .call ⟨.value fo, xs, ts⟩) (hdst : o.dst = some d) {l : List AV} (hl : callArgs fr fo xs = some (f, l)) (ha : l = args.map (AV.ren (mp (matchM args l)))) (hw : wantA l0 fr o = some true) (hd : inFrame N o.dst = true) (hk : leB n0 (args.flatMap AV.keys) = true)
    (hf : FitB H (mp (matchM args l)) Hin) (hok : okCall n0 nx (matchM args l) Hin = true) (hno : noOwn Hin = true) (hout : ∀ v Hout n1, Out v Hout n1 → ∃ b, Hout = [(n0, b)] ∧ n1 = n0 + 1 ∧ b.keys = [])
    (h : ∀ v b, Out v [(n0, b)] (n0 + 1) → awpL P E N l0 Q rest ⟨upd fr d (v.ren (mq (matchM args l) n0 nx)), upd H nx b, nx + 1⟩) : awpL P E N l0 Q (o :: rest) ⟨fr, H, nx⟩ :=
  w_H (σ := ⟨fr, H, nx⟩) hw hd (OpR.one hD ho (matchM args l) (ha ▸ hl) hk hf hok hno hout) fun _ _ _ ⟨v, b, h1, e1, e2, e3⟩ => by subst e1 e2 e3; rw [hdst]; exact h v b h1
def awpQ (P : Program) (E : Env) (N : Nat) (l0 : List Oper) (Q : Post) (l : List Oper) (σ : St) : Prop := ∀ ρ a, FInv N ρ σ.fr σ.nx a → (∃ w, HInv E ρ σ.H σ.nx w) → wpQuiet P l0.toArray (fun w' => HInv E ρ σ.H σ.nx w') (fun a' => ∀ w', HInv E ρ σ.H σ.nx w' → lift E N Q .normal a' w') l a
def quietB (l : List Oper) : Bool := l.all fun o => match o.op with
  | .alloc _ => false
  | .box _ _ => false
  | .store _ _ _ => false
  | .makeSlice _ _ _ => false
  | .buildSlice _ _ _ => false
  | .call ⟨.builtin .append, _, _⟩ => false
  | .call ⟨.builtin .copy, _, _⟩ => false
  | _ => true
theorem w_o {id : Nat} {l : List Oper} (hm : P.follows .mixedOrders = true) (_hq : quietB l = true) (hB : Region.lexB .any l.toArray = true) (h : awpQ P E N l Q l σ) : awp P E N (.region id l.toArray true) Q σ := by
  unfold awp
  exact fun ρ a _ hI => wp_region_quiet (C := fun w' => HInv E ρ σ.H σ.nx w') hm hB hI.h.drew (by simpa using h ρ a hI.f ⟨_, hI.h⟩)
theorem w_e {l0 : List Oper} (h : Q .normal σ) : awpQ P E N l0 Q [] σ := fun ρ _ hF _ => wpQuiet_nil fun _ hw => ⟨ρ, σ, ⟨hF, hw⟩, h⟩
theorem w_d (hT : Tab P tab) {l0 rest : List Oper} {o : Oper} {c : Prop} {v : AV} {d : Nat} (hdst : o.dst = some d) (hw : wantA l0 fr o = some true) (hd : Nat.blt d N = true) (hs : pstep tab fr H o.op = some (c, v)) (hc : c)
    (h : awpQ P E N l0 Q rest ⟨upd fr d v, H, nx⟩) : awpQ P E N l0 Q (o :: rest) ⟨fr, H, nx⟩ := fun ρ a hF hex => by
  have hn0 : ∀ w, HInv E ρ H nx w → PS P o a w ρ nx v := fun w hw' => pstep_sound hT hF hw'.hb hs hc
  refine wpQuiet_step fun K hK => ?_
  rw [wantA_sound hF hw, if_pos rfl]
  refine ⟨v.conc ρ, fun w hw' => ?_, hK _ ?_⟩
  · unfold Oper.quietAt
    rw [(hn0 w hw').1]
    exact ⟨rfl, rfl⟩
  · obtain ⟨w0, hw0⟩ := hex
    rw [hdst]
    exact h ρ _ (hF.put (nblt hd) (hn0 w0 hw0).2) ⟨w0, hw0⟩
theorem w_f {l0 rest : List Oper} {o : Oper} {d : Nat} (hw : wantA l0 fr o = some false) (hd : o.dst = some d) (h : awpQ P E N l0 Q rest ⟨upd fr d (.tup []), H, nx⟩) : awpQ P E N l0 Q (o :: rest) ⟨fr, H, nx⟩ := fun ρ a hF hex => by
  refine wpQuiet_step fun K hK => ?_
  rw [wantA_sound hF hw, if_neg (by simp), hd]
  exact hK _ (h ρ _ (hF.skip d) hex)
theorem w_q {l0 rest : List Oper} {o : Oper} {s : Nat} {b : Bool} {g : Nat × Bool} (_hg : o.guard = some g) (_hs : slotOf l0 g.1 = some s) (hb : fr s = some (.one (.bool b)))
    (ht : b = true → awpQ P E N l0 Q (o :: rest) ⟨upd fr s (.one (.bool true)), H, nx⟩)
    (hf : b = false → awpQ P E N l0 Q (o :: rest) ⟨upd fr s (.one (.bool false)), H, nx⟩) : awpQ P E N l0 Q (o :: rest) ⟨fr, H, nx⟩ := fun ρ a hF hex => by
  cases b with
  | true => exact ht rfl ρ a (hF.pin hb rfl) hex
  | false => exact hf rfl ρ a (hF.pin hb rfl) hex
theorem w_A {l0 rest : List Oper} {o : Oper} {f : FuncId} {args : List AV} {Hin : List (Nat × Blk)} {n0 n d : Nat} {v : AV} (hD : Does P f args Hin n0 (Ret v n)) {fo : Operand} {xs : Array Operand} {ts : Array TypeId}
    (ho : o.op = .call ⟨.value fo, xs, ts⟩) (hdst : o.dst = some d) {l : List AV} (hl : callArgs fr fo xs = some (f, l)) (ha : l = args.map (AV.ren (mp (matchM args l)))) (hw : wantA l0 fr o = some true) (hd : inFrame N o.dst = true) (hk : leB n0 (args.flatMap AV.keys) = true) (hv : v.keys = [])
    (hf : FitB H (mp (matchM args l)) Hin) (hok : okCall n0 nx (matchM args l) Hin = true) (hno : noOwn Hin = true)
    (h : awpQ P E N l0 Q rest ⟨upd fr d v, H, nx⟩) : awpQ P E N l0 Q (o :: rest) ⟨fr, H, nx⟩ := fun ρ a hF hex => by
  refine wpQuiet_step fun K hK => ?_
  rw [wantA_sound hF hw, if_pos rfl]
  refine ⟨v.conc ρ, fun w hw' => ?_, hK _ ?_⟩
  · obtain ⟨A, hrun, hc⟩ := call_run (E := E) (σ := ⟨fr, H, nx⟩) hD ho (matchM args l) (ha ▸ hl) hk hf hok ⟨hF, hw'⟩
    have hw2 : HInv E ρ H nx w := hw'
    unfold Oper.quietAt
    rw [hrun]
    refine ⟨rfl, hc.mono fun e w' ⟨ρ2, v1, Hout, n1, ⟨e1, e2, e3⟩, h2, r3, r1, _⟩ => ?_⟩
    subst e1
    refine ⟨?_, r3.restrict hw2.key (fun k b hb => by rw [after_old hno (hw2.key k b hb).1]; exact hb) r1 hw2.n0⟩
    rw [h2, AV.conc_ren]
    exact congrArg _ (AV.conc_congr fun k hk => by rw [hv] at hk; cases hk)
  · rw [hdst] at hd ⊢
    exact h ρ _ (hF.put (nblt hd) (by simp [hv])) hex
theorem SV.ren_id : ∀ (s : SV), s.ren (fun k => k) = s
  | .int _ => rfl
  | .bool _ => rfl
  | .sl .. => rfl
  | .ptr .. => rfl
  | .fn f caps => by simp [SV.ren]
  | .u8 _ => rfl
  | .hd _ _ _ => rfl
theorem svs_ren_id (l : List SV) : l.map (SV.ren fun k => k) = l := by
  conv => rhs; rw [← List.map_id l]
  exact List.map_congr_left fun s _ => SV.ren_id s
theorem TV.ren_id : ∀ (v : TV), v.ren (fun k => k) = v
  | .one s => by simp [TV.ren, SV.ren_id]
  | .agg l => by simp [TV.ren, svs_ren_id]
theorem AV.ren_id : ∀ (v : AV), v.ren (fun k => k) = v
  | .one s => by simp [AV.ren, SV.ren_id]
  | .agg l => by simp [AV.ren, svs_ren_id]
  | .tup l => by
    simp only [AV.ren]
    congr 1
    conv => rhs; rw [← List.map_id l]
    exact List.map_congr_left fun s _ => TV.ren_id s
theorem mp_nil : mp [] = fun k => k := rfl
theorem fin {fn : Func} {n0 : Nat} {Out : AV → List (Nat × Blk) → Nat → Prop} {c : Prop} {v0 : AV} (hr : resA tab fr H fn.results.toList = some (c, v0)) (hc : c) (m : List (Nat × Nat)) (v : AV) (Hout : List (Nat × Blk)) (n1 : Nat)
    (ho : Out v Hout n1) (hv : v0 = v.ren (mp m)) (hw : Weak n0 fr H m [] Hout n1) (hk : leB n1 v.keys = true) (hb : BackedL Hout Hout := by repeat' (first | exact trivial | exact .inl rfl | exact .inr ⟨1, _, _, rfl, fun _ h => h⟩ | exact .inr ⟨2, _, _, rfl, fun _ h => h⟩ | exact .inr ⟨3, _, _, rfl, fun _ h => h⟩ | exact .inr ⟨4, _, _, rfl, fun _ h => h⟩ | exact .inr ⟨5, _, _, rfl, fun _ h => h⟩ | exact .inr ⟨6, _, _, rfl, fun _ h => h⟩ | exact .inr ⟨7, _, _, rfl, fun _ h => h⟩ | exact .inr ⟨8, _, _, rfl, fun _ h => h⟩ | exact .inr ⟨9, _, _, rfl, fun _ h => h⟩ | refine ⟨?_, ?_⟩)) : doneQ tab fn n0 Out .ret ⟨fr, H, nx⟩ := ⟨c, v0, m, v, Hout, n1, hr, hc, ho, hv, hw, hk, hb⟩
theorem fin_n {fn : Func} {n0 : Nat} {Out : AV → List (Nat × Blk) → Nat → Prop} {c : Prop} {v0 : AV} (hr : resA tab fr H fn.results.toList = some (c, v0)) (hc : c) (m : List (Nat × Nat)) (v : AV) (Hout : List (Nat × Blk)) (n1 : Nat)
    (ho : Out v Hout n1) (hv : v0 = v.ren (mp m)) (hw : Weak n0 fr H m [] Hout n1) (hk : leB n1 v.keys = true) (hb : BackedL Hout Hout := by repeat' (first | exact trivial | exact .inl rfl | exact .inr ⟨1, _, _, rfl, fun _ h => h⟩ | exact .inr ⟨2, _, _, rfl, fun _ h => h⟩ | exact .inr ⟨3, _, _, rfl, fun _ h => h⟩ | exact .inr ⟨4, _, _, rfl, fun _ h => h⟩ | exact .inr ⟨5, _, _, rfl, fun _ h => h⟩ | exact .inr ⟨6, _, _, rfl, fun _ h => h⟩ | exact .inr ⟨7, _, _, rfl, fun _ h => h⟩ | exact .inr ⟨8, _, _, rfl, fun _ h => h⟩ | exact .inr ⟨9, _, _, rfl, fun _ h => h⟩ | refine ⟨?_, ?_⟩)) : doneQ tab fn n0 Out .normal ⟨fr, H, nx⟩ := ⟨c, v0, m, v, Hout, n1, hr, hc, ho, hv, hw, hk, hb⟩
theorem fin_ret {fn : Func} {n0 : Nat} {v : AV} {c : Prop} {v0 : AV} (hr : resA tab fr H fn.results.toList = some (c, v0)) (hc : c) (hv : v0 = v) (hk : leB n0 v.keys = true) : doneQ tab fn n0 (Ret v n0) .ret ⟨fr, H, nx⟩ :=
  fin hr hc [] v [] n0 ⟨rfl, rfl, rfl⟩ (by rw [mp_nil, AV.ren_id]; exact hv) ⟨trivial, trivial, by simp [okWeak, okM, okKeys, leB]⟩ hk
end
attribute [irreducible] awpQ
end Go.Proofs.YtekpamojojfplaaGreat
namespace Go.Proofs.YtekpamojojfplaaGreat
open Go.RowKit
def HS (ρs : Rho) (nxs : Nat) (hs : List (Nat × Blk)) (w : World) : Prop := HB ρs (lk hs) nxs w
def SubB (H : Nat → Option Blk) : List (Nat × Blk) → Prop
  | [] => True
  | p :: r => H p.1 = some p.2 ∧ SubB H r
theorem SubB.at_ {H : Nat → Option Blk} : ∀ {l : List (Nat × Blk)} {k : Nat} {b : Blk}, SubB H l → lk l k = some b → H k = some b
  | [], _, _, _, h => by cases h
  | p :: r, k, b, h, hl => by
    unfold lk at hl
    cases e : Nat.beq k p.1 with
    | true => rw [e] at hl; have e := Nat.eq_of_beq_eq_true e; cases hl; subst e; exact h.1
    | false => rw [e] at hl; exact SubB.at_ h.2 hl
structure Here (E : Env) (N : Nat) (ρs : Rho) (nxs : Nat) (hs : List (Nat × Blk)) (σ : St) (ρ : Rho) (a : Act) (w : World) : Prop where
  inv : Inv E N ρ σ a w
  agree : ∀ k, k < nxs → ρ k = ρs k
  held : HS ρs nxs hs w
  le : nxs ≤ σ.nx
def awpH (P : Program) (E : Env) (N : Nat) (l0 : List Oper) (Q : Post) (ρs : Rho) (nxs : Nat) (hs : List (Nat × Blk)) (fuel : Nat) (listed : Array Bool) (σ : St) : Prop :=
  ∀ ρ a w, Here E N ρs nxs hs σ ρ a w → wpAnyH P .any l0.toArray (lift E N Q) (HS ρs nxs hs) fuel listed a w
def awpHop (P : Program) (E : Env) (N : Nat) (l0 : List Oper) (Q : Post) (ρs : Rho) (nxs : Nat) (hs : List (Nat × Blk)) (fuel : Nat) (listed : Array Bool) (i : Nat) (σ : St) : Prop :=
  ∀ ρ a w, Here E N ρs nxs hs σ ρ a w → wpOp P l0.toArray (lift E N Q) i (fun a' w' => HS ρs nxs hs w' ∧ wpAnyH P .any l0.toArray (lift E N Q) (HS ρs nxs hs) fuel (listed.setIfInBounds i true) a' w') a w
def allP (f : Nat → Prop) : List Nat → Prop
  | [] => True
  | i :: r => f i ∧ allP f r
theorem allP.mem {f : Nat → Prop} : ∀ {l : List Nat} {i : Nat}, allP f l → i ∈ l → f i
  | [], _, _, h => by cases h
  | j :: r, i, h, hi => by
    rcases List.mem_cons.1 hi with rfl | hi
    · exact h.1
    · exact allP.mem h.2 hi
def keysB (n : Nat) (l : List (Nat × Blk)) : Bool := l.all fun p => Nat.blt p.1 n && leB n p.2.ks
section
variable {P : Program} {tab : List (Nat × TD)} {E : Env} {N : Nat} {Q : Post} {fr : Nat → Option AV} {H : Nat → Option Blk} {nx : Nat}
variable {l0 : List Oper} {ρs : Rho} {nxs : Nat} {hs : List (Nat × Blk)} {fuel : Nat} {listed : Array Bool}
theorem HS.of {ρ : Rho} {w : World} (h : HInv E ρ H nx w) (ha : ∀ k, k < nxs → ρ k = ρs k) (h0 : 0 < nxs) (hs' : SubB H hs) (hk : keysB nxs hs = true) : HS ρs nxs hs w := by
  have hkey : ∀ k b, lk hs k = some b → k < nxs ∧ ∀ k' ∈ b.keys, k' < nxs := fun k b hb => by
    have := List.all_eq_true.1 hk _ (lk_mem hb)
    simp only [Bool.and_eq_true] at this
    exact ⟨nblt this.1, fun k' hk' => leB_sound this.2 k' (by rw [← Blk.ks_eq]; exact hk')⟩
  refine ⟨by rw [← ha 0 h0]; exact h.nil, h0, fun k b hb => ?_, hkey⟩
  exact (h.blk k b (hs'.at_ hb)).congr (ha k (hkey k b hb).1).symm fun k' hk' => (ha k' ((hkey k b hb).2 k' hk')).symm
theorem HS.hb {ρ : Rho} {w : World} (h : HS ρs nxs hs w) (ha : ∀ k, k < nxs → ρ k = ρs k) (hn : nxs ≤ nx) : HB ρ (lk hs) nx w :=
  ⟨by rw [ha 0 h.pos]; exact h.nil, Nat.lt_of_lt_of_le h.pos hn, fun k b hb => (h.blk k b hb).congr (ha k (h.key k b hb).1) fun k' hk' => ha k' ((h.key k b hb).2 k' hk'),
    fun k b hb => ⟨Nat.lt_of_lt_of_le (h.key k b hb).1 hn, fun k' hk' => Nat.lt_of_lt_of_le ((h.key k b hb).2 k' hk') hn⟩⟩
theorem awp_held {id : Nat} (hm : P.follows .mixedOrders = true) (hs : List (Nat × Blk)) (hsub : SubB H hs) (hk : keysB nx hs = true)
    (h : ∀ ρs, awpH P E N l0 Q ρs nx hs l0.length (Array.replicate l0.length false) ⟨fr, H, nx⟩) : awp P E N (.region id l0.toArray true) Q ⟨fr, H, nx⟩ := by
  unfold awp
  intro ρ a w hI
  have hd : HInv E ρ H nx { w with drawn := w.drawn + 1 } := hI.h.drew
  have := h ρ ρ a _ ⟨⟨hI.f, hd⟩, fun _ _ => rfl, HS.of hd (fun _ _ => rfl) hd.hb.pos hsub hk, Nat.le_refl _⟩
  exact wp_region_held (S := HS ρ nx hs) hm (by simpa using this)
theorem w_v (hr : Region.ready .any l0.toArray listed = []) (h : Q .normal ⟨fr, H, nx⟩) : awpH P E N l0 Q ρs nxs hs fuel listed ⟨fr, H, nx⟩ := fun ρ _ _ hh =>
  wpAnyH_done hr ⟨ρ, _, hh.inv, h⟩ fuel
theorem w_t (hT : Tab P tab) (i : Nat) {o : Oper} {c : Prop} {v : AV} {d : Nat} (hi : nth l0 i = some o) (hsel : Region.noSelect l0.toArray = true) (hf : Region.free .any l0.toArray listed i = true) (hr : (Region.ready .any l0.toArray listed).contains i = true)
    (hQ : ∀ ch σ, Q (.panic ch) σ → False) (hdst : o.dst = some d) (hw : wantA l0 fr o = some true) (hd : Nat.blt d N = true) (hs' : pstep tab fr (lk hs) o.op = some (c, v)) (hc : c)
    (h : awpH P E N l0 Q ρs nxs hs fuel (listed.setIfInBounds i true) ⟨upd fr d v, H, nx⟩) : awpH P E N l0 Q ρs nxs hs (fuel + 1) listed ⟨fr, H, nx⟩ := fun ρ a w hh => by
  have hi' : l0.toArray[i]? = some o := by rw [← hi, nth_eq]; simp
  have hrun : ∀ w', HS ρs nxs hs w' → PS P o a w' ρ nx v := fun w' hw' => pstep_sound hT hh.inv.f (hw'.hb hh.agree hh.le) hs' hc
  refine wpAnyH_take (v := v.conc ρ) hi' hsel hf hr (fun ch a' w' ⟨_, _, _, q⟩ => (hQ _ _ q).elim) (.inl ⟨wantA_sound hh.inv.f hw, fun w' hw' => (hrun w' hw').1⟩) hh.held ?_
  rw [hdst]
  exact h ρ _ w ⟨⟨hh.inv.f.put (nblt hd) (hrun w hh.held).2, hh.inv.h⟩, hh.agree, hh.held, hh.le⟩
theorem w_w (hT : Tab P tab) (i : Nat) {o : Oper} {c : Prop} {v : AV} {d : Nat} {t : TypeId} {x y : Operand} (hi : nth l0 i = some o) (hsel : Region.noSelect l0.toArray = true) (hf : Region.free .any l0.toArray listed i = true) (hr : (Region.ready .any l0.toArray listed).contains i = true)
    (hQ : ∀ ch σ, Q (.panic ch) σ → False) (hdst : o.dst = some d) (hw : wantA l0 fr o = some true) (hd : Nat.blt d N = true) (ho : o.op = .indexAddr t x y) (hs' : pIndexAddr tab fr H t x y = some (c, v)) (hc : c)
    (h : awpH P E N l0 Q ρs nxs hs fuel (listed.setIfInBounds i true) ⟨upd fr d v, H, nx⟩) : awpH P E N l0 Q ρs nxs hs (fuel + 1) listed ⟨fr, H, nx⟩ := fun ρ a w hh => by
  have hi' : l0.toArray[i]? = some o := by rw [← hi, nth_eq]; simp
  have hrun : ∀ w', PS P o a w' ρ nx v := fun w' => pIndexAddr_all hT.ok ho hh.inv.f hh.inv.h.hb hs' hc w'
  refine wpAnyH_take (v := v.conc ρ) hi' hsel hf hr (fun ch a' w' ⟨_, _, _, q⟩ => (hQ _ _ q).elim) (.inl ⟨wantA_sound hh.inv.f hw, fun w' _ => (hrun w').1⟩) hh.held ?_
  rw [hdst]
  exact h ρ _ w ⟨⟨hh.inv.f.put (nblt hd) (hrun w).2, hh.inv.h⟩, hh.agree, hh.held, hh.le⟩
theorem awpH_pass (i : Nat) {o : Oper} {d : Nat} (hi : nth l0 i = some o) (hsel : Region.noSelect l0.toArray = true) (hf : Region.free .any l0.toArray listed i = true) (hr : (Region.ready .any l0.toArray listed).contains i = true)
    (hQ : ∀ ch σ, Q (.panic ch) σ → False) (hdst : o.dst = some d) (hw : wantA l0 fr o = some false)
    (h : awpH P E N l0 Q ρs nxs hs fuel (listed.setIfInBounds i true) ⟨upd fr d (.tup []), H, nx⟩) : awpH P E N l0 Q ρs nxs hs (fuel + 1) listed ⟨fr, H, nx⟩ := fun ρ a w hh => by
  have hi' : l0.toArray[i]? = some o := by rw [← hi, nth_eq]; simp
  refine wpAnyH_take (v := undef) hi' hsel hf hr (fun ch a' w' ⟨_, _, _, q⟩ => (hQ _ _ q).elim) (.inr ⟨wantA_sound hh.inv.f hw, rfl⟩) hh.held ?_
  rw [hdst]
  exact h ρ _ w ⟨⟨hh.inv.f.skip d, hh.inv.h⟩, hh.agree, hh.held, hh.le⟩
theorem awpH_split {o : Oper} {s : Nat} {b : Bool} {g : Nat × Bool} (i : Nat) (_hi : nth l0 i = some o) (_hg : o.guard = some g) (_hs : slotOf l0 g.1 = some s) (hb : fr s = some (.one (.bool b)))
    (ht : b = true → awpH P E N l0 Q ρs nxs hs fuel listed ⟨upd fr s (.one (.bool true)), H, nx⟩)
    (hf : b = false → awpH P E N l0 Q ρs nxs hs fuel listed ⟨upd fr s (.one (.bool false)), H, nx⟩) : awpH P E N l0 Q ρs nxs hs fuel listed ⟨fr, H, nx⟩ := fun ρ a w hh => by
  cases b with
  | true => exact ht rfl ρ a w ⟨⟨hh.inv.f.pin hb rfl, hh.inv.h⟩, hh.agree, hh.held, hh.le⟩
  | false => exact hf rfl ρ a w ⟨⟨hh.inv.f.pin hb rfl, hh.inv.h⟩, hh.agree, hh.held, hh.le⟩
theorem w_u (rs : List Nat) (hr : Region.ready .any l0.toArray listed = rs) (hne : rs.isEmpty = false) (h : allP (fun i => awpHop P E N l0 Q ρs nxs hs fuel listed i ⟨fr, H, nx⟩) rs) :
    awpH P E N l0 Q ρs nxs hs (fuel + 1) listed ⟨fr, H, nx⟩ := fun ρ a w hh =>
  wpAnyH_all hr (fun e => by rw [e] at hne; cases hne) fun i hi => (h.mem hi) ρ a w hh
theorem awpHop_op (i : Nat) {o : Oper} {R : AV → (Nat → Option Blk) → Nat → Prop} (hi : nth l0 i = some o) (hw : wantA l0 fr o = some true) (hd : inFrame N o.dst = true) (hk : keysB nxs hs = true) (ho : OpR P o E N ⟨fr, H, nx⟩ R)
    (h : ∀ v H' nx', R v H' nx' → SubB H' hs ∧ awpH P E N l0 Q ρs nxs hs fuel (listed.setIfInBounds i true) (putA ⟨fr, H', nx'⟩ o.dst v)) : awpHop P E N l0 Q ρs nxs hs fuel listed i ⟨fr, H, nx⟩ := fun ρ a w hh => by
  have hi' : l0.toArray[i]? = some o := by rw [← hi, nth_eq]; simp
  unfold wpOp
  simp only [hi']
  rw [wantA_sound hh.inv.f hw, if_pos rfl]
  refine .inl (ho ρ a w hh.inv _ _ fun ρ' w' v H' nx' hR hH hρ hn hk' => ?_)
  obtain ⟨h1, h2⟩ := h v H' nx' hR
  have hagree : ∀ k, k < nxs → ρ' k = ρs k := fun k hk => (hρ k (Nat.lt_of_lt_of_le hk hh.le)).trans (hh.agree k hk)
  have hle : nxs ≤ nx' := Nat.le_trans hh.le hn
  have hS : HS ρs nxs hs w' := HS.of hH hagree hh.held.pos h1 hk
  refine ⟨hS, h2 ρ' _ w' ⟨Inv.put (σ' := ⟨fr, H', nx'⟩) (hh.inv.f.mono hρ hn) hH hd hk', hagree, hS, ?_⟩⟩
  cases o.dst <;> exact hle
theorem w_s (hT : Tab P tab) (i : Nat) {o : Oper} {c : Prop} {fr' : Nat → Option AV} {H' : Nat → Option Blk} {nx' : Nat} (hi : nth l0 i = some o) (hw : wantA l0 fr o = some true) (hd : inFrame N o.dst = true) (hs' : stepA tab fr H nx o = some (c, fr', H', nx')) (hc : c) (hsub : SubB H' hs) (hk : keysB nxs hs = true)
    (h : awpH P E N l0 Q ρs nxs hs fuel (listed.setIfInBounds i true) ⟨fr', H', nx'⟩) : awpHop P E N l0 Q ρs nxs hs fuel listed i ⟨fr, H, nx⟩ := by
  unfold stepA at hs'
  have key : ∀ {R : AV → (Nat → Option Blk) → Nat → Prop} {v1 : AV} {H1 : Nat → Option Blk} {n1 : Nat}, OpR P o E N ⟨fr, H, nx⟩ (det v1 H1 n1) → putA ⟨fr, H1, n1⟩ o.dst v1 = ⟨fr', H', nx'⟩ → H1 = H' → awpHop P E N l0 Q ρs nxs hs fuel listed i ⟨fr, H, nx⟩ := fun {R v1 H1 n1} ho e e2 =>
    awpHop_op i hi hw hd hk ho fun v H2 n2 ⟨e3, e4, e5⟩ => by subst e3 e4 e5; exact ⟨by rw [e2]; exact hsub, by rw [e]; exact h⟩
  split at hs'
  · rename_i c' v hr
    split at hs'
    · rename_i d hdst
      cases hs'
      exact key (R := fun _ _ _ => True) (OpR.pure hT hr hc) (by rw [hdst]; rfl) rfl
    · rename_i hdst
      cases hs'
      exact key (R := fun _ _ _ => True) (OpR.pure hT hr hc) (by rw [hdst]; rfl) rfl
  · split at hs'
    · rename_i t x d ho hdst
      split at hs'
      · rename_i v H1 hr
        cases hs'
        exact key (R := fun _ _ _ => True) (sBox_sound ho hr) (by rw [hdst]; rfl) rfl
      · cases hs'
    · rename_i t d ho hdst
      split at hs'
      · rename_i v H1 hr
        cases hs'
        exact key (R := fun _ _ _ => True) (sAlloc_sound hT ho hr) (by rw [hdst]; rfl) rfl
      · cases hs'
    · rename_i t x y d ho hdst
      split at hs'
      · rename_i c' v H1 hr
        cases hs'
        exact key (R := fun _ _ _ => True) (sMake_sound hT ho hr hc) (by rw [hdst]; rfl) rfl
      · cases hs'
    · rename_i t n ps d ho hdst
      split at hs'
      · rename_i v H1 hr
        cases hs'
        exact key (R := fun _ _ _ => True) (sBuildSlice_sound hT ho hr) (by rw [hdst]; rfl) rfl
      · split at hs'
        · rename_i c' v H1 hr
          cases hs'
          exact key (R := fun _ _ _ => True) (sBuildRows_sound hT ho hr hc) (by rw [hdst]; rfl) rfl
        · cases hs'
    · rename_i t x d ho hdst
      split at hs'
      · rename_i c' v H1 hr
        cases hs'
        exact key (R := fun _ _ _ => True) (sLoadR_sound hT ho hr hc) (by rw [hdst]; rfl) rfl
      · cases hs'
    · rename_i t x y ho hdst
      split at hs'
      · rename_i c' H1 hr
        cases hs'
        exact key (R := fun _ _ _ => True) (sStore_sound hT ho hdst hr hc) (by rw [hdst]; rfl) rfl
      · cases hs'
    · cases hs'
theorem w_y (hT : Tab P tab) (i : Nat) {o : Oper} {c : Prop} {et k sz n m d : Nat} {e' : Elts} {t : TypeId} {x y : Operand} (hi : nth l0 i = some o) (ho : o.op = .call ⟨.builtin .append, #[x, y], #[t, t]⟩) (hdst : o.dst = some d)
    (hw : wantA l0 fr o = some true) (hd : inFrame N o.dst = true) (hs' : sAppend tab fr H nx t x y = some (c, appOut H nx et k sz n e' m)) (hc : c) (hsub : SubB (upd (upd H k .dead) nx (.own et 0 e')) hs) (hk : keysB nxs hs = true) (hlt : Nat.ble nxs nx = true)
    (h : ∀ cap, n + m ≤ cap → awpH P E N l0 Q ρs nxs hs fuel (listed.setIfInBounds i true) ⟨upd fr d (.one (.sl nx sz 0 (n + m) cap)), upd (upd H k .dead) nx (.own et cap e'), nx + 1⟩) : awpHop P E N l0 Q ρs nxs hs fuel listed i ⟨fr, H, nx⟩ :=
  awpHop_op i hi hw hd hk (sAppend_sound hT ho hs' hc) fun _ _ _ ⟨cap, h1, e1, e2, e3⟩ => by
    subst e1 e2 e3
    refine ⟨?_, by rw [hdst]; exact h cap h1⟩
    have hlt := Nat.le_of_ble_eq_true hlt
    have : ∀ (l : List (Nat × Blk)), (∀ p ∈ l, p.1 < nxs) → SubB (upd (upd H k .dead) nx (.own et 0 e')) l → SubB (upd (upd H k .dead) nx (.own et cap e')) l := fun l => by
      induction l with
      | nil => intro _ _; trivial
      | cons p r ih =>
        intro hl hb
        refine ⟨?_, ih (fun q hq => hl q (by simp [hq])) hb.2⟩
        have := hl p (by simp)
        have h1 := hb.1
        rw [upd_ne (by omega)] at h1 ⊢
        exact h1
    exact this hs (fun p hp => by
      have := List.all_eq_true.1 hk p hp
      simp only [Bool.and_eq_true] at this
      exact nblt this.1) hsub
theorem w_B (i : Nat) {o : Oper} {f : FuncId} {args : List AV} {Hin : List (Nat × Blk)} {n0 n d : Nat} {v : AV} (hD : Does P f args Hin n0 (Ret v n)) {fo : Operand} {xs : Array Operand} {ts : Array TypeId}
    (hi : nth l0 i = some o) (ho : o.op = .call ⟨.value fo, xs, ts⟩) (hdst : o.dst = some d) {l : List AV} (hl : callArgs fr fo xs = some (f, l)) (ha : l = args.map (AV.ren (mp (matchM args l)))) (hw : wantA l0 fr o = some true) (hd : inFrame N o.dst = true) (hk : leB n0 (args.flatMap AV.keys) = true) (hv : v.keys = [])
    (hf : FitB H (mp (matchM args l)) Hin) (hok : okCall n0 nx (matchM args l) Hin = true) (hno : noOwn Hin = true) (hsub : SubB H hs) (hkb : keysB nxs hs = true)
    (h : awpH P E N l0 Q ρs nxs hs fuel (listed.setIfInBounds i true) ⟨upd fr d v, H, nx⟩) : awpHop P E N l0 Q ρs nxs hs fuel listed i ⟨fr, H, nx⟩ :=
  awpHop_op i hi hw hd hkb (OpR.ret hD ho (matchM args l) (ha ▸ hl) hk hv hf hok hno) fun _ _ _ ⟨e1, e2, e3⟩ => by subst e1 e2 e3; rw [hdst]; exact ⟨hsub, h⟩
theorem w_D (i : Nat) {o : Oper} {f : FuncId} {args : List AV} {Hin : List (Nat × Blk)} {n0 d : Nat} {Out : AV → List (Nat × Blk) → Nat → Prop} (hD : Does P f args Hin n0 Out) {fo : Operand} {xs : Array Operand} {ts : Array TypeId}
    (hi : nth l0 i = some o) (ho : o.op = .call ⟨.value fo, xs, ts⟩) (hdst : o.dst = some d) {l : List AV} (hl : callArgs fr fo xs = some (f, l)) (ha : l = args.map (AV.ren (mp (matchM args l)))) (hw : wantA l0 fr o = some true) (hd : inFrame N o.dst = true) (hk : leB n0 (args.flatMap AV.keys) = true)
    (hf : FitB H (mp (matchM args l)) Hin) (hok : okCall n0 nx (matchM args l) Hin = true) (hno : noOwn Hin = true) (hout : ∀ v Hout n1, Out v Hout n1 → ∃ b, Hout = [(n0, b)] ∧ n1 = n0 + 1 ∧ b.keys = []) (hsub : SubB H hs) (hkb : keysB nxs hs = true) (hlt : Nat.ble nxs nx = true)
    (h : ∀ v b, Out v [(n0, b)] (n0 + 1) → awpH P E N l0 Q ρs nxs hs fuel (listed.setIfInBounds i true) ⟨upd fr d (v.ren (mq (matchM args l) n0 nx)), upd H nx b, nx + 1⟩) : awpHop P E N l0 Q ρs nxs hs fuel listed i ⟨fr, H, nx⟩ :=
  awpHop_op i hi hw hd hkb (OpR.one hD ho (matchM args l) (ha ▸ hl) hk hf hok hno hout) fun _ _ _ ⟨v, b, h1, e1, e2, e3⟩ => by
    subst e1 e2 e3
    refine ⟨?_, by rw [hdst]; exact h v b h1⟩
    have hlt := Nat.le_of_ble_eq_true hlt
    have : ∀ (l : List (Nat × Blk)), (∀ p ∈ l, p.1 < nxs) → SubB H l → SubB (upd H nx b) l := fun l => by
      induction l with
      | nil => intro _ _; trivial
      | cons p r ih =>
        intro hl hb
        refine ⟨?_, ih (fun q hq => hl q (by simp [hq])) hb.2⟩
        have := hl p (by simp)
        rw [upd_ne (by omega)]
        exact hb.1
    exact this hs (fun p hp => by
      have := List.all_eq_true.1 hkb p hp
      simp only [Bool.and_eq_true] at this
      exact nblt this.1) hsub
end
attribute [irreducible] awpH awpHop
end Go.Proofs.YtekpamojojfplaaGreat
namespace Go.Proofs.YtekpamojojfplaaGreat
open Go.RowKit
section
variable {P : Program} {E : Env} {N : Nat} {Q : Post} {fr : Nat → Option AV} {H : Nat → Option Blk} {nx : Nat}
variable {l0 : List Oper} {ρs : Rho} {nxs : Nat} {hs : List (Nat × Blk)} {fuel : Nat} {listed : Array Bool}
theorem w_F (i : Nat) {o : Oper} {f : FuncId} {args : List AV} {Hin : List (Nat × Blk)} {n0 d : Nat} {Out : AV → List (Nat × Blk) → Nat → Prop} (hD : Does P f args Hin n0 Out) {fo : Operand} {xs : Array Operand} {ts : Array TypeId}
    (hi : nth l0 i = some o) (ho : o.op = .call ⟨.value fo, xs, ts⟩) (hdst : o.dst = some d) {l : List AV} (hl : callArgs fr fo xs = some (f, l)) (ha : l = args.map (AV.ren (mp (matchM args l)))) (hw : wantA l0 fr o = some true) (hd : inFrame N o.dst = true) (hk : leB n0 (args.flatMap AV.keys) = true)
    (hf : FitB H (mp (matchM args l)) Hin) (hok : okCall n0 nx (matchM args l) Hin = true) (hkb : keysB nxs hs = true)
    (h : ∀ v Hout n1, Out v Hout n1 → SubB (afterH H (matchM args l) n0 nx Hin Hout) hs ∧ awpH P E N l0 Q ρs nxs hs fuel (listed.setIfInBounds i true) ⟨upd fr d (v.ren (mq (matchM args l) n0 nx)), afterH H (matchM args l) n0 nx Hin Hout, nx + (n1 - n0)⟩) :
    awpHop P E N l0 Q ρs nxs hs fuel listed i ⟨fr, H, nx⟩ :=
  awpHop_op i hi hw hd hkb (OpR.call hD ho (matchM args l) (ha ▸ hl) hk hf hok) fun _ _ _ ⟨v, Hout, n1, h1, e1, e2, e3⟩ => by subst e1 e2 e3; rw [hdst]; exact h v Hout n1 h1
end
theorem set_cells {ρ ρ' : Rho} {l : List SV} {f : Nat} {v v' : SV} (hf : l[f]? = some v) (hv : v'.conc ρ' = v.conc ρ) (hr : ∀ k ∈ keysOf l, ρ' k = ρ k) : cells ρ' (l.set f v') = cells ρ l := by
  apply List.ext_getElem?
  intro i
  simp only [cells, List.getElem?_map, List.getElem?_set]
  by_cases c : f = i
  · subst c
    have hlt : f < l.length := (List.getElem?_eq_some_iff.1 hf).1
    rw [if_pos rfl, if_pos hlt, hf]
    simp [hv]
  · rw [if_neg c]
    cases h : l[i]? with
    | none => rfl
    | some u =>
      simp only [Option.map_some]
      rw [SV.conc_congr fun k hk => hr k (List.mem_flatMap.2 ⟨u, List.mem_of_getElem? h, hk⟩)]
theorem set_keys {l : List SV} {f n : Nat} {v' : SV} (h : ∀ k ∈ keysOf l, k < n) (hv : ∀ k ∈ v'.keys, k < n + 1) : ∀ k ∈ keysOf (l.set f v'), k < n + 1 := fun k hk => by
  obtain ⟨u, hu, hk'⟩ := List.mem_flatMap.1 hk
  rcases List.mem_or_eq_of_mem_set hu with q | rfl
  · exact Nat.lt_succ_of_lt (h k (List.mem_flatMap.2 ⟨u, q, hk'⟩))
  · exact hv k hk'
theorem HInv.nilBox {E : Env} {ρ : Rho} {H : Nat → Option Blk} {nx : Nat} {w : World} {k c f sz : Nat} {t et : TypeId} {l : List SV} {e0 : Elts} (h : HInv E ρ H nx w) (hk : H k = some (.own t c (.lit l))) (hf : nth l f = some (.sl 0 sz 0 0 0)) (he : e0.len = 0) (hz : Nat.beq e0.sz sz = true) :
    HInv E (setR ρ nx none) (upd (upd H nx (.own et 0 e0)) k (.own t c (.lit (l.set f (.sl nx sz 0 0 0))))) (nx + 1) w := by
  rw [nth_eq] at hf
  have hkn : k < nx := (h.key k _ hk).1
  have hk0 : ∀ x ∈ keysOf l, x < nx := (h.key k _ hk).2
  have hall : e0.all = [] := List.eq_nil_of_length_eq_zero (by rw [Elts.all_len, he, Nat.zero_mul])
  have hr0 : e0.rds = [] := Elts.rds_nil he
  have hnx : setR ρ nx none nx = none := setR_same
  have hag : ∀ x, x < nx → setR ρ nx none x = ρ x := fun x hx => setR_ne (Nat.ne_of_lt hx)
  have conc : (SV.sl nx sz 0 0 0).conc (setR ρ nx none) = (SV.sl 0 sz 0 0 0).conc ρ := by simp [SV.conc, adr, hnx, h.nil]
  have h1 : HInv E (setR ρ nx none) (upd H nx (.own et 0 e0)) (nx + 1) w := by
    refine h.add (row := none) (p := none) (b := .own et 0 e0) ⟨rfl, rfl, rfl, Nat.le_refl _, fun _ _ _ => rfl⟩ (fun _ e => by cases e) (fun _ _ _ _ _ _ e => by cases e) (fun _ _ _ _ _ e => by cases e) (fun q e => by cases e) (fun x hx => ?_) (fun _ _ _ _ _ _ _ hF => ?_) (fun _ _ _ e => by cases e) ?_ (fun q hq => ?_)
    · have : x ∈ e0.rds := hx
      rw [hr0] at this; cases this
    · obtain ⟨x, hx, _⟩ := hF
      have : x ∈ e0.rds := hx
      rw [hr0] at this; cases this
    · simp only [BlkOK]
      rw [he, hall]
      exact ⟨by simp [cells], .inl ⟨by simp [adr, hnx], rfl⟩⟩
    · simp [Blk.keys, Elts.keys, hall, keysOf] at hq
  have hk1 : upd H nx (.own et 0 e0) k = some (.own t c (.lit l)) := by rw [upd_ne (Nat.ne_of_lt hkn)]; exact hk
  refine h1.change hk1 ?_ ?_ (fun _ => rfl) (fun _ => rfl) (fun _ _ => rfl) (fun _ e => by cases e) (fun x hx => by cases hx) (fun _ _ _ _ _ _ _ hF => by obtain ⟨x, hx, _⟩ := hF; cases hx) (fun _ _ _ e => by cases e)
  · have h2 := h.blk k _ hk
    simp only [BlkOK] at h2 ⊢
    have e1 : adr (setR ρ nx none) k 0 = adr ρ k 0 := adr_congr (hag k hkn)
    have e2 : cells (setR ρ nx none) (Elts.lit (l.set f (.sl nx sz 0 0 0))).all = cells ρ (Elts.lit l).all := set_cells hf conc fun q hq => hag q (hk0 q hq)
    have e3 : (Elts.lit (l.set f (.sl nx sz 0 0 0))).sz = (Elts.lit l).sz := by simp [Elts.sz]
    rw [e1, e2, e3]
    exact h2
  · exact set_keys hk0 fun q hq => by simp [SV.keys] at hq; omega
section
variable {P : Program} {E : Env} {N : Nat} {Q : Post} {fr : Nat → Option AV} {H : Nat → Option Blk} {nx : Nat} {code : Code}
theorem awp_nil {k c f sz : Nat} {t et : TypeId} {l : List SV} {e0 : Elts} (hk : H k = some (.own t c (.lit l))) (hf : nth l f = some (.sl 0 sz 0 0 0)) (he : e0.len = 0) (hz : Nat.beq e0.sz sz = true) (hl : ∀ s, e0 ≠ .lit s)
    (h : awp P E N code Q ⟨fr, upd (upd H nx (.own et 0 e0)) k (.own t c (.lit (l.set f (.sl nx sz 0 0 0)))), nx + 1⟩) : awp P E N code Q ⟨fr, H, nx⟩ := by
  unfold awp at *
  intro ρ a w hI
  exact h _ a w ⟨hI.f.mono (fun x hx => setR_ne (Nat.ne_of_lt hx)) (Nat.le_succ _), hI.h.nilBox hk hf he hz⟩
end
end Go.Proofs.YtekpamojojfplaaGreat
