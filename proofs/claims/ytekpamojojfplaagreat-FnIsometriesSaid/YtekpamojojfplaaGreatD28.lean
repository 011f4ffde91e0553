/-
  TEXTS OF THE PROOF, put together: Am16.
-/
import Derived.Test.YtekpamojojfplaaGreatD07
import Derived.Test.YtekpamojojfplaaGreatD12
import Derived.ArgAppend
set_option linter.unusedVariables false
set_option linter.unusedSimpArgs false
namespace Go.Proofs.YtekpamojojfplaaGreat
open Go.RowKit
section
variable {P : Program} {tab : List (Nat × TD)} {E : Env} {N : Nat} {ρ : Rho} {fr : Nat → Option AV} {H : Nat → Option Blk} {nx : Nat} {w : World} {a : Act} {o : Oper} {c : Prop} {v : AV}
theorem pFieldAddr_all (hT : TabOK P tab) {t : TypeId} {x : Operand} {f : Nat} (ho : o.op = .fieldAddr t x f) (hF : FInv N ρ fr nx a) (hB : HB ρ H nx w) (h : pFieldAddr tab fr H t x f = some (c, v)) (hc : c) (w' : World) : PS P o a w' ρ nx v := by
  unfold pFieldAddr at h
  split at h
  · rename_i d k sz i f0 hd hx
    split at h
    · rename_i fs e hk he
      split at h
      · rename_i of ft hp
        split at h
        · rename_i d' hd'
          split at h
          · cases h
          · rename_i m hm
            cases h
            obtain ⟨h1, h2⟩ := ev_sound hF hB.nil hB.pos hx
            obtain ⟨q, hq, _⟩ := eltsAt_sound hB he (by omega)
            obtain ⟨F, hF1, hF2⟩ := (hT t d hd).struct hk
            rw [nth_eq, ← hF2, List.getElem?_map] at hp
            cases hf : F.toList[f]? with
            | none => rw [hf] at hp; cases hp
            | some fd =>
              rw [hf] at hp
              cases hp
              refine ⟨?_, fun k hk => h2 k hk⟩
              have hf' : F[f]? = some fd := by simpa using hf
              have h1' : a.eval x = .pointer (some ⟨q.1, q.2 + (i * sz + f0), none⟩) := by rw [h1]; simp [AV.conc, SV.conc, adr, hq]
              have hs := (hT _ _ hd').run_size (w := w')
              simp only [execOp, ho, h1']
              simp [Instr.fieldAt, run_underlying hF1, hf', Instr.sureAddr, fieldPlace, hs, hm, Addr.add_none, AV.conc, SV.conc, adr, hq, Nat.add_assoc]
        · cases h
      · cases h
    · cases h
  · cases h
theorem pNilCheck_all {x : Operand} (ho : o.op = .nilCheck x) (hF : FInv N ρ fr nx a) (hB : HB ρ H nx w) (h : pNilCheck fr H x = some (c, v)) (hc : c) (w' : World) : PS P o a w' ρ nx v := by
  unfold pNilCheck at h
  split at h
  · rename_i k sz i f hx
    split at h
    · rename_i e he
      cases h
      obtain ⟨h1, h2⟩ := ev_sound hF hB.nil hB.pos hx
      obtain ⟨q, hq, _⟩ := eltsAt_sound hB he hc
      have h1' : a.eval x = .pointer (some ⟨q.1, q.2 + (i * sz + f), none⟩) := by rw [h1]; simp [AV.conc, SV.conc, adr, hq]
      refine ⟨?_, h2⟩
      simp only [execOp, ho, h1']
      simp [AV.conc, SV.conc, adr, hq]
    · cases h
  · rename_i f l hx
    cases h
    obtain ⟨h1, h2⟩ := ev_sound hF hB.nil hB.pos hx
    have h1' : a.eval x = .func (.func f) #[] (l.map fun k => Value.pointer (adr ρ k.1 0)).toArray := h1
    refine ⟨?_, h2⟩
    simp only [execOp, ho, h1']
    simp [AV.conc, SV.conc]
  · cases h
end
section
variable {P : Program} {tab : List (Nat × TD)} {E : Env} {N : Nat} {σ : St} {o : Oper} {c : Prop} {v : AV} {R : AV → (Nat → Option Blk) → Nat → Prop}
def appOutF (H : Nat → Option Blk) (nx : Nat) (et sz n : Nat) (e' : Elts) (m : Nat) : AV → (Nat → Option Blk) → Nat → Prop := fun v H' nx' =>
  ∃ c, n + m ≤ c ∧ v = .one (.sl nx sz 0 (n + m) c) ∧ H' = upd H nx (.own et c e') ∧ nx' = nx + 1
def sAppF (tab : List (Nat × TD)) (fr : Nat → Option AV) (H : Nat → Option Blk) (nx : Nat) (t : TypeId) (x y : Operand) : Option (Prop × (AV → (Nat → Option Blk) → Nat → Prop)) := match tget tab t, ev fr x, ev fr y with
  | some d, some (.one (.sl k sz off n cap)), some (.one (.sl k2 sz2 o2 m _)) => match d.kind, eltsAt H k, eltsAt H k2 with
    | .sl et, some e, some e2 => match tget tab et, e.sub off n, e2.sub o2 m with
      | some d', some e1, some e3 => match e1.app e3, Nat.beq d'.size sz, Nat.beq e.sz sz, Nat.beq e2.sz sz2, Nat.ble d'.bytes 64 with
        | some e', true, true, true, true => some ((cap = n ∧ 1 ≤ m) ∧ off + n ≤ e.len ∧ o2 + m ≤ e2.len ∧ n + m ≤ 1099511627776, appOutF H nx et sz n e' m)
        | _, _, _, _, _ => none
      | _, _, _ => none
    | _, _, _ => none
  | _, _, _ => none
theorem sub_cells {e e1 : Elts} {o m : Nat} {ρ : Rho} {w : World} {p : Nat × Nat} (h : e.sub o m = some e1) (hle : o + m ≤ e.len) (hcell : ∀ (j : Nat) (u : SV), e.all[j]? = some u → w.cell? ⟨p.1, p.2 + j, none⟩ = some (u.conc ρ)) :
    (cells ρ e1.all).length = m * e.sz ∧ ∀ j u, (cells ρ e1.all)[j]? = some u → w.cell? ((⟨p.1, p.2 + o * e.sz, none⟩ : Addr).add j) = some u := by
  obtain ⟨s1, s2, s3⟩ := Elts.sub_sound h hle
  refine ⟨?_, fun j u hu => ?_⟩
  · have := Elts.all_len e1
    simp only [cells, List.length_map, this, s2, s1]
  · rw [Addr.add_none]
    simp only [cells, List.getElem?_map, Option.map_eq_some_iff] at hu
    obtain ⟨s, hs, rfl⟩ := hu
    rw [s3, List.getElem?_take] at hs
    split at hs
    · rw [List.getElem?_drop] at hs
      have := hcell _ s hs
      rw [← this, Nat.add_assoc]
    · cases hs
theorem sAppF_sound (hT : Tab P tab) {t : TypeId} {x y : Operand} (ho : o.op = .call ⟨.builtin .append, #[x, y], #[t, t]⟩) (h : sAppF tab σ.fr σ.H σ.nx t x y = some (c, R)) (hc : c) : OpR P o E N σ R :=
  .of_run fun ρ a w hI => by
    unfold sAppF at h
    split at h
    · rename_i d k sz off n cap k2 sz2 o2 m cap2 hd hx hy
      split at h
      · rename_i et e e2 hk he he2
        split at h
        · rename_i d' e1 e3 hd' he1 he3
          split at h
          · rename_i e' happ hb2 hb3 hb4 hb5
            have hb2 := Nat.eq_of_beq_eq_true hb2
            have hb3 := Nat.eq_of_beq_eq_true hb3
            have hb4 := Nat.eq_of_beq_eq_true hb4
            have hb5 := Nat.le_of_ble_eq_true hb5
            cases h
            obtain ⟨⟨rfl, c2⟩, c0, c1, c3⟩ := hc
            obtain ⟨h1, _⟩ := ev_sound hI.f hI.h.nil hI.h.hb.pos hx
            obtain ⟨h2, _⟩ := ev_sound hI.f hI.h.nil hI.h.hb.pos hy
            obtain ⟨r1, r2, r3⟩ := Elts.sub_sound he1 c0
            obtain ⟨s1, s2, s3⟩ := Elts.sub_sound he3 c1
            obtain ⟨a1, a2, a3, a4, a5⟩ := Elts.app_sound happ
            obtain ⟨i, hi, hiz, his, hib⟩ := (hT.ok et d' hd').infoE
            obtain ⟨b1, hb1H, hb1e⟩ : ∃ b1, σ.H k = some b1 ∧ b1.elts = some e := by
              unfold eltsAt at he
              split at he
              · exact ⟨_, ‹_›, he⟩
              · cases he
            obtain ⟨b2, hb2H, hb2e⟩ : ∃ b2, σ.H k2 = some b2 ∧ b2.elts = some e2 := by
              unfold eltsAt at he2
              split at he2
              · exact ⟨_, ‹_›, he2⟩
              · cases he2
            have hb1r : ∀ x, x ∈ e.rds → x ∈ b1.rds := fun x hx => by cases b1 <;> cases hb1e <;> exact hx
            have hb2r : ∀ x, x ∈ e2.rds → x ∈ b2.rds := fun x hx => by cases b2 <;> cases hb2e <;> exact hx
            have hrds : ∀ x ∈ e'.rds, ∃ k1 b1, σ.H k1 = some b1 ∧ x ∈ b1.rds := fun x hx => by
              rcases Elts.app_rds happ x hx with h | h
              · exact ⟨k, b1, hb1H, hb1r x (Elts.sub_rds he1 x h)⟩
              · exact ⟨k2, b2, hb2H, hb2r x (Elts.sub_rds he3 x h)⟩
            have hFar : ∀ {cc : Nat} {g : Nat}, (Blk.own et cc e').Far g → ∃ k1 b1, σ.H k1 = some b1 ∧ b1.Far g := fun {cc g} ⟨x, hx, h0, p, hp, hg⟩ => by
              obtain ⟨k1, b1, f1, f2⟩ := hrds x hx
              exact ⟨k1, b1, f1, hg ▸ Blk.Far_rds f2 h0 hp⟩
            have hks : ∀ k' ∈ keysOf e'.all, k' < σ.nx := fun k' hk' => by
              rw [a4] at hk'
              obtain ⟨s, hs, hk'⟩ := List.mem_flatMap.1 hk'
              rcases List.mem_append.1 hs with hs | hs
              · rw [r3] at hs
                exact (eltsAt_keys hI.h.hb he).2 k' (List.mem_flatMap.2 ⟨s, List.mem_of_mem_drop (List.mem_of_mem_take hs), hk'⟩)
              · rw [s3] at hs
                exact (eltsAt_keys hI.h.hb he2).2 k' (List.mem_flatMap.2 ⟨s, List.mem_of_mem_drop (List.mem_of_mem_take hs), hk'⟩)
            obtain ⟨p2, hp2, hcell2⟩ := eltsAt_sound hI.h.hb he2 (by omega)
            obtain ⟨n1, n2⟩ := sub_cells he3 c1 hcell2
            have hsz2 : e2.sz = d'.size := by rw [← s1, a2, r1, hb3, hb2]
            have hsz1 : e.sz = d'.size := by rw [hb3, hb2]
            rw [hsz2] at n1 n2
            have h2' : a.eval y = .slice (some ⟨p2.1, p2.2 + o2 * d'.size, none⟩) m cap2 := by rw [h2]; simp [AV.conc, SV.conc, adr, hp2, ← hb4, hsz2]
            have hbytes : (cap + m) * d'.bytes ≤ 140737488355328 := by
              calc (cap + m) * d'.bytes ≤ 1099511627776 * 64 := Nat.mul_le_mul c3 hb5
                _ ≤ _ := by omega
            have hzs : d'.zeroV.cells.size = d'.size := by rw [zeroV_cells (hT.ok et d' hd') hI.h.nil]; simp [cells, (hT.ok et d' hd').len]
            have hpos : 0 < d'.size := by rw [hb2, ← hb3, ← r1]; exact a5
            have hone : ∀ u ∈ cells ρ e3.all, u.oneCell' = true := fun u hu => by obtain ⟨s, _, rfl⟩ := List.mem_map.1 hu; exact SV.oneCell
            have hrun : ∃ v' w', (Builtin.append_ #[t, t] o.type #[a.eval x, a.eval y]).run P w = .ok v' w' ∧ w'.ownsRow w.heap.size et d'.size v' (cap + m) (cells ρ e1.all ++ cells ρ e3.all) ∧ w.grownBy w' none := by
              cases hp : ρ k with
              | none =>
                have hn0 : cap = 0 := by
                  rcases Nat.eq_zero_or_pos cap with h | h
                  · exact h
                  · obtain ⟨p, hp', _⟩ := eltsAt_sound hI.h.hb he (by omega)
                    rw [hp] at hp'; cases hp'
                subst hn0
                have h1' : a.eval x = .slice none 0 0 := by rw [h1]; simp [AV.conc, SV.conc, adr, hp]
                have he10 : cells ρ e1.all = [] := by rw [r3]; simp [cells]
                rw [h1', h2', he10]
                obtain ⟨v', w', hr, hown, hg, _, hat⟩ := run_append_own_at (P := P) w w.heap.size t o.type et i d'.zeroV d'.size d'.bytes ((hT.ok t d hd).slice hk) hi hiz his hib hzs hpos (.slice none 0 0) 0 [] (World.ownsRow_nil w _ et d'.size) _ m cap2 (cells ρ e3.all) n1 n2 hone (by simp only [maxLen]; omega) hbytes (Nat.le_refl _)
                exact ⟨v', w', hr, hown, hg⟩
              | some p =>
                have h1' : a.eval x = .slice (some ⟨p.1, p.2 + off * d'.size, none⟩) cap cap := by rw [h1]; simp [AV.conc, SV.conc, adr, hp, hb2]
                have hold : (cells ρ e1.all).length = cap * d'.size ∧ ∀ j u, (cells ρ e1.all)[j]? = some u → w.cell? ((⟨p.1, p.2 + off * d'.size, none⟩ : Addr).add j) = some u := by
                  rcases Nat.eq_zero_or_pos cap with h | h
                  · subst h
                    have he10 : cells ρ e1.all = [] := by rw [r3]; simp [cells]
                    rw [he10]
                    exact ⟨by simp, fun j u hu => by simp at hu⟩
                  · obtain ⟨p', hp', hcell1⟩ := eltsAt_sound hI.h.hb he (by omega)
                    rw [hp] at hp'; cases hp'
                    have := sub_cells he1 c0 hcell1
                    rwa [hsz1] at this
                rw [h1', h2']
                exact run_append_arg_grows (P := P) w t o.type et i d'.zeroV d'.size d'.bytes ((hT.ok t d hd).slice hk) hi hiz his hib hzs hpos _ cap cap (cells ρ e1.all) hold.1 hold.2 _ m cap2 (cells ρ e3.all) n1 n2 (by omega) (by simp only [maxLen]; omega) hbytes
            obtain ⟨v', w', hr, hown, hg⟩ := hrun
            have hown' := hown
            obtain ⟨_, ⟨_, h0⟩ | ⟨g, cc, cur, hv, hge, hgc, hle, hmax, hcur, htake⟩⟩ := hown
            · omega
            · subst hv
              have hlt : ∀ k1 b p, σ.H k1 = some b → b.live = true → ρ k1 = some p → p.1 ≠ g := fun k1 b p hu hl hp => Nat.ne_of_lt (Nat.lt_of_lt_of_le ((hI.h.blk k1 b hu).lt hl hp) hge)
              have hfarE : ∀ k1 b g', σ.H k1 = some b → b.Far g' → g ≠ g' := fun k1 b g' hu hf => Nat.ne_of_gt (Nat.lt_of_lt_of_le (hI.h.far_lt hu hf) hge)
              refine ⟨setR ρ σ.nx (some (g, 0)), w', _, _, σ.nx + 1, ?_, ⟨cc, hle, rfl, rfl, rfl⟩, hI.h.add hg (fun _ e => by cases e) (fun _ _ _ _ _ _ e => by cases e) (fun _ _ _ _ _ e => by cases e) ?_ ?_ ?_ (fun _ _ _ e => by cases e) ?_ hks, fun k hk => setR_ne (Nat.ne_of_lt hk), Nat.le_succ _, by simp [AV.keys, SV.keys]⟩
              · simp only [execOp, ho, resolve]
                simp only [List.map_toArray, List.map_cons, List.map_nil, Sem.run_bind, Sem.run_pure, Result.andThen_ok, invoke, builtin, hr]
                simp [AV.conc, SV.conc, adr, setR_same]
              · intro q hq _
                cases hq
                refine ⟨fun _ => .inl (Nat.le_trans hI.h.keeps.size hge), fun _ k1 b p hu hl hp => hlt k1 b p hu hl hp, fun k1 b p hu ho hp => hlt k1 b p hu (by cases b <;> first | rfl | cases ho) hp, fun _ k1 t1 q1 l1 hu r hr p' hp' => hfarE k1 _ p'.1 hu ⟨r, hr, p', hp', rfl⟩, fun _ => ⟨fun k1 b' g' hu hf => hfarE k1 b' g' hu hf, fun g' hf => ?_⟩⟩
                obtain ⟨k3, b3, f1, f2⟩ := hFar hf
                exact hfarE k3 b3 g' f1 f2
              · intro x hx
                obtain ⟨k1, b1, f1, f2⟩ := hrds x hx
                exact (hI.h.rows k1 b1 f1 x f2).grown hg fun p hp h0 e => by cases e
              · intro k1 b1 p1 g' hu ho hp hf
                obtain ⟨k3, b3, f1, f2⟩ := hFar hf
                exact hI.h.far k1 k3 b1 b3 p1 g' hu f1 ho hp f2
              · have hc : cells (setR ρ σ.nx (some (g, 0))) e'.all = cells ρ e1.all ++ cells ρ e3.all := by
                  rw [cells_congr (ρ' := ρ) fun k hk => setR_ne (Nat.ne_of_lt (hks k hk)), a4]; simp [cells]
                simp only [BlkOK, adr, setR_same, Option.map_some, Nat.add_zero, hc, a3, s2, r2, a1, r1, hsz1]
                obtain ⟨l1, l2 | ⟨g1, c1, cur1, hv1, _, l3⟩⟩ := hown'
                · exact ⟨l1, .inl l2⟩
                · exact ⟨l1, .inr ⟨g1, c1, cur1, hv1, Nat.zero_le _, l3⟩⟩
          · cases h
        · cases h
      · cases h
    · cases h
theorem awpL_appF {Q : Post} {fr : Nat → Option AV} {H : Nat → Option Blk} {nx : Nat} (hT : Tab P tab) {l0 rest : List Oper} {o : Oper} {c : Prop} {et sz n m d : Nat} {e' : Elts} {t : TypeId} {x y : Operand} (ho : o.op = .call ⟨.builtin .append, #[x, y], #[t, t]⟩) (hdst : o.dst = some d)
    (hw : wantA l0 fr o = some true) (hd : inFrame N o.dst = true) (hs : sAppF tab fr H nx t x y = some (c, appOutF H nx et sz n e' m)) (hc : c)
    (h : ∀ cap, n + m ≤ cap → awpL P E N l0 Q rest ⟨upd fr d (.one (.sl nx sz 0 (n + m) cap)), upd H nx (.own et cap e'), nx + 1⟩) : awpL P E N l0 Q (o :: rest) ⟨fr, H, nx⟩ :=
  w_H (σ := ⟨fr, H, nx⟩) hw hd (sAppF_sound hT ho hs hc) fun _ _ _ ⟨cap, h1, e1, e2, e3⟩ => by subst e1 e2 e3; rw [hdst]; exact h cap h1
theorem HInv.join {ρ : Rho} {H : Nat → Option Blk} {nx : Nat} {w : World} (h : HInv E ρ H nx w) {k k' : Nat} {t : TypeId} {q : Bool} {l l' : List Row} (hk : H k = some (.tok t q l)) (hk' : H k' = some (.tok t q l')) (hne : k ≠ k') : HInv E ρ (upd (upd H k' .dead) k (.tok t q (l ++ l'))) nx w := by
  have hb := h.blk k _ hk
  have hb' := h.blk k' _ hk'
  simp only [BlkOK] at hb hb'
  have old : ∀ k1 b, upd (upd H k' .dead) k (.tok t q (l ++ l')) k1 = some b → (k1 = k ∧ b = .tok t q (l ++ l')) ∨ (k1 = k' ∧ b = .dead) ∨ (k1 ≠ k ∧ k1 ≠ k' ∧ H k1 = some b) := fun k1 b hu => by
    by_cases e : k1 = k
    · subst e; rw [upd_same] at hu; cases hu; exact .inl ⟨rfl, rfl⟩
    · rw [upd_ne e] at hu
      by_cases e' : k1 = k'
      · subst e'; rw [upd_same] at hu; cases hu; exact .inr (.inl ⟨rfl, rfl⟩)
      · rw [upd_ne e'] at hu; exact .inr (.inr ⟨e, e', hu⟩)
  have mem : ∀ r ∈ l ++ l', (∃ t0 l0, H k = some (.tok t0 q l0) ∧ r ∈ l0) ∨ ∃ t0 l0, H k' = some (.tok t0 q l0) ∧ r ∈ l0 := fun r hr => by
    rcases List.mem_append.1 hr with e | e
    · exact .inl ⟨t, l, hk, e⟩
    · exact .inr ⟨t, l', hk', e⟩
  refine ⟨h.nil, fun k1 b hu => ?_, fun k1 b hu => ?_, fun k1 k2 b1 b2 p1 p2 h1 h2 ho hl hn e1 e2 => ?_, fun k1 b p hu hl ha hn e => ?_, fun k1 b hu ho hn => ?_, h.keeps, h.ent, h.n0, h.pos, fun k1 b hu x hx => ?_, fun k1 k2 b1 b2 p g h1 h2 ho e1 hf => ?_, fun k1 k2 t1 t2 q1 q2 l1 l2 h1 h2 hn r hr r' hr' => ?_, fun k1 t1 q1 l1 h1 r hr p hp => ?_, fun k1 k2 t1 q1 l1 e p h1 h2 hl e1 r hr p' hp' => ?_⟩
  · rcases old k1 b hu with ⟨rfl, rfl⟩ | ⟨rfl, rfl⟩ | ⟨_, _, hu⟩
    · simp only [BlkOK]
      refine ⟨hb.1, fun r hr => ?_, List.pairwise_append.2 ⟨hb.2.2, hb'.2.2, fun r hr r' hr' => h.tt _ _ _ _ _ _ _ _ hk hk' hne r hr r' hr'⟩⟩
      rcases List.mem_append.1 hr with e | e
      · exact hb.2.1 r e
      · exact hb'.2.1 r e
    · trivial
    · exact h.blk k1 b hu
  · rcases old k1 b hu with ⟨rfl, rfl⟩ | ⟨rfl, rfl⟩ | ⟨_, _, hu⟩
    · exact ⟨(h.key _ _ hk).1, fun _ hk => by cases hk⟩
    · exact ⟨(h.key _ _ hk').1, fun _ hk => by cases hk⟩
    · exact h.key k1 b hu
  · rcases old k1 b1 h1 with ⟨rfl, rfl⟩ | ⟨rfl, rfl⟩ | ⟨_, _, g1⟩
    · rw [hb.1] at e1; cases e1
    · cases ho
    · rcases old k2 b2 h2 with ⟨rfl, rfl⟩ | ⟨rfl, rfl⟩ | ⟨_, _, g2⟩
      · rw [hb.1] at e2; cases e2
      · cases hl
      · exact h.inj k1 k2 b1 b2 p1 p2 g1 g2 ho hl hn e1 e2
  · rcases old k1 b hu with ⟨rfl, rfl⟩ | ⟨rfl, rfl⟩ | ⟨_, _, hu⟩
    · rw [hb.1] at e; cases e
    · cases hl
    · exact h.new k1 b p hu hl ha hn e
  · rcases old k1 b hu with ⟨rfl, rfl⟩ | ⟨rfl, rfl⟩ | ⟨_, _, hu⟩
    · exact h.old _ _ hk rfl hn
    · cases ho
    · exact h.old k1 b hu ho hn
  · rcases old k1 b hu with ⟨rfl, rfl⟩ | ⟨rfl, rfl⟩ | ⟨_, _, hu⟩
    · cases hx
    · cases hx
    · exact h.rows k1 b hu x hx
  · rcases old k1 b1 h1 with ⟨rfl, rfl⟩ | ⟨rfl, rfl⟩ | ⟨_, _, g1⟩
    · rw [hb.1] at e1; cases e1
    · cases ho
    · rcases old k2 b2 h2 with ⟨rfl, rfl⟩ | ⟨rfl, rfl⟩ | ⟨_, _, g2⟩
      · obtain ⟨r, hr, p', hp', rfl⟩ := hf
        rcases mem r hr with ⟨t0, l0, hh, hr⟩ | ⟨t0, l0, hh, hr⟩
        · exact h.far k1 _ b1 _ p p'.1 g1 hh ho e1 ⟨r, hr, p', hp', rfl⟩
        · exact h.far k1 _ b1 _ p p'.1 g1 hh ho e1 ⟨r, hr, p', hp', rfl⟩
      · obtain ⟨x, hx, _⟩ := hf; cases hx
      · exact h.far k1 k2 b1 b2 p g g1 g2 ho e1 hf
  · rcases old k1 _ h1 with ⟨rfl, e1⟩ | ⟨rfl, e1⟩ | ⟨n1, n2, g1⟩
    · cases e1
      rcases old k2 _ h2 with ⟨rfl, e2⟩ | ⟨rfl, e2⟩ | ⟨n3, n4, g2⟩
      · exact absurd rfl hn
      · cases e2
      · rcases List.mem_append.1 hr with e | e
        · exact h.tt _ _ _ _ _ _ _ _ hk g2 hn r e r' hr'
        · exact h.tt _ _ _ _ _ _ _ _ hk' g2 (fun e => n4 e.symm) r e r' hr'
    · cases e1
    · rcases old k2 _ h2 with ⟨rfl, e2⟩ | ⟨rfl, e2⟩ | ⟨n3, n4, g2⟩
      · cases e2
        rcases List.mem_append.1 hr' with e | e
        · exact h.tt _ _ _ _ _ _ _ _ g1 hk hn r hr r' e
        · exact h.tt _ _ _ _ _ _ _ _ g1 hk' n2 r hr r' e
      · cases e2
      · exact h.tt _ _ _ _ _ _ _ _ g1 g2 hn r hr r' hr'
  · rcases old k1 _ h1 with ⟨rfl, e1⟩ | ⟨rfl, e1⟩ | ⟨_, _, g1⟩
    · cases e1
      rcases List.mem_append.1 hr with e | e
      · exact h.tw _ _ _ _ hk r e p hp
      · exact h.tw _ _ _ _ hk' r e p hp
    · cases e1
    · exact h.tw _ _ _ _ g1 r hr p hp
  · rcases old k2 _ h2 with ⟨rfl, e2⟩ | ⟨rfl, e2⟩ | ⟨_, _, g2⟩
    · cases e2
    · cases e2
    · rcases old k1 _ h1 with ⟨rfl, e1'⟩ | ⟨rfl, e1'⟩ | ⟨_, _, g1⟩
      · cases e1'
        rcases List.mem_append.1 hr with e3 | e3
        · exact h.tr _ _ _ _ _ _ _ hk g2 hl e1 r e3 p' hp'
        · exact h.tr _ _ _ _ _ _ _ hk' g2 hl e1 r e3 p' hp'
      · cases e1'
      · exact h.tr _ _ _ _ _ _ _ g1 g2 hl e1 r hr p' hp'
theorem Ghost.join {H : Nat → Option Blk} {nx : Nat} (k k' : Nat) {t : TypeId} {q : Bool} {l l' : List Row} (hk : H k = some (.tok t q l)) (hk' : H k' = some (.tok t q l')) (hne : Nat.beq k k' = false) : Ghost E H nx fun H' nx' => H' = upd (upd H k' .dead) k (.tok t q (l ++ l')) ∧ nx' = nx := fun ρ _ h => ⟨_, nx, ρ, ⟨rfl, rfl⟩, h.join hk hk' (nbeq_of hne), fun _ _ => rfl, Nat.le_refl _⟩
theorem awpH_fld {Q : Post} {fr : Nat → Option AV} {H : Nat → Option Blk} {nx : Nat} {l0 : List Oper} {ρs : Rho} {nxs : Nat} {hs : List (Nat × Blk)} {fuel : Nat} {listed : Array Bool} (hT : Tab P tab) (i : Nat) {o : Oper} {c : Prop} {v : AV} {d : Nat} {t : TypeId} {x : Operand} {f : Nat} (hi : nth l0 i = some o) (hsel : Region.noSelect l0.toArray = true) (hf : Region.free .any l0.toArray listed i = true) (hr : (Region.ready .any l0.toArray listed).contains i = true)
    (hQ : ∀ ch σ, Q (.panic ch) σ → False) (hdst : o.dst = some d) (hw : wantA l0 fr o = some true) (hd : Nat.blt d N = true) (ho : o.op = .fieldAddr t x f) (hs' : pFieldAddr tab fr H t x f = some (c, v)) (hc : c)
    (h : awpH P E N l0 Q ρs nxs hs fuel (listed.setIfInBounds i true) ⟨upd fr d v, H, nx⟩) : awpH P E N l0 Q ρs nxs hs (fuel + 1) listed ⟨fr, H, nx⟩ := by
  unfold awpH at h ⊢
  intro ρ a w hh
  have hi' : l0.toArray[i]? = some o := by rw [← hi, nth_eq]; simp
  have hrun : ∀ w', PS P o a w' ρ nx v := fun w' => pFieldAddr_all hT.ok ho hh.inv.f hh.inv.h.hb hs' hc w'
  refine wpAnyH_take (v := v.conc ρ) hi' hsel hf hr (fun ch a' w' ⟨_, _, _, q⟩ => (hQ _ _ q).elim) (.inl ⟨wantA_sound hh.inv.f hw, fun w' _ => (hrun w').1⟩) hh.held ?_
  rw [hdst]
  exact h ρ _ w ⟨⟨hh.inv.f.put (nblt hd) (hrun w).2, hh.inv.h⟩, hh.agree, hh.held, hh.le⟩
theorem awpH_nck {Q : Post} {fr : Nat → Option AV} {H : Nat → Option Blk} {nx : Nat} {l0 : List Oper} {ρs : Rho} {nxs : Nat} {hs : List (Nat × Blk)} {fuel : Nat} {listed : Array Bool} (i : Nat) {o : Oper} {c : Prop} {v : AV} {d : Nat} {x : Operand} (hi : nth l0 i = some o) (hsel : Region.noSelect l0.toArray = true) (hf : Region.free .any l0.toArray listed i = true) (hr : (Region.ready .any l0.toArray listed).contains i = true)
    (hQ : ∀ ch σ, Q (.panic ch) σ → False) (hdst : o.dst = some d) (hw : wantA l0 fr o = some true) (hd : Nat.blt d N = true) (ho : o.op = .nilCheck x) (hs' : pNilCheck fr H x = some (c, v)) (hc : c)
    (h : awpH P E N l0 Q ρs nxs hs fuel (listed.setIfInBounds i true) ⟨upd fr d v, H, nx⟩) : awpH P E N l0 Q ρs nxs hs (fuel + 1) listed ⟨fr, H, nx⟩ := by
  unfold awpH at h ⊢
  intro ρ a w hh
  have hi' : l0.toArray[i]? = some o := by rw [← hi, nth_eq]; simp
  have hrun : ∀ w', PS P o a w' ρ nx v := fun w' => pNilCheck_all ho hh.inv.f hh.inv.h.hb hs' hc w'
  refine wpAnyH_take (v := v.conc ρ) hi' hsel hf hr (fun ch a' w' ⟨_, _, _, q⟩ => (hQ _ _ q).elim) (.inl ⟨wantA_sound hh.inv.f hw, fun w' _ => (hrun w').1⟩) hh.held ?_
  rw [hdst]
  exact h ρ _ w ⟨⟨hh.inv.f.put (nblt hd) (hrun w).2, hh.inv.h⟩, hh.agree, hh.held, hh.le⟩
end
end Go.Proofs.YtekpamojojfplaaGreat
