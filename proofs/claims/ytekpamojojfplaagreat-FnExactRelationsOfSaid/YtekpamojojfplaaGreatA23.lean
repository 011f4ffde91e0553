/-
  TEXTS OF THE PROOF, put together: Am15, pLead, bGram, pDef.
-/
import Derived.Test.YtekpamojojfplaaGreatA07
import Derived.Test.YtekpamojojfplaaGreatA22
import Derived.Test.YtekpamojojfplaaGreatA16
import Derived.Test.YtekpamojojfplaaGreatA18
set_option linter.unusedVariables false
set_option linter.unusedSimpArgs false
namespace Go.Proofs.YtekpamojojfplaaGreat
open Go.RowKit
section
variable {P : Program} {tab : List (Nat × TD)} {E : Env} {N : Nat} {σ : St} {o : Oper} {c : Prop} {v : AV}
theorem own_storeN {ρ : Rho} {k : Nat} {w : World} {tb : TypeId} {cap o : Nat} {e e' : Elts} {vs : List SV} {p : Nat × Nat} (h : BlkOK ρ k w (.own tb cap e)) (hp : ρ k = some p) (s1 : e'.sz = e.sz) (s2 : e'.len = e.len) (s3 : o + vs.length ≤ e.len * e.sz) (s4 : e'.all = splice e.all o vs) :
    ∃ w', (storeCells (⟨p.1, p.2 + o, none⟩ : Addr) (cells ρ vs)).run P w = .ok () w' ∧ BlkOK ρ k w' (.own tb cap e') ∧ w.grownBy w' (some p.1) := by
  simp only [BlkOK] at h
  obtain ⟨hlen, h | ⟨g, cap', cur, hv, _, hg, hle, hmax, hcur, htake⟩⟩ := h
  · simp [adr, hp] at h
  · have hv2 : p.1 = g ∧ p.2 = 0 ∧ cap = cap' := by simpa [adr, hp, and_assoc] using hv
    obtain ⟨rfl, h0, rfl⟩ := hv2
    have hcl : (cells ρ e.all).length = e.len * e.sz := by simp [cells, Elts.all_len]
    have hmul2 : e.len * e.sz ≤ cap * e.sz := Nat.mul_le_mul_right _ hle
    have hfit : o + (cells ρ vs).length ≤ cur.size := by simp only [cells, List.length_map]; omega
    have hr := run_storeCells_at P p.1 o tb (cells ρ vs) 0 cur w hg (by simpa using hfit) (fun v hv => by
      obtain ⟨s, _, rfl⟩ := List.mem_map.1 hv; exact SV.oneCell)
    simp only [Nat.add_zero] at hr
    rw [h0, Nat.zero_add]
    refine ⟨_, hr, ?_, ⟨rfl, rfl, rfl, by simp, fun k' _ hk' => setRow_other w p.1 k' _ (fun e => hk' (by rw [e]))⟩⟩
    simp only [BlkOK]
    refine ⟨by rw [s1, s2]; simp [cells, s4, splice_len (show o + vs.length ≤ e.all.length by rw [Elts.all_len]; omega), Elts.all_len], .inr ⟨p.1, cap, _, by simp [adr, hp, h0, s2], Nat.zero_le _, setRow_heap w p.1 cur _ tb _ hg, by rw [s2]; exact hle, hmax, ?_, ?_⟩⟩
    · simp only [cells, List.length_map] at hfit
      simp only [List.size_toArray, List.length_append, List.length_take, List.length_drop, Array.length_toList, s1, cells, List.length_map]
      omega
    · rw [s1, s2, s4]
      simp only [splice, cells, List.map_append, List.map_take, List.map_drop]
      rw [show (e.all.map (SV.conc ρ)) = cur.toList.take (e.len * e.sz) from htake.symm]
      apply List.ext_getElem?
      intro n
      simp only [cells, List.length_map] at hfit
      rw [List.getElem?_take]
      have hct : cur.toList.length = cur.size := Array.length_toList
      by_cases hn : n < e.len * e.sz
      · rw [if_pos hn]
        by_cases c1 : n < o
        · rw [List.append_assoc, List.getElem?_append_left (by simp; omega), List.append_assoc, List.getElem?_append_left (by simp; omega)]
          simp only [List.getElem?_take]
          rw [if_pos c1, if_pos c1, if_pos hn]
        · by_cases c2 : n < o + vs.length
          · rw [List.append_assoc, List.getElem?_append_right (by simp; omega), List.getElem?_append_left (by simp; omega)]
            rw [List.append_assoc, List.getElem?_append_right (by simp; omega), List.getElem?_append_left (by simp; omega)]
            congr 1
            simp only [List.length_take]
            omega
          · rw [List.getElem?_append_right (by simp; omega), List.getElem?_append_right (by simp; omega)]
            simp only [List.length_append, List.length_take, List.length_map, List.getElem?_drop, List.getElem?_take]
            rw [if_pos (by omega)]
            congr 1
            omega
      · rw [if_neg hn]
        symm
        apply List.getElem?_eq_none
        simp only [List.length_append, List.length_take, List.length_map, List.length_drop]
        omega
def cpL (l : List Int) (o1 n : Nat) (l2 : List Int) (o2 m : Nat) : List Int := l.take o1 ++ (l2.drop o2).take (Nat.min m n) ++ l.drop (o1 + Nat.min m n)
def sCopy (tab : List (Nat × TD)) (fr : Nat → Option AV) (H : Nat → Option Blk) (t : TypeId) (x y : Operand) : Option (Prop × AV × (Nat → Option Blk)) := match tget tab t, ev fr x, ev fr y with
  | some d, some (.one (.sl k 1 o1 n _)), some (.one (.sl k2 1 o2 m _)) => match d.kind, H k, eltsAt H k2 with
    | .sl et, some (.own tb cap (.ints l)), some (.ints l2) => match tget tab et with
      | some d' => match Nat.beq d'.size 1 with
        | true => some (o1 + n ≤ l.length ∧ o2 + m ≤ l2.length, vI (Nat.min m n : Nat), upd H k (.own tb cap (.ints (cpL l o1 n l2 o2 m))))
        | false => none
      | none => none
    | _, _, _ => none
  | _, _, _ => none
theorem sCopy_sound (hT : Tab P tab) {t : TypeId} {x y : Operand} (ho : o.op = .call ⟨.builtin .copy, #[x, y], #[t, t]⟩) {H' : Nat → Option Blk} (h : sCopy tab σ.fr σ.H t x y = some (c, v, H')) (hc : c) : OpR P o E N σ (det v H' σ.nx) :=
  .of_run fun ρ a w hI => by
    unfold sCopy at h
    split at h
    · rename_i d k o1 n cp1 k2 o2 m cp2 hd hx hy
      split at h
      · rename_i et tb cap l l2 hk hH he2
        split at h
        · rename_i d' hd'
          split at h
          · rename_i hb1
            have hb1 := Nat.eq_of_beq_eq_true hb1
            cases h
            obtain ⟨c1, c2⟩ := hc
            obtain ⟨h1, _⟩ := ev_sound hI.f hI.h.nil hI.h.hb.pos hx
            obtain ⟨h2, _⟩ := ev_sound hI.f hI.h.nil hI.h.hb.pos hy
            obtain ⟨i, hi, hiz, his, hib⟩ := (hT.ok et d' hd').infoE
            have hu := (hT.ok t d hd).slice hk
            have h1' : a.eval x = .slice (adr ρ k (o1 * 1)) n cp1 := h1
            have h2' : a.eval y = .slice (adr ρ k2 (o2 * 1)) m cp2 := h2
            rw [Nat.mul_one] at h1' h2'
            have hrun : ∀ w', (Builtin.copy_ #[t, t] o.type #[.slice (adr ρ k o1) n cp1, .slice (adr ρ k2 o2) m cp2]).run P w = .ok (goInt (Nat.min m n)) w' → (execOp a.eval o).run P w = .ok (.value ((vI (Nat.min m n : Nat)).conc ρ)) w' := fun w' hr => by
              simp only [execOp, ho, resolve]
              simp only [List.map_toArray, List.map_cons, List.map_nil, Sem.run_bind, Sem.run_pure, Result.andThen_ok, invoke, builtin, h1', h2', hr]
              rfl
            have hlen : (cpL l o1 n l2 o2 m).length = l.length := by
              have e1 : Nat.min m n ≤ m := Nat.min_le_left _ _
              have e2 : Nat.min m n ≤ n := Nat.min_le_right _ _
              rw [cpL, List.length_append, List.length_append, List.length_take, List.length_take, List.length_drop, List.length_drop]; omega
            rcases Nat.eq_zero_or_pos (Nat.min m n) with h0 | hpos
            · have hl : cpL l o1 n l2 o2 m = l := by rw [cpL, h0, List.take_zero, List.append_nil, Nat.add_zero, List.take_append_drop]
              have hup : upd σ.H k (.own tb cap (.ints (cpL l o1 n l2 o2 m))) = σ.H := by
                rw [hl]
                funext j
                by_cases e : j = k
                · subst e; rw [upd_same, hH]
                · rw [upd_ne e]
              refine ⟨ρ, w, vI (Nat.min m n : Nat), _, σ.nx, hrun w ?_, ⟨rfl, rfl, rfl⟩, by rw [hup]; exact hI.h, fun _ _ => rfl, Nat.le_refl _, fun k hk => by simp [AV.keys, SV.keys, vI] at hk⟩
              have hlc : ∀ (x : Addr), (loadCells x 0).run P w = .ok #[] w := fun x => by simpa using run_loadCells_list (P := P) w x [] (by simp)
              have his1 : i.size = 1 := by rw [his]; exact hb1
              cases adr ρ k o1 <;> cases adr ρ k2 o2 <;> simp [Builtin.copy_, run_underlying hu, Builtin.lenOf, Builtin.firstCells, sizeOf, typeInfo, hi, his1, h0, storeCells, hlc]
            · have e1 : Nat.min m n ≤ m := Nat.min_le_left _ _
              have e2 : Nat.min m n ≤ n := Nat.min_le_right _ _
              have hb := hI.h.blk k _ hH
              obtain ⟨p, hp, _⟩ := hb.at_ (e := .ints l) rfl (by simp only [Elts.len]; omega)
              obtain ⟨p2, hp2, hcell⟩ := eltsAt_sound hI.h.hb he2 (by simp only [Elts.len]; omega)
              have hvl : (((l2.drop o2).take (Nat.min m n)).map SV.int).length = Nat.min m n := by
                rw [List.length_map, List.length_take, List.length_drop]; omega
              obtain ⟨w', hr, hb', hg⟩ := own_storeN (P := P) (o := o1) (e' := .ints (cpL l o1 n l2 o2 m)) (vs := ((l2.drop o2).take (Nat.min m n)).map SV.int) hb hp rfl hlen (by rw [hvl]; simp only [Elts.len, Elts.sz]; omega) (by
                simp only [Elts.all, splice, cpL, List.map_append, List.map_take, List.map_drop]
                rw [show (List.take (Nat.min m n) (List.drop o2 (List.map SV.int l2))).length = Nat.min m n by rw [List.length_take, List.length_drop, List.length_map]; omega])
              refine ⟨ρ, w', vI (Nat.min m n : Nat), _, σ.nx, hrun w' ?_, ⟨rfl, rfl, rfl⟩, hI.h.over hH hp hg hb' (fun k' hk' => by simp [Elts.keys, Elts.all, ints_keys] at hk') (fun x hx => nomatch hx) (fun k1 b1 q g _ _ _ hf => by obtain ⟨x, hx, _⟩ := hf; cases hx), fun _ _ => rfl, Nat.le_refl _, fun k hk => by simp [AV.keys, SV.keys, vI] at hk⟩
              have hld := run_loadCells_list (P := P) w ⟨p2.1, p2.2 + o2, none⟩ (cells ρ (((l2.drop o2).take (Nat.min m n)).map SV.int)) (fun j v hv => by
                rw [Addr.add_none]
                simp only [cells, List.getElem?_map, Option.map_eq_some_iff] at hv
                obtain ⟨s, ⟨u, hu, rfl⟩, rfl⟩ := hv
                rw [List.getElem?_take] at hu
                split at hu
                · rw [List.getElem?_drop] at hu
                  have := hcell (o2 + j) (.int u) (by simp only [Elts.all, List.getElem?_map, hu, Option.map_some])
                  rw [← this, Nat.add_assoc]
                · cases hu)
              have his1 : i.size = 1 := by rw [his]; exact hb1
              have hcl : (cells ρ (((l2.drop o2).take (Nat.min m n)).map SV.int)).length = Nat.min m n := by rw [cells, List.length_map]; exact hvl
              rw [hcl] at hld
              have a1 : adr ρ k o1 = some ⟨p.1, p.2 + o1, none⟩ := by simp [adr, hp]
              have a2 : adr ρ k2 o2 = some ⟨p2.1, p2.2 + o2, none⟩ := by simp [adr, hp2]
              rw [a1, a2]
              rw [List.map_take, List.map_drop] at hr
              simp [Builtin.copy_, run_underlying hu, Builtin.lenOf, Builtin.firstCells, sizeOf, typeInfo, hi, his1, hld, hr]
          · cases h
        · cases h
      · cases h
    · cases h
end
section
variable {P : Program} {tab : List (Nat × TD)} {E : Env} {N : Nat} {Q : Post} {fr : Nat → Option AV} {H : Nat → Option Blk} {nx : Nat} {l0 rest : List Oper} {ρs : Rho} {nxs : Nat} {hs : List (Nat × Blk)} {fuel : Nat} {listed : Array Bool} {o : Oper} {c : Prop} {v : AV} {t : TypeId} {x y : Operand} {H' : Nat → Option Blk} {d : Nat}
theorem awpHop_copy (hT : Tab P tab) (i : Nat) (hi : nth l0 i = some o) (ho : o.op = .call ⟨.builtin .copy, #[x, y], #[t, t]⟩) (hdst : o.dst = some d) (hw : wantA l0 fr o = some true) (hd : inFrame N o.dst = true) (hs' : sCopy tab fr H t x y = some (c, v, H')) (hc : c) (hsub : SubB H' hs) (hk : keysB nxs hs = true)
    (h : awpH P E N l0 Q ρs nxs hs fuel (listed.setIfInBounds i true) ⟨upd fr d v, H', nx⟩) : awpHop P E N l0 Q ρs nxs hs fuel listed i ⟨fr, H, nx⟩ :=
  awpHop_op i hi hw hd hk (sCopy_sound (σ := ⟨fr, H, nx⟩) hT ho hs' hc) fun _ _ _ ⟨e1, e2, e3⟩ => by subst e1 e2 e3; exact ⟨hsub, by rw [hdst]; exact h⟩
end
end Go.Proofs.YtekpamojojfplaaGreat
namespace Go.Proofs.YtekpamojojfplaaGreat
def ldR (xs : List Int) (c k i : Nat) : List Int := (List.range i).flatMap fun p => (xs.drop (p * c)).take k
theorem ldR_next {xs : List Int} {c k i : Nat} : ldR xs c k (i + 1) = ldR xs c k i ++ (xs.drop (i * c)).take k := by simp [ldR, List.range_succ]
theorem ldR_len {xs : List Int} {c k : Nat} (hk : k ≤ c) : ∀ {i : Nat}, i * c ≤ xs.length → (ldR xs c k i).length = i * k
  | 0, _ => by simp [ldR]
  | i + 1, h => by
    rw [Nat.succ_mul] at h
    rw [ldR_next, List.length_append, ldR_len hk (by omega), List.length_take, List.length_drop, Nat.succ_mul]; omega
def ldM (xs : List Int) (c k i : Nat) : List Int := ldR xs c k i ++ List.replicate ((k - i) * k) 0
theorem ldM_len {xs : List Int} {c k i : Nat} (hk : k ≤ c) (hi : i ≤ k) (hx : i * c ≤ xs.length) : (ldM xs c k i).length = k * k := by
  rw [ldM, List.length_append, ldR_len hk hx, List.length_replicate, ← Nat.add_mul, Nat.add_sub_cancel' hi]
theorem ldM_copy {xs : List Int} {c k i : Nat} (hk : k ≤ c) (hi : i < k) (hx : (i + 1) * c ≤ xs.length) : cpL (ldM xs c k i) (i * k) k xs (i * c) k = ldM xs c k (i + 1) := by
  have h1 : i * c ≤ xs.length := by rw [Nat.succ_mul] at hx; omega
  have hl := ldR_len hk h1
  have e : (k - i) * k = k + (k - (i + 1)) * k := by
    rw [show k - i = (k - (i + 1)) + 1 by omega, Nat.succ_mul]; omega
  rw [cpL, show Nat.min k k = k from Nat.min_self k, ldM, ldM, ldR_next]
  congr 1
  · rw [List.take_append_of_le_length (by omega), List.take_of_length_le (by omega)]
  · rw [List.drop_append, List.drop_of_length_le (by omega), List.nil_append, hl, e, Nat.add_sub_cancel_left, List.drop_replicate, Nat.add_sub_cancel_left]
theorem ldM_full {xs : List Int} {c k : Nat} : ldM xs c k k = ldR xs c k k := by simp [ldM]
theorem ldM_zero {xs : List Int} {c k : Nat} : ldM xs c k 0 = List.replicate (k * k) 0 := by simp [ldM, ldR]
theorem ldR_num {xs : List Int} {c k i : Nat} (h : xs.all numB = true) : (ldR xs c k i).all numB = true := by
  rw [List.all_eq_true]
  intro x hx
  obtain ⟨p, _, hp⟩ := List.mem_flatMap.1 hx
  exact List.all_eq_true.1 h x (List.mem_of_mem_drop (List.mem_of_mem_take hp))
def leadTo (xs : List Int) (c : Nat) : Nat → Option (List Int)
  | 0 => some []
  | k + 1 => (leadTo xs c k).bind fun l => (detZ (k + 1) (ldR xs c (k + 1) (k + 1))).map fun d => l ++ [d]
theorem leadTo_len {xs : List Int} {c : Nat} : ∀ {k : Nat} {l : List Int}, leadTo xs c k = some l → l.length = k
  | 0, l, h => by cases h; rfl
  | k + 1, l, h => by
    rw [leadTo, Option.bind_eq_some_iff] at h
    obtain ⟨l0, h1, h2⟩ := h
    obtain ⟨d, h3, rfl⟩ := Option.map_eq_some_iff.1 h2
    rw [List.length_append, leadTo_len h1]; rfl
theorem leadTo_none {xs : List Int} {c k : Nat} (h : leadTo xs c k = none) : ∀ m, leadTo xs c (k + m) = none
  | 0 => h
  | m + 1 => by rw [← Nat.add_assoc, leadTo, leadTo_none h m]; rfl
def leadO (r c : Int) (xs : List Int) : Option (List Int) := if sqB r c xs then leadTo xs c.toNat r.toNat else none
end Go.Proofs.YtekpamojojfplaaGreat
namespace Go.Proofs.YtekpamojojfplaaGreat
open Go.RowKit
def sameM (r c r' c' : Int) (xs ys : List Int) : Bool := decide (r = r' ∧ c = c' ∧ xs = ys)
theorem take_all {xs ys : List Int} {k : Nat} (hl : xs.length = ys.length) (hk : ¬ k < xs.length) (h : xs.take k = ys.take k) : xs = ys := by
  rwa [List.take_of_length_le (by omega), List.take_of_length_le (by omega)] at h
theorem take_next {xs ys : List Int} {k : Nat} (h1 : k < xs.length) (h2 : k < ys.length) (h : xs.take k = ys.take k) (he : xs[k] = ys[k]) : xs.take (k + 1) = ys.take (k + 1) := by
  rw [List.take_succ_eq_append_getElem h1, List.take_succ_eq_append_getElem h2, h, he]
theorem d_equalSl (xs ys : List Int) (c d : Nat) (hl : xs.length ≤ 1099511627776) (hl' : ys.length ≤ 1099511627776) : Does Tryz.prog 58 [vS 1 1 0 xs.length c, vS 2 1 0 ys.length d] [(1, .ro (.ints xs)), (2, .ro (.ints ys))] 3 (Ret (vB (decide (xs = ys))) 3) := by
 refine Does.intro TT Tryz.func58 rfl (by kernel_rfl) Zz Zz fun E hE => ?_
 by_cases he : xs.length = ys.length
 ·((repeat' (first | refine stx ?_ | (refine stq ?_ ?_ <;> (intro hc; ((try simp at hc) <;> try contradiction))) | fail)) <;> try (exfalso; omega))
  refine w_G hE (fun k : Nat => k ≤ xs.length ∧ xs.take k = ys.take k) (fun k => xs.length - k)
   (fun k => [(0, vS 1 1 0 xs.length c), (1, vS 2 1 0 ys.length d), (12, vI xs.length), (13, vI k)]) (fun _ => [(1, .ro (.ints xs)), (2, .ro (.ints ys))]) 3 [] 0 ⟨Nat.zero_le _, rfl⟩ ⟨w_1, w_2, rfl⟩ ?_
  rintro k ⟨h1, h2⟩
  by_cases hk : k < xs.length
  ·have hk' : k < ys.length := by omega
   ((repeat' (first | refine stx ?_ | (refine stq ?_ ?_ <;> (intro hc; ((try simp at hc) <;> try contradiction))) | fail)) <;> try (exfalso; omega))
   ·refine fin_ret rfl w_3 (congrArg vB ?_) rfl
    rw [gD hk, gD hk'] at hc
    symm; apply decide_eq_false; intro e; subst e; exact hc rfl
   ·rw [gD hk, gD hk'] at hc
    exact ⟨[], k + 1, ⟨by omega, take_next hk hk' h2 hc⟩, w_4, ⟨w_1, w_2, rfl⟩⟩
  ·((repeat' (first | refine stx ?_ | (refine stq ?_ ?_ <;> (intro hc; ((try simp at hc) <;> try contradiction))) | fail)) <;> try (exfalso; omega))
   refine fin_ret rfl w_3 (congrArg vB ?_) rfl
   simp [take_all he hk h2]
 ·((repeat' (first | refine stx ?_ | (refine stq ?_ ?_ <;> (intro hc; ((try simp at hc) <;> try contradiction))) | fail)) <;> try (exfalso; omega))
  refine fin_ret rfl w_3 (congrArg vB ?_) rfl
  symm; apply decide_eq_false; intro e; subst e; exact he rfl
theorem d_sameI (r c r' c' : Int) (xs ys : List Int) (ca cb : Nat) (hl : xs.length ≤ 1099511627776) (hl' : ys.length ≤ 1099511627776) : Does Tryz.prog 17 [vM r c 1 xs.length ca, vM r' c' 2 ys.length cb] [(1, .ro (.ints xs)), (2, .ro (.ints ys))] 3 (Ret (vB (sameM r c r' c' xs ys)) 3) := by
 refine Does.intro TT Tryz.func17 rfl (by kernel_rfl) Zz Zz fun E hE => ?_
 have hd := d_equalSl xs ys ca cb hl hl'
 cases he : decide (xs = ys)
 all_goals
  rw [he] at hd
  simp only [decide_eq_false_iff_not, decide_eq_true_eq] at he
  ((repeat' (first | refine stx ?_ | (first | refine w_z (hd) Zz Zz Zz Zz Zz Zz Zz Zz ft Zz Zz ?_ | refine w_A (hd) Zz Zz Zz Zz Zz Zz Zz Zz ft Zz Zz ?_) | (refine stq ?_ ?_ <;> (intro hc; ((try simp at hc) <;> try contradiction))) | fail)) <;> try (exfalso; omega))
 all_goals refine fin_ret rfl w_3 (congrArg vB (by rw [Bool.eq_iff_iff]; simp [sameM, he]; try omega)) rfl
def gramB (r c : Int) (xs : List Int) : Bool := sqB r c xs && decide (turnM xs r.toNat c.toNat = xs)
set_option maxHeartbeats 2000000 in
theorem d_gramI (r c : Int) (xs : List Int) (ca : Nat) (hl : xs.length ≤ 1099511627776) : Does Tryz.prog 62 [vM r c 1 xs.length ca] [(1, .ro (.ints xs))] 2 (Ret (vB (gramB r c xs)) 2) := by
 refine Does.intro TT Tryz.func62 rfl (by kernel_rfl) Zz Zz fun E hE => ?_
 have ht := d_turnI r c xs ca hl
 cases hm : isM r c xs
 ·have hs : gramB r c xs = false := by simp [gramB, sqB, hm]
  unfold TurnZ at ht
  rw [hm] at ht
  ((repeat' (first | refine stx ?_ | ((refine w_E (ht) Zz Zz Zz Zz Zz Zz Zz ft rfl ?_); rintro v Hout n1 ⟨rfl, rfl, rfl⟩) | (refine stq ?_ ?_ <;> (intro hc; ((try simp at hc) <;> try contradiction))) | fail)) <;> try (exfalso; omega))
  refine fin_ret rfl w_3 (congrArg vB hs.symm) rfl
 ·unfold TurnZ at ht
  rw [hm] at ht
  obtain ⟨a, b, rfl, rfl⟩ := isM_pos hm
  obtain ⟨ha, hb, hx, hnum⟩ := isM_nat hm
  simp only [Int.toNat_natCast] at ht
  have hlen : b * a = (turnM xs a b).length := turnM_len.symm
  have hle : (turnM xs a b).length ≤ 1099511627776 := by rw [turnM_len, Nat.mul_comm, ← hx]; exact hl
  rw [hlen] at ht
  have hsm := d_sameI b a a b (turnM xs a b) xs (turnM xs a b).length ca hle hl
  have hg : gramB a b xs = (sqB a b xs && sameM b a a b (turnM xs a b) xs) := by
   rw [Bool.eq_iff_iff]
   simp only [gramB, sameM, Int.toNat_natCast, Bool.and_eq_true, decide_eq_true_eq]
   constructor
   ·rintro ⟨h1, h2⟩
    obtain ⟨n, e1, e2, _⟩ := sqB_dims h1
    exact ⟨h1, by omega, by omega, h2⟩
   ·rintro ⟨h1, _, _, h2⟩
    exact ⟨h1, h2⟩
  rw [hg]
  cases hq : sqB a b xs <;> cases hss : sameM b a a b (turnM xs a b) xs
  all_goals
   rw [hss] at hsm
   ((repeat' (first | refine stx ?_ | ((refine w_E (ht) Zz Zz Zz Zz Zz Zz Zz ft rfl ?_); rintro v Hout n1 ⟨rfl, rfl, rfl⟩) | ((first | refine w_z (d_sqI _ _ _ _ hl) Zz Zz Zz Zz Zz Zz Zz Zz ft Zz Zz ?_ | refine w_A (d_sqI _ _ _ _ hl) Zz Zz Zz Zz Zz Zz Zz Zz ft Zz Zz ?_) <;> simp only [hq]) | (first | refine w_z (hsm) Zz Zz Zz Zz Zz Zz Zz Zz ft Zz Zz ?_ | refine w_A (hsm) Zz Zz Zz Zz Zz Zz Zz Zz ft Zz Zz ?_) | (refine stq ?_ ?_ <;> (intro hc; ((try simp at hc) <;> try contradiction))) | fail)) <;> try (exfalso; omega))
  all_goals refine fin_ret rfl w_3 (rfl) rfl
def symTo (xs : List Int) (n i j : Nat) : Prop := ∀ p q, (p < i ∧ q < p) ∨ (p = i ∧ q < j) → xs.getD (p * n + q) 0 = xs.getD (q * n + p) 0
theorem symTo_next {xs : List Int} {n i j : Nat} (h : symTo xs n i j) (he : xs.getD (i * n + j) 0 = xs.getD (j * n + i) 0) : symTo xs n i (j + 1) := fun p q hpq => by
  by_cases c : p = i ∧ q = j
  · obtain ⟨rfl, rfl⟩ := c; exact he
  · exact h p q (by omega)
theorem symTo_row {xs : List Int} {n i : Nat} (h : symTo xs n i i) : symTo xs n (i + 1) 0 := fun p q hpq => h p q (by omega)
theorem turn_sym {xs : List Int} {n : Nat} (hx : xs.length = n * n) : turnM xs n n = xs ↔ symTo xs n n 0 := by
  have key : turnM xs n n = xs ↔ ∀ p q, p < n → q < n → xs.getD (q * n + p) 0 = xs.getD (p * n + q) 0 := by
    constructor
    · intro h p q hp hq
      have h1 : (turnM xs n n).getD (p * n + q) 0 = xs.getD (q * n + p) 0 := by
        have hlt : p * n + q < n * n := cell_lt hp hq
        obtain ⟨e1, e2⟩ := turn_idx (j := p) hq
        rw [List.getD_eq_getElem?_getD, List.getElem?_eq_getElem (by rw [turnM_len]; exact hlt)]
        simp only [turnM, List.getElem_map, List.getElem_range, e1, e2, Option.getD_some]
      rw [← h1, h]
    · intro h
      apply List.ext_getElem (by rw [turnM_len, hx])
      intro k h1 h2
      simp only [turnM, List.getElem_map, List.getElem_range]
      have hn : 0 < n := by
        rcases Nat.eq_zero_or_pos n with e | e
        · subst e; simp [turnM] at h1
        · exact e
      have hk : k < n * n := by rw [← hx]; exact h2
      have h3 := h (k / n) (k % n) (Nat.div_lt_of_lt_mul hk) (Nat.mod_lt _ hn)
      rw [h3, Nat.mul_comm, Nat.div_add_mod]
      simp [h2]
  rw [key]
  constructor
  · intro h p q hpq
    rcases hpq with ⟨h1, h2⟩ | ⟨_, h2⟩
    · exact (h p q h1 (by omega)).symm
    · omega
  · intro h p q hp hq
    rcases Nat.lt_trichotomy p q with c | c | c
    · exact h q p (.inl ⟨hq, c⟩)
    · subst c; rfl
    · exact (h p q (.inl ⟨hp, c⟩)).symm
set_option maxHeartbeats 2000000 in
theorem d_gramS (r c : Int) (xs : List Int) (ca : Nat) (hl : xs.length ≤ 1099511627776) : Does Tryz.prog 64 [vM r c 1 xs.length ca] [(1, .ro (.ints xs))] 2 (Ret (vB (gramB r c xs)) 2) := by
 refine Does.intro TT Tryz.func64 rfl (by kernel_rfl) Zz Zz fun E hE => ?_
 cases hq : sqB r c xs
 ·have hs : gramB r c xs = false := by simp [gramB, hq]
  ((repeat' (first | refine stx ?_ | (refine stq ?_ ?_ <;> (intro hc; ((try simp at hc) <;> try contradiction))) | fail)) <;> try (exfalso; omega))
  refine w_G hE (fun _ : Nat => True) (fun k => k)
   (fun k => [(1, .one (.ptr 2 3 0 0)), (3, vI 0)]) (fun _ => [(1, .ro (.ints xs)), (2, .own 26 1 (.lit [.int r, .int c, .sl 1 1 0 xs.length ca]))]) 3 [] 0 trivial ⟨w_1, w_2, rfl⟩ ?_
  rintro k -
  ((repeat' (first | refine stx ?_ | ((first | refine w_z (d_sqS _ _ _ _ hl) Zz Zz Zz Zz Zz Zz Zz Zz ft Zz Zz ?_ | refine w_A (d_sqS _ _ _ _ hl) Zz Zz Zz Zz Zz Zz Zz Zz ft Zz Zz ?_) <;> simp only [hq]) | (refine stq ?_ ?_ <;> (intro hc; ((try simp at hc) <;> try contradiction))) | fail)) <;> try (exfalso; omega))
  all_goals refine fin_ret rfl w_3 (congrArg vB hs.symm) rfl
 ·obtain ⟨n, rfl, rfl, hn, hx, hnum⟩ := sqB_dims hq
  have hg : gramB n n xs = decide (turnM xs n n = xs) := by simp [gramB, hq]
  rw [hg]
  ((repeat' (first | refine stx ?_ | (refine stq ?_ ?_ <;> (intro hc; ((try simp at hc) <;> try contradiction))) | fail)) <;> try (exfalso; omega))
  refine w_G hE (fun i : Nat => i ≤ n ∧ symTo xs n i 0) (fun i => n - i)
   (fun i => [(1, .one (.ptr 2 3 0 0)), (3, vI i)]) (fun _ => [(1, .ro (.ints xs)), (2, .own 26 1 (.lit [.int n, .int n, .sl 1 1 0 xs.length ca]))]) 3 [] 0 ⟨Nat.zero_le _, fun p q h => by omega⟩ ⟨w_1, w_2, rfl⟩ ?_
  rintro i ⟨hi, hsy⟩
  by_cases hin : i < n
  ·((repeat' (first | refine stx ?_ | ((first | refine w_z (d_sqS _ _ _ _ hl) Zz Zz Zz Zz Zz Zz Zz Zz ft Zz Zz ?_ | refine w_A (d_sqS _ _ _ _ hl) Zz Zz Zz Zz Zz Zz Zz Zz ft Zz Zz ?_) <;> simp only [hq]) | (refine stq ?_ ?_ <;> (intro hc; ((try simp at hc) <;> try contradiction))) | fail)) <;> try (exfalso; omega))
   refine w_G hE (fun j : Nat => j ≤ i ∧ symTo xs n i j) (fun j => i - j)
    (fun j => [(1, .one (.ptr 2 3 0 0)), (3, vI i), (4, vI j)]) (fun _ => [(1, .ro (.ints xs)), (2, .own 26 1 (.lit [.int n, .int n, .sl 1 1 0 xs.length ca]))]) 3 [] 0 ⟨Nat.zero_le _, hsy⟩ ⟨w_1, w_2, rfl⟩ ?_
   rintro j ⟨hj, hsj⟩
   by_cases hji : j < i
   ·have hjn : j < n := by omega
    have b1 := cell_facts hin hjn (by omega) (show n ≤ 24 by omega)
    have b2 := cell_facts hjn hin (by omega) (show n ≤ 24 by omega)
    rw [← hx] at b1 b2
    have e1 := cell_natT (p := i) (k := j) (c := n)
    have e2 := cell_natT (p := j) (k := i) (c := n)
    have c1 := d_cell12 n n i j xs _ ca rfl (by omega) (by omega) b1.2 hl
    have c2 := d_cell12 n n j i xs _ ca rfl (by omega) (by omega) b2.2 hl
    rw [e1] at c1
    rw [e2] at c2
    ((repeat' (first | refine stx ?_ | (first | refine w_z (c1) Zz Zz Zz Zz Zz Zz Zz Zz ft Zz Zz ?_ | refine w_A (c1) Zz Zz Zz Zz Zz Zz Zz Zz ft Zz Zz ?_) | (first | refine w_z (c2) Zz Zz Zz Zz Zz Zz Zz Zz ft Zz Zz ?_ | refine w_A (c2) Zz Zz Zz Zz Zz Zz Zz Zz ft Zz Zz ?_) | (refine stq ?_ ?_ <;> (intro hc; ((try simp at hc) <;> try contradiction))) | fail)) <;> try (exfalso; omega))
    ·refine fin_ret rfl w_3 (congrArg vB ?_) rfl
     symm; apply decide_eq_false
     intro e
     have := (turn_sym hx).1 e i j (.inl ⟨hin, hji⟩)
     simp only [List.getD_eq_getElem?_getD] at this
     exact hc this
    ·refine ⟨[], j + 1, ⟨by omega, symTo_next hsj (by simp only [List.getD_eq_getElem?_getD]; exact hc)⟩, w_4, ⟨w_1, w_2, rfl⟩⟩
   ·obtain rfl : j = i := by omega
    ((repeat' (first | refine stx ?_ | (refine stq ?_ ?_ <;> (intro hc; ((try simp at hc) <;> try contradiction))) | fail)) <;> try (exfalso; omega))
    exact ⟨[], j + 1, ⟨by omega, symTo_row hsj⟩, w_4, ⟨w_1, w_2, rfl⟩⟩
  ·obtain rfl : i = n := by omega
   ((repeat' (first | refine stx ?_ | ((first | refine w_z (d_sqS _ _ _ _ hl) Zz Zz Zz Zz Zz Zz Zz Zz ft Zz Zz ?_ | refine w_A (d_sqS _ _ _ _ hl) Zz Zz Zz Zz Zz Zz Zz Zz ft Zz Zz ?_) <;> simp only [hq]) | (refine stq ?_ ?_ <;> (intro hc; ((try simp at hc) <;> try contradiction))) | fail)) <;> try (exfalso; omega))
   refine fin_ret rfl w_3 (congrArg vB (by symm; rw [decide_eq_true_eq]; exact (turn_sym hx).2 hsy)) rfl
theorem mulZ_some {r n n' c : Int} {xs ys p : List Int} (h : mulZ r n n' c xs ys = some p) : isM r n xs = true ∧ isM n' c ys = true ∧ n = n' ∧ isM r c p = true := by
  unfold mulZ at h
  split at h
  · rename_i hh
    cases h
    simp only [Bool.and_eq_true, beq_iff_eq] at hh
    obtain ⟨⟨⟨h1, h2⟩, rfl⟩, h3⟩ := hh
    obtain ⟨r, n, rfl, rfl⟩ := isM_pos h1
    obtain ⟨n', c, _, rfl⟩ := isM_pos h2
    obtain ⟨g1, _⟩ := isM_nat h1
    obtain ⟨_, g2, _⟩ := isM_nat h2
    refine ⟨h1, h2, rfl, ?_⟩
    simp only [Int.toNat_natCast] at h3 ⊢
    rw [isM_mul g1 g2]; exact h3
  · cases h
theorem isM_le {r c : Int} {xs : List Int} (h : isM r c xs = true) : xs.length ≤ 576 := by
  obtain ⟨⟨h1, h2, h3, h4, h5⟩, _⟩ := isM_true h
  have := (side_bd h1 h2 h3 h4).2
  omega
theorem isM_turn {a b : Nat} {xs : List Int} (h : isM a b xs = true) : isM b a (turnM xs a b) = true := by
  obtain ⟨h1, h2, h3, h4⟩ := isM_nat h
  have hn : (turnM xs a b).all numB = true := by
    rw [List.all_eq_true]
    intro x hx
    obtain ⟨p, _, rfl⟩ := List.mem_map.1 hx
    exact numB_true.2 (num_getD h4 _)
  simp only [isM, hn, Bool.and_true, decide_eq_true_eq]
  exact ⟨by omega, by omega, by omega, by omega, by rw [turnM_len]; simp⟩
def chgZ (gr gc : Int) (gx : List Int) (ur uc : Int) (ux : List Int) : Option (List Int) := match gramB gr gc gx with
  | true => match mulZ ur uc gr gc ux gx with
    | some p => mulZ ur gc uc ur p (turnM ux ur.toNat uc.toNat)
    | none => none
  | false => none
def isoB (gr gc : Int) (gx : List Int) (hr hc : Int) (hx : List Int) (ur uc : Int) (ux : List Int) : Bool := match chgZ hr hc hx ur uc ux with
  | some z => sameM ur ur gr gc z gx && unimB ur uc ux
  | none => false
end Go.Proofs.YtekpamojojfplaaGreat
namespace Go.Proofs.YtekpamojojfplaaGreat
def posL (l : List Int) : Bool := l.all fun n => decide (0 < n)
def defB (r c : Int) (xs : List Int) : Bool := (match leadO r c xs with
  | some l => posL l
  | none => false) && gramB r c xs
end Go.Proofs.YtekpamojojfplaaGreat
