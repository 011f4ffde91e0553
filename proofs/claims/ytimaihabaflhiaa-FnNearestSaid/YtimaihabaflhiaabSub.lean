/-
  A CONTRACT FOR A PART OF A BLOCK: what is proved for a slice that is all of its block holds for a slice within a longer one.
-/
import Derived.Test.YtimaihabaflhiaaAm7
set_option linter.unusedVariables false
set_option linter.unusedSimpArgs false
namespace Go.Proofs.Ytimaihabaflhiaa
open Go.RowKit

/-- the slices of key k lie o cells further on -/
def SV.off (k o : Nat) : SV → SV
  | .sl k' sz off len cap => bif Nat.beq k' k then .sl k' sz (off + o) len cap else .sl k' sz off len cap
  | s => s
def TV.off (k o : Nat) : TV → TV
  | .one s => .one (s.off k o)
  | .agg l => .agg (l.map (SV.off k o))
def AV.off (k o : Nat) : AV → AV
  | .one s => .one (s.off k o)
  | .agg l => .agg (l.map (SV.off k o))
  | .tup l => .tup (l.map (TV.off k o))
/-- only slices of single cells bear the key k -/
def SV.plain (k : Nat) : SV → Bool
  | .int _ => true
  | .bool _ => true
  | .sl k' sz _ _ _ => Nat.beq sz 1 || !Nat.beq k' k
  | .ptr k' _ _ _ => !Nat.beq k' k
  | .fn _ caps => caps.all fun p => !Nat.beq p.1 k
  | .u8 _ => true
def AV.plain (k : Nat) : AV → Bool
  | .one s => s.plain k
  | .agg l => l.all (SV.plain k)
  | .tup _ => false
def shiftR (ρ : Rho) (k o : Nat) : Rho := fun x => bif Nat.beq x k then (ρ x).map fun p => (p.1, p.2 + o) else ρ x
theorem shiftR_at {ρ : Rho} {k o n : Nat} : adr (shiftR ρ k o) k n = adr ρ k (n + o) := by
  have : Nat.beq k k = true := Nat.beq_refl k
  simp only [adr, shiftR, this, cond_true, Option.map_map]
  congr 1
  funext p
  simp; omega
theorem shiftR_ne {ρ : Rho} {k o x : Nat} (h : Nat.beq x k = false) : shiftR ρ k o x = ρ x := by simp [shiftR, h]
theorem SV.conc_off {ρ : Rho} {k o : Nat} : ∀ {s : SV}, s.plain k = true → s.conc (shiftR ρ k o) = (s.off k o).conc ρ
  | .int _, _ => rfl
  | .bool _, _ => rfl
  | .u8 _, _ => rfl
  | .sl k' sz off len cap, h => by
    cases e : Nat.beq k' k with
    | false => simp only [SV.off, e, cond_false, SV.conc, adr, shiftR_ne e]
    | true =>
      have hk := Nat.eq_of_beq_eq_true e
      subst hk
      simp only [SV.plain, e, Bool.not_true, Bool.or_false] at h
      have hs := Nat.eq_of_beq_eq_true h
      subst hs
      simp only [SV.off, e, cond_true, SV.conc, shiftR_at, Nat.mul_one]
  | .ptr k' sz i f, h => by
    simp only [SV.plain, Bool.not_eq_true'] at h
    simp only [SV.off, SV.conc, adr, shiftR_ne h]
  | .fn f caps, h => by
    simp only [SV.plain, List.all_eq_true, Bool.not_eq_true'] at h
    simp only [SV.off, SV.conc]
    congr 2
    apply List.map_congr_left
    intro p hp
    simp only [adr, shiftR_ne (h p hp)]
theorem AV.conc_off {ρ : Rho} {k o : Nat} : ∀ {v : AV}, v.plain k = true → v.conc (shiftR ρ k o) = (v.off k o).conc ρ
  | .one s, h => SV.conc_off h
  | .agg l, h => by
    simp only [AV.plain, List.all_eq_true] at h
    simp only [AV.conc, AV.off, cells, List.map_map]
    congr 2
    apply List.map_congr_left
    intro s hs
    exact SV.conc_off (h s hs)
  | .tup l, h => by simp [AV.plain] at h
theorem SV.keys_off {k o : Nat} : ∀ {s : SV}, (s.off k o).keys = s.keys
  | .int _ => rfl
  | .bool _ => rfl
  | .sl k' _ _ _ _ => by cases e : Nat.beq k' k <;> simp [SV.off, e, SV.keys]
  | .ptr _ _ _ _ => rfl
  | .fn _ _ => rfl
  | .u8 _ => rfl
theorem AV.keys_off {k o : Nat} : ∀ {v : AV}, v.plain k = true → (v.off k o).keys = v.keys
  | .one s, _ => SV.keys_off
  | .agg l, _ => by
    simp only [AV.off, AV.keys, keysOf, List.flatMap_map]
    congr 1
    funext s
    exact SV.keys_off
  | .tup l, h => by simp [AV.plain] at h
def setB (k : Nat) (b : Blk) : List (Nat × Blk) → List (Nat × Blk)
  | [] => []
  | p :: r => bif Nat.beq p.1 k then (k, b) :: setB k b r else p :: setB k b r
theorem lk_setB {k : Nat} {b : Blk} : ∀ {l : List (Nat × Blk)} {x : Nat}, lk (setB k b l) x = bif Nat.beq x k then (lk l x).map (fun _ => b) else lk l x
  | [], x => by cases Nat.beq x k <;> rfl
  | p :: r, x => by
    have ih := lk_setB (k := k) (b := b) (l := r) (x := x)
    cases e : Nat.beq p.1 k with
    | true =>
      have hp := Nat.eq_of_beq_eq_true e
      simp only [setB, e, cond_true, lk, ih]
      cases e2 : Nat.beq x k with
      | true =>
        have := Nat.eq_of_beq_eq_true e2
        subst this
        simp [hp]
      | false => 
        have : Nat.beq x p.1 = false := by rw [hp]; exact e2
        simp [this]
    | false =>
      simp only [setB, e, cond_false, lk, ih]
      cases e2 : Nat.beq x p.1 with
      | true =>
        have := Nat.eq_of_beq_eq_true e2
        subst this
        simp [e]
      | false => simp
theorem Does.sub {P : Program} {f : FuncId} {args : List AV} {Hin : List (Nat × Blk)} {n0 n : Nat} {v : AV} (hD : Does P f args Hin n0 (Ret v n)) (k o : Nat) {xs big : List Int} (hno : noOwn Hin = true) (hk : lk Hin k = some (.ro (.ints xs))) (hk0 : k ≠ 0) (hv : v.keys = [])
    (hp : args.all (AV.plain k) = true) (hbk : (Hin.all fun p => p.2.keys.all fun q => !Nat.beq q k) = true) (hsub : ∀ j (h : j < xs.length), big[o + j]? = some xs[j]) : Does P f (args.map (AV.off k o)) (setB k (.ro (.ints big)) Hin) n0 (Ret v n) := by
  have hno1 : ∀ x b, lk Hin x = some b → b.isOwn = false := fun x b h => by simpa using List.all_eq_true.1 hno _ (lk_mem h)
  have hno2 : ∀ x b, lk (setB k (.ro (.ints big)) Hin) x = some b → b.isOwn = false := fun x b h => by
    rw [lk_setB] at h
    cases e : Nat.beq x k with
    | true =>
      rw [e, cond_true, Option.map_eq_some_iff] at h
      obtain ⟨_, _, rfl⟩ := h
      rfl
    | false => rw [e] at h; exact hno1 x b h
  have hpl : ∀ u ∈ args, u.plain k = true := fun u hu => List.all_eq_true.1 hp u hu
  refine ⟨hD.fn, fun ρ w hH hkeys => ?_⟩
  have hb0 : ∀ x b, lk Hin x = some b → ∃ b', lk (setB k (.ro (.ints big)) Hin) x = some b' := fun x b h => by
    rw [lk_setB, h]; cases Nat.beq x k <;> simp
  have hkk : BlkOK ρ k w (.ro (.ints big)) := hH.blk k _ (by rw [lk_setB, hk]; simp)
  have hdir : ∀ x b, Nat.beq x k = false → lk Hin x = some b → lk (setB k (.ro (.ints big)) Hin) x = some b := fun x b e h => by rw [lk_setB, e]; exact h
  have hkey : ∀ x b, lk Hin x = some b → x < n0 ∧ ∀ q ∈ b.keys, q < n0 := fun x b h => by
    cases e : Nat.beq x k with
    | false => exact hH.key x b (hdir x b e h)
    | true =>
      have := Nat.eq_of_beq_eq_true e
      subst this
      rw [hk] at h
      cases h
      obtain ⟨b', hb'⟩ := hb0 x _ hk
      exact ⟨(hH.key x b' hb').1, fun q hq => by simp [Blk.keys, Elts.keys, Elts.all, ints_keys] at hq⟩
  have hargs : (args.map (AV.off k o)).map (AV.conc ρ) = args.map (AV.conc (shiftR ρ k o)) := by
    rw [List.map_map]
    apply List.map_congr_left
    intro u hu
    exact (AV.conc_off (hpl u hu)).symm
  rw [hargs]
  have hH2 : HInv (envOf w (shiftR ρ k o) Hin n0) (shiftR ρ k o) (lk Hin) n0 w := by
    refine ⟨by rw [shiftR_ne (nbeq_ne (Ne.symm hk0))]; exact hH.nil, fun x b hb => ?_, fun x b hb => ?_, fun x x' b b' p p' hb _ ho => ?_, fun x b p hb _ hge _ => ?_, fun x b hb ho => ?_, ⟨rfl, rfl, rfl, Nat.le_refl _, fun _ _ _ => rfl⟩, fun _ _ => rfl, Nat.le_refl _, hH.pos⟩
    · cases e : Nat.beq x k with
      | false =>
        refine BlkOK.congr (hH.blk x b (hdir x b e hb)) (shiftR_ne e) fun q hq => shiftR_ne ?_
        have := List.all_eq_true.1 (List.all_eq_true.1 hbk _ (lk_mem hb)) q hq
        simpa using this
      | true =>
        have := Nat.eq_of_beq_eq_true e
        subst this
        rw [hk] at hb
        cases hb
        cases hρ : ρ x with
        | none =>
          have hs : shiftR ρ x o x = none := by simp [shiftR, hρ]
          simp only [BlkOK, hρ, Elts.len] at hkk
          simp only [BlkOK, hs, Elts.len]
          rcases Nat.eq_zero_or_pos xs.length with h0 | h0
          · exact h0
          · have := hsub 0 h0
            rw [List.getElem?_eq_none (by omega)] at this
            cases this
        | some p =>
          have hs : shiftR ρ x o x = some (p.1, p.2 + o) := by simp [shiftR, hρ]
          simp only [BlkOK, hρ] at hkk
          simp only [BlkOK, hs]
          refine ⟨fun h0 => hkk.1 ?_, fun j u hu => ?_⟩
          · simp only [Elts.len] at h0 ⊢
            obtain ⟨h1, _⟩ := List.getElem?_eq_some_iff.1 (hsub 0 h0)
            omega
          · simp only [Elts.all, List.getElem?_map, Option.map_eq_some_iff] at hu
            obtain ⟨m, hm, rfl⟩ := hu
            obtain ⟨hj, rfl⟩ := List.getElem?_eq_some_iff.1 hm
            have := hkk.2 (o + j) (.int xs[j]) (by simp only [Elts.all, List.getElem?_map, hsub j hj]; rfl)
            rw [Nat.add_assoc]
            exact this
    · exact hkey x b hb
    · rw [hno1 _ _ hb] at ho; cases ho
    · exact absurd (hkey x b hb).1 (Nat.not_lt.2 hge)
    · rw [hno1 _ _ hb] at ho; cases ho
  refine Calls.mono (hD.calls _ w hH2 fun u hu q hq => ?_) ?_
  · exact hkeys (u.off k o) (List.mem_map.2 ⟨u, hu, rfl⟩) q (by rw [AV.keys_off (hpl u hu)]; exact hq)
  · rintro e w' ⟨ρ', v', Hout, n1, ⟨rfl, rfl, rfl⟩, rfl, hH', hkv⟩
    refine ⟨fun x => if x < n0 then ρ x else ρ' x, v', [], n1, ⟨rfl, rfl, rfl⟩, congrArg _ (AV.conc_congr fun q hq => by rw [hv] at hq; cases hq), ?_, hkv⟩
    refine ⟨?_, fun x b hb => (by cases hb), fun x b hb => (by cases hb), fun x x' b b' p p' hb => (by cases hb), fun x b p hb => (by cases hb), fun x b hb => (by cases hb), ⟨hH'.keeps.os, hH'.keeps.tape, hH'.keeps.output, hH'.keeps.size, fun b hlt _ => hH'.keeps.block b hlt fun q p _ ho _ => ?_⟩, fun x hx => if_pos hx, hH'.n0, hH.pos⟩
    · show (if 0 < n0 then ρ 0 else ρ' 0) = none
      rw [if_pos (show 0 < n0 from hH.pos)]; exact hH.nil
    · obtain ⟨b', hl, ho⟩ := ho
      rw [hno1 _ _ hl] at ho; cases ho
end Go.Proofs.Ytimaihabaflhiaa
