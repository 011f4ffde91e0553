/-
  TEXTS OF THE PROOF, put together: Am17, bIsoO, bAllS, bAutO, bIsoS, bEqM, bMatLaw, bIsoLawH.
-/
import Derived.Test.YtekpamojojfplaaGreatD22
import Derived.Test.YtekpamojojfplaaGreatD28
import Derived.Test.YtekpamojojfplaaGreatD30
import Derived.Test.YtekpamojojfplaaGreatD25
import Derived.Test.YtekpamojojfplaaGreatD14
import Derived.Test.YtekpamojojfplaaGreatD08
import Derived.Test.YtekpamojojfplaaGreatD20
set_option linter.unusedVariables false
set_option linter.unusedSimpArgs false
namespace Go.Proofs.YtekpamojojfplaaGreat
open Go.RowKit
section
variable {P : Program} {E : Env} {N : Nat} {Q : Post} {fr : Nat → Option AV} {H : Nat → Option Blk} {nx : Nat} {l0 rest : List Oper} {code : Code}
theorem Inv.wakeM {ρ : Rho} {a : Act} {w : World} (hI : Inv E N ρ ⟨fr, H, nx⟩ a w) {s k kt sz m cp : Nat} {p q : Int} {t : TypeId} {l1 l2 : List Row} {r : Row} {e : Elts} (hs : fr s = some (.agg [.int p, .int q, .sl k sz 0 m cp])) (hk : H k = some (.al r.a e)) (hkt : H kt = some (.tok t false (l1 ++ r :: l2))) :
    ∃ ρ', Inv E N ρ' ⟨upd fr s (.agg [.int p, .int q, .sl nx sz 0 m cp]), upd (upd (forgetH H) kt (.tok t false (l1 ++ l2))) nx (.own t r.cap (.ints r.xs)), nx + 1⟩ a w := by
  refine ⟨setR ρ nx r.a, ?_, hI.h.wake hkt⟩
  have hb := hI.h.blk k _ hk
  simp only [BlkOK] at hb
  have hf := hI.f.mono (ρ' := setR ρ nx r.a) (nx' := nx + 1) (fun q hq => setR_ne (Nat.ne_of_lt hq)) (Nat.le_succ _)
  refine ⟨hf.defers, hf.size, fun x v hv => ?_, fun x v hv y hy => ?_⟩ <;> dsimp only at hv ⊢
  · by_cases c : x = s
    · subst c
      rw [upd_same] at hv
      cases hv
      rw [hI.f.val _ _ hs]
      simp only [AV.conc, cells, List.map_cons, List.map_nil, SV.conc, adr, setR_same, Nat.zero_mul, hb.1]
    · rw [upd_ne c] at hv; exact hf.val x v hv
  · by_cases c : x = s
    · subst c
      rw [upd_same] at hv
      cases hv
      simp [AV.keys, keysOf, SV.keys] at hy
      omega
    · rw [upd_ne c] at hv; exact hf.key x v hv y hy
theorem awpL_wakeM (s kt : Nat) (l1 l2 : List Row) (r : Row) {k sz m cp : Nat} {p q : Int} {t : TypeId} {e : Elts} (hs : fr s = some (.agg [.int p, .int q, .sl k sz 0 m cp])) (hk : H k = some (.al r.a e)) (hkt : H kt = some (.tok t false (l1 ++ r :: l2)))
    (h : awpL P E N l0 Q rest ⟨upd fr s (.agg [.int p, .int q, .sl nx sz 0 m cp]), upd (upd (forgetH H) kt (.tok t false (l1 ++ l2))) nx (.own t r.cap (.ints r.xs)), nx + 1⟩) : awpL P E N l0 Q rest ⟨fr, H, nx⟩ := by
  unfold awpL at *
  intro ρ a w hI
  obtain ⟨ρ', hI'⟩ := hI.wakeM hs hk hkt
  exact h ρ' a w hI'
end
end Go.Proofs.YtekpamojojfplaaGreat
namespace Go.Proofs.YtekpamojojfplaaGreat
open Go.RowKit
def IsoR (ti : TypeId) (o : Option (Option (Nat × List Int))) (k : Nat) (v : AV) (Hout : List (Nat × Blk)) (n1 : Nat) : Prop := match o with
  | none => v = .tup [.agg zeroM, .one (.bool false), .one (.bool false)] ∧ Hout = [] ∧ n1 = k
  | some none => v = .tup [.agg zeroM, .one (.bool false), .one (.bool true)] ∧ Hout = [] ∧ n1 = k
  | some (some (n, x)) => ∃ cap, v = .tup [.agg [.int n, .int n, .sl k 1 0 x.length cap], .one (.bool true), .one (.bool true)] ∧ Hout = [(k, .own ti cap (.ints x))] ∧ n1 = k + 1
theorem iso_no {r c r' c' : Int} {g h : List Int} (hn : detB r c g = none ∨ detB r' c' h = none ∨ defB r c g = false ∨ defB r' c' h = false) : isoO r c g r' c' h = none := by
  unfold isoO
  rw [if_neg]
  intro hx
  rcases hn with e | e | e | e <;> rw [e] at hx <;> simp at hx
theorem iso_yes {r c r' c' a b : Int} {g h : List Int} (h1 : detB r c g = some a) (h2 : detB r' c' h = some b) (h3 : defB r c g = true) (h4 : defB r' c' h = true) :
    isoO r c g r' c' h = if r ≠ r' ∨ a ≠ b then some none else (allO r.toNat g h 1).map fun L => L.head?.map fun x => (r.toNat, x) := by
  unfold isoO
  rw [h1, h2, h3, h4]; rfl
theorem all_none {n : Nat} {g h : List Int} {most : Nat} (h1 : shO n n h (gdTo g n n) = none) : allO n g h most = none := by unfold allO; rw [h1]; rfl
theorem all_some {n : Nat} {g h : List Int} {most : Nat} {S : List (List Int)} (h1 : shO n n h (gdTo g n n) = some S) : allO n g h most = some (schN g h n most (poolI S) n [] 0) := by unfold allO; rw [h1]; rfl
theorem fnd_one {n : Nat} {new : List (Int × Int × Row)} {x : List Int} (h : Fnd n new [x]) : ∃ r : Row, new = [((n : Int), (n : Int), r)] ∧ r.xs = x := by
  match new, h with
  | [(a, b, r)], h =>
    simp only [Fnd, List.map_cons, List.map_nil, List.cons.injEq, Prod.mk.injEq, and_true] at h
    obtain ⟨rfl, rfl, e⟩ := h
    exact ⟨r, rfl, e⟩
set_option maxRecDepth 100000 in
set_option maxHeartbeats 16000000 in
theorem d_isoOI (r c r' c' : Int) (g h : List Int) (ca cb : Nat) (hl : g.length ≤ 1099511627776) (hl' : h.length ≤ 1099511627776) (hca : g.length ≤ ca) (hcb : h.length ≤ cb) :
    Does Tryz.prog 11 [vM r c 1 g.length ca, vM r' c' 2 h.length cb] [(1, .ro (.ints g)), (2, .ro (.ints h))] 3 (IsoR 3 (isoO r c g r' c' h) 3) := by
  have hdg := d_detOfI r c g ca hl
  have hdh := d_detOfI r' c' h cb hl'
  have hfg := d_defI r c g ca hl hca
  have hfh := d_defI r' c' h cb hl' hcb
  refine Does.intro TT Tryz.func11 rfl (by kernel_rfl) Zz Zz fun E hE => ?_
  cases hG : detB r c g with
  | none =>
    rw [iso_no (.inl hG)]
    rw [hG] at hdg
    cases hH : detB r' c' h
    all_goals rw [hH] at hdh
    all_goals ((repeat' (first | refine stx ?_ | refine zqc (hdg) ?_ | refine zqc (hdh) ?_ | (refine stq ?_ ?_ <;> (intro hc; ((try simp at hc) <;> try contradiction))) | fail)) <;> try (exfalso; omega))
    all_goals exact fin rfl w_3 [] (.tup [.agg zeroM, .one (.bool false), .one (.bool false)]) [] 3 ⟨rfl, rfl, rfl⟩ rfl ⟨trivial, trivial, rfl⟩ rfl
  | some a =>
    rw [hG] at hdg
    cases hH : detB r' c' h with
    | none =>
      rw [iso_no (.inr (.inl hH))]
      rw [hH] at hdh
      ((repeat' (first | refine stx ?_ | refine zqc (hdg) ?_ | refine zqc (hdh) ?_ | (refine stq ?_ ?_ <;> (intro hc; ((try simp at hc) <;> try contradiction))) | fail)) <;> try (exfalso; omega))
      all_goals exact fin rfl w_3 [] (.tup [.agg zeroM, .one (.bool false), .one (.bool false)]) [] 3 ⟨rfl, rfl, rfl⟩ rfl ⟨trivial, trivial, rfl⟩ rfl
    | some b =>
      rw [hH] at hdh
      cases hDG : defB r c g with
      | false =>
        rw [iso_no (.inr (.inr (.inl hDG)))]
        rw [hDG] at hfg
        ((repeat' (first | refine stx ?_ | refine zqc (hdg) ?_ | refine zqc (hdh) ?_ | refine zqc (hfg) ?_ | (refine stq ?_ ?_ <;> (intro hc; ((try simp at hc) <;> try contradiction))) | fail)) <;> try (exfalso; omega))
        all_goals exact fin rfl w_3 [] (.tup [.agg zeroM, .one (.bool false), .one (.bool false)]) [] 3 ⟨rfl, rfl, rfl⟩ rfl ⟨trivial, trivial, rfl⟩ rfl
      | true =>
        rw [hDG] at hfg
        cases hDH : defB r' c' h with
        | false =>
          rw [iso_no (.inr (.inr (.inr hDH)))]
          rw [hDH] at hfh
          ((repeat' (first | refine stx ?_ | refine zqc (hdg) ?_ | refine zqc (hdh) ?_ | refine zqc (hfg) ?_ | refine zqc (hfh) ?_ | (refine stq ?_ ?_ <;> (intro hc; ((try simp at hc) <;> try contradiction))) | fail)) <;> try (exfalso; omega))
          all_goals exact fin rfl w_3 [] (.tup [.agg zeroM, .one (.bool false), .one (.bool false)]) [] 3 ⟨rfl, rfl, rfl⟩ rfl ⟨trivial, trivial, rfl⟩ rfl
        | true =>
          rw [hDH] at hfh
          rw [iso_yes hG hH hDG hDH]
          obtain ⟨n, rfl, rfl, hn, hgx, hgn, -, -, -⟩ := defB_all hDG
          obtain ⟨n', rfl, rfl, hn', hhx, hhn, -, -, -⟩ := defB_all hDH
          by_cases hnn : n = n' ∧ a = b
          · obtain ⟨rfl, rfl⟩ := hnn
            rw [if_neg (by simp), Int.toNat_natCast]
            have hgd := d_gdI n g ca hn hgx hgn
            have hsh := d_shI n n h (gdTo g n n) cb hl' hcb
            have hnn : n * n ≤ 36 := Nat.mul_le_mul hn hn
            cases hS : shO n n h (gdTo g n n) with
            | none =>
              rw [all_none hS]
              rw [hS] at hsh
              ((repeat' (first | refine stp ?_ | refine zqc (hdg) ?_ | refine zqc (hdh) ?_ | refine zqc (hfg) ?_ | refine zqc (hfh) ?_ | (refine stq ?_ ?_ <;> (intro hc; ((try simp at hc) <;> try contradiction))) | fail)) <;> try (exfalso; omega))
              refine awp_held TM [(3, _), (4, _)] sb rfl (fun ρs => ?_)
              refine zt0 ?_
              refine zt1 ?_
              refine w_u [2] kr rfl ⟨?_, trivial⟩
              first | (refine zho ?_) | refine zqb (hgd) ?_ | (refine zqf (hsh) ?_; rintro v Hout n1 ⟨rfl, rfl, rfl⟩; refine ⟨sb, ?_⟩)
              refine w_u [3] kr rfl ⟨?_, trivial⟩
              first | (refine zho ?_) | refine zqb (hgd) ?_ | (refine zqf (hsh) ?_; rintro v Hout n1 ⟨rfl, rfl, rfl⟩; refine ⟨sb, ?_⟩)
              refine zt4 ?_
              refine zt5 ?_
              refine zt6 ?_
              refine zt7 ?_
              refine zt8 ?_
              refine w_v kr ?_
              rotate_left
              all_goals ((repeat' (first | refine stx ?_ | (refine stq ?_ ?_ <;> (intro hc; ((try simp at hc) <;> try contradiction))) | fail)) <;> try (exfalso; omega))
              all_goals exact fin rfl w_3 [] (.tup [.agg zeroM, .one (.bool false), .one (.bool false)]) [] 3 ⟨rfl, rfl, rfl⟩ rfl ⟨trivial, trivial, rfl⟩ rfl
            | some S =>
              rw [all_some hS]
              rw [hS] at hsh
              have hS4 := sh_4000 hS
              ((repeat' (first | refine stp ?_ | refine zqc (hdg) ?_ | refine zqc (hdh) ?_ | refine zqc (hfg) ?_ | refine zqc (hfh) ?_ | (refine stq ?_ ?_ <;> (intro hc; ((try simp at hc) <;> try contradiction))) | fail)) <;> try (exfalso; omega))
              refine awp_held TM [(3, _), (4, _)] sb rfl (fun ρs => ?_)
              refine zt0 ?_
              refine zt1 ?_
              refine w_u [2] kr rfl ⟨?_, trivial⟩
              first | (refine zho ?_) | refine zqb (hgd) ?_ | (refine zqf (hsh) ?_; rintro v Hout n1 ⟨l, cl, hlx, rfl, rfl, rfl⟩; refine ⟨sb, ?_⟩)
              refine w_u [3] kr rfl ⟨?_, trivial⟩
              first | (refine zho ?_) | refine zqb (hgd) ?_ | (refine zqf (hsh) ?_; rintro v Hout n1 ⟨l, cl, hlx, rfl, rfl, rfl⟩; refine ⟨sb, ?_⟩)
              refine zt4 ?_
              refine zt5 ?_
              refine zt6 ?_
              refine zt7 ?_
              refine zt8 ?_
              refine w_v kr ?_
              rotate_left
              have hll : l.length ≤ 4000 := by rw [← hlx] at hS4; simpa [rowsX] using hS4
              have hcs : ∀ r ∈ l, Sm n r.xs := fun r hr => sh_sm hS (by rw [← hlx]; exact List.mem_map.2 ⟨r, hr, rfl⟩)
              have hse := d_search n ca cb cl 1 g h l hn hgx hhx hgn hhn hll hcs (by omega) n [] 0 0 0 0 [] (by simp) (by simp) Zz Zz (by omega) (Nat.le_refl _)
              have hL1 := schN_len (g := g) (h := h) (n := n) (most := 1) (pool := poolI S) (d := n) (rows := []) (k := 0) (by omega)
              rw [hlx] at hse
              change Does _ _ _ _ _ (SchR _ _ _ _ _ _ _ _ _ _ _ _ _ (schN g h n 1 (poolI S) n [] 0)) at hse
              rcases hLL : schN g h n 1 (poolI S) n [] 0 with _ | ⟨x, L⟩
              · rw [hLL] at hse
                ((repeat' (first | refine stx ?_ | (refine awpL_callM [(1, 1), (2, 2), (3, 6), (4, 0), (5, 8), (6, 0)] hse Zz Zz Zz Zz Zz Zz Zz ft rfl ?_; rintro v Hout n1 ⟨new, cap, hF, rfl, rfl, rfl⟩; obtain rfl : new = [] := List.map_eq_nil_iff.1 hF) | (refine stq ?_ ?_ <;> (intro hc; ((try simp at hc) <;> try contradiction))) | fail)) <;> try (exfalso; omega))
                all_goals exact fin rfl w_3 [] (.tup [.agg zeroM, .one (.bool false), .one (.bool true)]) [] 3 ⟨rfl, rfl, rfl⟩ rfl ⟨trivial, trivial, rfl⟩ rfl
              · obtain rfl : L = [] := by
                  rw [hLL] at hL1
                  rw [List.length_cons] at hL1
                  exact List.length_eq_zero_iff.1 (by omega)
                rw [hLL] at hse
                ((repeat' (first | (refine awpL_wakeM 81 10 [] [] r Zz Zz Zz ?_) | refine stx ?_ | (refine awpL_callM [(1, 1), (2, 2), (3, 6), (4, 0), (5, 8), (6, 0)] hse Zz Zz Zz Zz Zz Zz Zz ft rfl ?_; rintro v Hout n1 ⟨new, cap, hF, rfl, rfl, rfl⟩; obtain ⟨r, rfl, rfl⟩ := fnd_one hF; ((first | refine awpL_ghost (Ghost.tell 9 10 (.mats true [((n : Int), (n : Int), r)]) Zz Zz Zz (fun x hx => by rw [List.mem_singleton.1 hx]; exact ⟨rfl, by simp⟩)) ?_ | refine awp_ghost (Ghost.tell 9 10 (.mats true [((n : Int), (n : Int), r)]) Zz Zz Zz (fun x hx => by rw [List.mem_singleton.1 hx]; exact ⟨rfl, by simp⟩)) ?_ | refine awpH_ghost (Ghost.tell 9 10 (.mats true [((n : Int), (n : Int), r)]) Zz Zz Zz (fun x hx => by rw [List.mem_singleton.1 hx]; exact ⟨rfl, by simp⟩)) ?_ | refine awpHop_ghost (Ghost.tell 9 10 (.mats true [((n : Int), (n : Int), r)]) Zz Zz Zz (fun x hx => by rw [List.mem_singleton.1 hx]; exact ⟨rfl, by simp⟩)) ?_); rintro _ _ ⟨rfl, rfl⟩)) | (refine stq ?_ ?_ <;> (intro hc; ((try simp at hc) <;> try contradiction))) | fail)) <;> try (exfalso; omega))
                all_goals exact fin rfl w_3 [(3, 12)] (.tup [.agg [.int n, .int n, .sl 3 1 0 r.xs.length r.cap], .one (.bool true), .one (.bool true)]) [(3, .own 3 r.cap (.ints r.xs))] 4 ⟨r.cap, rfl, rfl, rfl⟩ rfl ⟨trivial, ⟨rfl, trivial⟩, rfl⟩ rfl
          · rw [if_pos (by omega)]
            have hnn2 : ¬ ((n : Int) = (n' : Int) ∧ a = b) := by omega
            ((repeat' (first | refine stx ?_ | refine zqc (hdg) ?_ | refine zqc (hdh) ?_ | refine zqc (hfg) ?_ | refine zqc (hfh) ?_ | (refine stq ?_ ?_ <;> (intro hc; ((try simp at hc) <;> try contradiction))) | fail)) <;> try (exfalso; omega))
            all_goals exact fin rfl w_3 [] (.tup [.agg zeroM, .one (.bool false), .one (.bool true)]) [] 3 ⟨rfl, rfl, rfl⟩ rfl ⟨trivial, trivial, rfl⟩ rfl
end Go.Proofs.YtekpamojojfplaaGreat
namespace Go.Proofs.YtekpamojojfplaaGreat
open Go.RowKit
def allB (r c : Int) (g : List Int) (r' c' : Int) (h : List Int) (most : Nat) : Option (Nat × List (List Int)) := if defB r c g && defB r' c' h && decide (r = r') then (allO r.toNat g h most).map fun L => (r.toNat, L) else none
theorem allB_no {r c r' c' : Int} {g h : List Int} {most : Nat} (hn : defB r c g = false ∨ defB r' c' h = false ∨ r ≠ r') : allB r c g r' c' h most = none := by
  unfold allB
  rw [if_neg]
  intro hx
  rw [Bool.and_eq_true, Bool.and_eq_true, decide_eq_true_eq] at hx
  rcases hn with e | e | e
  · rw [e] at hx; exact absurd hx.1.1 (by decide)
  · rw [e] at hx; exact absurd hx.1.2 (by decide)
  · exact e hx.2
theorem allB_yes {r c c' : Int} {g h : List Int} {most : Nat} (h3 : defB r c g = true) (h4 : defB r c' h = true) : allB r c g r c' h most = (allO r.toNat g h most).map fun L => (r.toNat, L) := by
  unfold allB
  rw [h3, h4]; simp
theorem pool_8000 {l : List Row} {S : List (List Int)} (h : rowsX l = poolI S) (h4 : S.length ≤ 4000) : l.length ≤ 8000 := by
  have := congrArg List.length h
  rw [poolI_len, rowsX, List.length_map] at this
  omega
theorem pool_sm {n : Nat} {g : List Int} {b : Int} {l : List Row} {S : List (List Int)} (h : rowsX l = poolI S) (hS : shO n n g b = some S) : ∀ r ∈ l, Sm n r.xs := fun r hr => by
  have hm : r.xs ∈ poolI S := by rw [← h]; exact List.mem_map.2 ⟨r, hr, rfl⟩
  obtain ⟨v, hv, hx⟩ := List.mem_flatMap.1 hm
  have hs := sh_sm hS hv
  simp only [List.mem_cons, List.not_mem_nil, or_false] at hx
  rcases hx with e | e
  · rw [e]; exact hs
  · rw [e]; exact hs.neg
def AllR (tm ti : TypeId) (o : Option (Nat × List (List Int))) (k : Nat) (v : AV) (Hout : List (Nat × Blk)) (n1 : Nat) : Prop := match o with
  | none => v = .tup [.one (.sl k 3 0 0 0), .one (.bool false)] ∧ Hout = [(k, .own tm 0 (.mats true []))] ∧ n1 = k + 1
  | some (n, L) => ∃ (new : List (Int × Int × Row)) (cap : Nat), Fnd n new L ∧ v = .tup [.one (.sl k 3 0 new.length cap), .one (.bool true)] ∧ Hout = [(k, .own tm cap (.mats false new)), (k + 1, .tok ti false (new.map fun m => m.2.2))] ∧ n1 = k + 2
set_option maxRecDepth 100000 in
set_option maxHeartbeats 16000000 in
theorem d_allS (r c r' c' : Int) (g h : List Int) (ca cb most : Nat) (hl : g.length ≤ 1099511627776) (hl' : h.length ≤ 1099511627776) (hm1 : 1 ≤ most) (hmost : most ≤ 1000) :
    Does Tryz.prog 48 [vM r c 1 g.length ca, vM r' c' 2 h.length cb, vI most] [(1, .ro (.ints g)), (2, .ro (.ints h))] 3 (AllR 26 3 (allB r c g r' c' h most) 3) := by
  have hfg := d_defS r c g ca hl
  have hfh := d_defS r' c' h cb hl'
  refine Does.intro TT Tryz.func48 rfl (by kernel_rfl) Zz Zz fun E hE => ?_
  cases hDG : defB r c g with
  | false =>
    rw [allB_no (.inl hDG)]
    rw [hDG] at hfg
    ((repeat' (first | refine stx ?_ | refine zqc (hfg) ?_ | (refine stq ?_ ?_ <;> (intro hc; ((try simp at hc) <;> try contradiction))) | fail)) <;> try (exfalso; omega))
    all_goals exact fin rfl w_3 [(3, 5)] (.tup [.one (.sl 3 3 0 0 0), .one (.bool false)]) [(3, .own 26 0 (.mats true []))] 4 ⟨rfl, rfl, rfl⟩ rfl ⟨trivial, ⟨rfl, trivial⟩, rfl⟩ rfl
  | true =>
    rw [hDG] at hfg
    cases hDH : defB r' c' h with
    | false =>
      rw [allB_no (.inr (.inl hDH))]
      rw [hDH] at hfh
      ((repeat' (first | refine stx ?_ | refine zqc (hfg) ?_ | refine zqc (hfh) ?_ | (refine stq ?_ ?_ <;> (intro hc; ((try simp at hc) <;> try contradiction))) | fail)) <;> try (exfalso; omega))
      all_goals exact fin rfl w_3 [(3, 5)] (.tup [.one (.sl 3 3 0 0 0), .one (.bool false)]) [(3, .own 26 0 (.mats true []))] 4 ⟨rfl, rfl, rfl⟩ rfl ⟨trivial, ⟨rfl, trivial⟩, rfl⟩ rfl
    | true =>
      rw [hDH] at hfh
      obtain ⟨n, rfl, rfl, hn, hgx, hgn, hgs, -, -⟩ := defB_pos hDG
      obtain ⟨n', rfl, rfl, hn', hhx, hhn, hhs, -, -⟩ := defB_pos hDH
      by_cases hnn : n = n'
      · subst hnn
        rw [allB_yes hDG hDH, Int.toNat_natCast]
        have hnn : n * n ≤ 36 := Nat.mul_le_mul hn hn
        ((repeat' (first | refine stx ?_ | refine zqc (hfg) ?_ | refine zqc (hfh) ?_ | (refine stq ?_ ?_ <;> (intro hc; ((try simp at hc) <;> try contradiction))) | fail)) <;> try (exfalso; omega))
        refine w_G hE (fun i : Nat => i ≤ n) (fun i => n - i)
          (fun i => [(2, vI most), (3, .one (.ptr 3 3 0 0)), (4, .one (.ptr 4 3 0 0)), (8, vI (gdTo g n i)), (9, vI i)])
          (fun _ => [(1, .ro (.ints g)), (2, .ro (.ints h)), (3, .own 26 1 (.lit [.int n, .int n, .sl 1 1 0 g.length ca])), (4, .own 26 1 (.lit [.int n, .int n, .sl 2 1 0 h.length cb]))]) 5 [] 0 (Nat.zero_le _) ⟨w_1, w_2, rfl⟩ ?_
        intro i hi
        by_cases hin : i < n
        · have hin2 : ¬ n ≤ i := by omega
          have hat := d_cellH n n i i g.length ca g rfl hgx (by omega) (by omega) hin hin
          have hmd := gdTo_bd hgn (n := n) i
          have hnx : gdTo g n (i + 1) = max (gdTo g n i) (g.getD (i * n + i) 0) := rfl
          ((repeat' (first | refine stx ?_ | refine zqc (hat) ?_ | (refine stq ?_ ?_ <;> (intro hc; ((try simp at hc) <;> try contradiction))) | fail)) <;> try (exfalso; omega))
          all_goals refine ⟨[], i + 1, hin, w_4, ⟨⟨rfl, rfl, rfl, congrArg some (congrArg vI ?_), rfl, trivial⟩, ⟨rfl, rfl, rfl, rfl, trivial⟩, rfl⟩⟩
          all_goals (rw [hnx]; (try simp only [Int.max_def]); (repeat' split) <;> omega)
        · obtain rfl : i = n := by omega
          have hsh := d_cands i h (gdTo g i i) cb hl'
          cases hS : shO i i h (gdTo g i i) with
          | none =>
            rw [all_none hS]
            rw [hS] at hsh
            ((repeat' (first | refine stx ?_ | ((refine zqe (hsh) ?_); rintro v Hout n1 ⟨rfl, rfl, rfl⟩) | (refine stq ?_ ?_ <;> (intro hc; ((try simp at hc) <;> try contradiction))) | fail)) <;> try (exfalso; omega))
            all_goals exact fin rfl w_3 [(3, 6)] (.tup [.one (.sl 3 3 0 0 0), .one (.bool false)]) [(3, .own 26 0 (.mats true []))] 4 ⟨rfl, rfl, rfl⟩ rfl ⟨trivial, ⟨rfl, trivial⟩, rfl⟩ rfl
          | some S =>
            rw [all_some hS]
            rw [hS] at hsh
            have hS4 := sh_4000 hS
            ((repeat' (first | refine stx ?_ | ((refine zqe (hsh) ?_); rintro v Hout n1 ⟨l, cl, hlx, rfl, rfl, rfl⟩; have hll : l.length ≤ 8000 := pool_8000 hlx hS4; have hse := d_searchS i ca cb cl most g h l hn hgx hhx hgn hhn hgs hhs hll (pool_sm hlx hS) hmost i [] 0 0 0 0 [] (by simp) (by simp) Zz Zz hm1; rw [hlx] at hse) | (refine awpL_ghost (Ghost.forget 8 Zz Zz) ?_; rintro _ _ ⟨rfl, rfl⟩; refine awpL_callM [(1, 1), (2, 2), (3, 5), (4, 7), (5, 8)] hse Zz Zz Zz Zz Zz Zz Zz ft rfl ?_; rintro v Hout n1 ⟨new, cap, hF, rfl, rfl, rfl⟩) | (refine stq ?_ ?_ <;> (intro hc; ((try simp at hc) <;> try contradiction))) | fail)) <;> try (exfalso; omega))
            all_goals exact fin rfl w_3 [(3, 9), (4, 10)] (.tup [.one (.sl 3 3 0 new.length cap), .one (.bool true)]) [(3, .own 26 cap (.mats false new)), (4, .tok 3 false (new.map fun m => m.2.2))] 5 ⟨new, cap, hF, rfl, rfl, rfl⟩ (by rw [Nat.zero_add]; rfl) ⟨trivial, ⟨rfl, rfl, trivial⟩, rfl⟩ rfl
      · rw [allB_no (.inr (.inr (by omega)))]
        have hnn2 : ¬ (n : Int) = (n' : Int) := by omega
        ((repeat' (first | refine stx ?_ | refine zqc (hfg) ?_ | refine zqc (hfh) ?_ | (refine stq ?_ ?_ <;> (intro hc; ((try simp at hc) <;> try contradiction))) | fail)) <;> try (exfalso; omega))
        all_goals exact fin rfl w_3 [(3, 5)] (.tup [.one (.sl 3 3 0 0 0), .one (.bool false)]) [(3, .own 26 0 (.mats true []))] 4 ⟨rfl, rfl, rfl⟩ rfl ⟨trivial, ⟨rfl, trivial⟩, rfl⟩ rfl
end Go.Proofs.YtekpamojojfplaaGreat
namespace Go.Proofs.YtekpamojojfplaaGreat
open Go.RowKit
theorem aut_no {r c : Int} {g : List Int} (h : defB r c g = false) : autO r c g = none := by unfold autO; rw [h]; rfl
theorem aut_yes {n : Nat} {g : List Int} (h : defB n n g = true) : autO n n g = (allO n g g 201).bind fun L => if 200 < L.length then none else some (n, L) := by unfold autO; rw [h, if_pos rfl, Int.toNat_natCast]
set_option maxRecDepth 100000 in
set_option maxHeartbeats 16000000 in
theorem d_autI (r c : Int) (g : List Int) (ca : Nat) (hl : g.length ≤ 1099511627776) (hca : g.length ≤ ca) :
    Does Tryz.prog 15 [vM r c 1 g.length ca] [(1, .ro (.ints g))] 2 (AllR 26 3 (autO r c g) 2) := by
  have hfg := d_defI r c g ca hl hca
  refine Does.intro TT Tryz.func15 rfl (by kernel_rfl) Zz Zz fun E hE => ?_
  cases hDG : defB r c g with
  | false =>
    rw [aut_no hDG]
    rw [hDG] at hfg
    ((repeat' (first | refine stx ?_ | refine zqc (hfg) ?_ | (refine stq ?_ ?_ <;> (intro hc; ((try simp at hc) <;> try contradiction))) | fail)) <;> try (exfalso; omega))
    all_goals exact fin rfl w_3 [(2, 3)] (.tup [.one (.sl 2 3 0 0 0), .one (.bool false)]) [(2, .own 26 0 (.mats true []))] 3 ⟨rfl, rfl, rfl⟩ rfl ⟨trivial, ⟨rfl, trivial⟩, rfl⟩ rfl
  | true =>
    rw [hDG] at hfg
    obtain ⟨n, rfl, rfl, hn, hgx, hgn, -, -, -⟩ := defB_all hDG
    rw [aut_yes hDG]
    have hgd := d_gdI n g ca hn hgx hgn
    have hsh := d_shI n n g (gdTo g n n) ca hl hca
    have hnn : n * n ≤ 36 := Nat.mul_le_mul hn hn
    cases hS : shO n n g (gdTo g n n) with
    | none =>
      rw [all_none hS]
      rw [hS] at hsh
      ((repeat' (first | refine stp ?_ | refine zqc (hfg) ?_ | (refine stq ?_ ?_ <;> (intro hc; ((try simp at hc) <;> try contradiction))) | fail)) <;> try (exfalso; omega))
      refine awp_held TM [(2, _)] sb rfl (fun ρs => ?_)
      refine zt0 ?_
      refine zt1 ?_
      refine w_u [2] kr rfl ⟨?_, trivial⟩
      first | (refine zho ?_) | refine zqb (hgd) ?_ | (refine zqf (hsh) ?_; rintro v Hout n1 ⟨rfl, rfl, rfl⟩; refine ⟨sb, ?_⟩)
      refine w_u [3] kr rfl ⟨?_, trivial⟩
      first | (refine zho ?_) | refine zqb (hgd) ?_ | (refine zqf (hsh) ?_; rintro v Hout n1 ⟨rfl, rfl, rfl⟩; refine ⟨sb, ?_⟩)
      refine zt4 ?_
      refine zt5 ?_
      refine zt6 ?_
      refine zt7 ?_
      refine zt8 ?_
      refine w_v kr ?_
      rotate_left
      all_goals ((repeat' (first | refine stx ?_ | (refine stq ?_ ?_ <;> (intro hc; ((try simp at hc) <;> try contradiction))) | fail)) <;> try (exfalso; omega))
      all_goals exact fin rfl w_3 [(2, 4)] (.tup [.one (.sl 2 3 0 0 0), .one (.bool false)]) [(2, .own 26 0 (.mats true []))] 3 ⟨rfl, rfl, rfl⟩ rfl ⟨trivial, ⟨rfl, trivial⟩, rfl⟩ rfl
    | some S =>
      rw [all_some hS]
      rw [hS] at hsh
      have hS4 := sh_4000 hS
      ((repeat' (first | refine stp ?_ | refine zqc (hfg) ?_ | (refine stq ?_ ?_ <;> (intro hc; ((try simp at hc) <;> try contradiction))) | fail)) <;> try (exfalso; omega))
      refine awp_held TM [(2, _)] sb rfl (fun ρs => ?_)
      refine zt0 ?_
      refine zt1 ?_
      refine w_u [2] kr rfl ⟨?_, trivial⟩
      first | (refine zho ?_) | refine zqb (hgd) ?_ | (refine zqf (hsh) ?_; rintro v Hout n1 ⟨l, cl, hlx, rfl, rfl, rfl⟩; refine ⟨sb, ?_⟩)
      refine w_u [3] kr rfl ⟨?_, trivial⟩
      first | (refine zho ?_) | refine zqb (hgd) ?_ | (refine zqf (hsh) ?_; rintro v Hout n1 ⟨l, cl, hlx, rfl, rfl, rfl⟩; refine ⟨sb, ?_⟩)
      refine zt4 ?_
      refine zt5 ?_
      refine zt6 ?_
      refine zt7 ?_
      refine zt8 ?_
      refine w_v kr ?_
      rotate_left
      have hll : l.length ≤ 4000 := by rw [← hlx] at hS4; simpa [rowsX] using hS4
      have hcs : ∀ r ∈ l, Sm n r.xs := fun r hr => sh_sm hS (by rw [← hlx]; exact List.mem_map.2 ⟨r, hr, rfl⟩)
      have hse := d_search n ca ca cl 201 g g l hn hgx hgx hgn hgn hll hcs (by omega) n [] 0 0 0 0 [] (by simp) (by simp) Zz Zz (by omega) (Nat.le_refl _)
      rw [hlx] at hse
      by_cases hL : 200 < (schN g g n 201 (poolI S) n [] 0).length
      · rw [Option.bind_some, if_pos hL]
        ((repeat' (first | refine stx ?_ | (refine awpL_callM [(1, 1), (2, 1), (3, 3), (4, 0), (5, 5), (6, 0)] hse Zz Zz Zz Zz Zz Zz Zz ft rfl ?_; rintro v Hout n1 ⟨new, cap, hF, rfl, rfl, rfl⟩; have hFl : 200 < new.length := by rw [hF.len]; exact hL) | (refine stq ?_ ?_ <;> (intro hc; ((try simp at hc) <;> try contradiction))) | fail)) <;> try (exfalso; omega))
        all_goals exact fin rfl w_3 [(2, 8)] (.tup [.one (.sl 2 3 0 0 0), .one (.bool false)]) [(2, .own 26 0 (.mats true []))] 3 ⟨rfl, rfl, rfl⟩ rfl ⟨trivial, ⟨rfl, trivial⟩, rfl⟩ rfl
      · rw [Option.bind_some, if_neg hL]
        ((repeat' (first | refine stx ?_ | (refine awpL_callM [(1, 1), (2, 1), (3, 3), (4, 0), (5, 5), (6, 0)] hse Zz Zz Zz Zz Zz Zz Zz ft rfl ?_; rintro v Hout n1 ⟨new, cap, hF, rfl, rfl, rfl⟩; have hFl : ¬ 200 < new.length := by rw [hF.len]; exact hL) | (refine stq ?_ ?_ <;> (intro hc; ((try simp at hc) <;> try contradiction))) | fail)) <;> try (exfalso; omega))
        all_goals exact fin rfl w_3 [(2, 6), (3, 7)] (.tup [.one (.sl 2 3 0 new.length cap), .one (.bool true)]) [(2, .own 26 cap (.mats false new)), (3, .tok 3 false (new.map fun m => m.2.2))] 4 ⟨new, cap, hF, rfl, rfl, rfl⟩ (by rw [Nat.zero_add]; rfl) ⟨trivial, ⟨rfl, rfl, trivial⟩, rfl⟩ rfl
set_option maxRecDepth 100000 in
set_option maxHeartbeats 16000000 in
theorem d_autS (r c : Int) (g : List Int) (ca : Nat) (hl : g.length ≤ 1099511627776) :
    Does Tryz.prog 31 [vM r c 1 g.length ca] [(1, .ro (.ints g))] 2 (AllR 26 3 (autO r c g) 2) := by
  have hall := d_allS r c r c g g ca ca 201 hl hl (by omega) (by omega)
  refine Does.intro TT Tryz.func31 rfl (by kernel_rfl) Zz Zz fun E hE => ?_
  cases hDG : defB r c g with
  | false =>
    rw [aut_no hDG]
    rw [allB_no (.inl hDG)] at hall
    ((repeat' (first | refine stx ?_ | ((refine zqe (hall) ?_); rintro v Hout n1 ⟨rfl, rfl, rfl⟩) | (refine stq ?_ ?_ <;> (intro hc; ((try simp at hc) <;> try contradiction))) | fail)) <;> try (exfalso; omega))
    all_goals exact fin rfl w_3 [(2, 4)] (.tup [.one (.sl 2 3 0 0 0), .one (.bool false)]) [(2, .own 26 0 (.mats true []))] 3 ⟨rfl, rfl, rfl⟩ rfl ⟨trivial, ⟨rfl, trivial⟩, rfl⟩ rfl
  | true =>
    obtain ⟨n, rfl, rfl, hn, hgx, hgn, -, -, -⟩ := defB_all hDG
    rw [aut_yes hDG]
    rw [allB_yes hDG hDG, Int.toNat_natCast] at hall
    cases hA : allO n g g 201 with
    | none =>
      rw [hA] at hall
      ((repeat' (first | refine stx ?_ | ((refine zqe (hall) ?_); rintro v Hout n1 ⟨rfl, rfl, rfl⟩) | (refine stq ?_ ?_ <;> (intro hc; ((try simp at hc) <;> try contradiction))) | fail)) <;> try (exfalso; omega))
      all_goals exact fin rfl w_3 [(2, 4)] (.tup [.one (.sl 2 3 0 0 0), .one (.bool false)]) [(2, .own 26 0 (.mats true []))] 3 ⟨rfl, rfl, rfl⟩ rfl ⟨trivial, ⟨rfl, trivial⟩, rfl⟩ rfl
    | some L =>
      rw [hA] at hall
      by_cases hL : 200 < L.length
      · rw [Option.bind_some, if_pos hL]
        ((repeat' (first | refine stx ?_ | ((refine zqe (hall) ?_); rintro v Hout n1 ⟨new, cap, hF, rfl, rfl, rfl⟩; have hFl : 200 < new.length := by rw [hF.len]; exact hL) | (refine stq ?_ ?_ <;> (intro hc; ((try simp at hc) <;> try contradiction))) | fail)) <;> try (exfalso; omega))
        all_goals exact fin rfl w_3 [(2, 5)] (.tup [.one (.sl 2 3 0 0 0), .one (.bool false)]) [(2, .own 26 0 (.mats true []))] 3 ⟨rfl, rfl, rfl⟩ rfl ⟨trivial, ⟨rfl, trivial⟩, rfl⟩ rfl
      · rw [Option.bind_some, if_neg hL]
        ((repeat' (first | refine stx ?_ | ((refine zqe (hall) ?_); rintro v Hout n1 ⟨new, cap, hF, rfl, rfl, rfl⟩; have hFl : ¬ 200 < new.length := by rw [hF.len]; exact hL) | (refine stq ?_ ?_ <;> (intro hc; ((try simp at hc) <;> try contradiction))) | fail)) <;> try (exfalso; omega))
        all_goals exact fin rfl w_3 [(2, 3), (3, 4)] (.tup [.one (.sl 2 3 0 new.length cap), .one (.bool true)]) [(2, .own 26 cap (.mats false new)), (3, .tok 3 false (new.map fun m => m.2.2))] 4 ⟨new, cap, hF, rfl, rfl, rfl⟩ rfl ⟨trivial, ⟨rfl, rfl, trivial⟩, rfl⟩ rfl
end Go.Proofs.YtekpamojojfplaaGreat
namespace Go.Proofs.YtekpamojojfplaaGreat
open Go.RowKit
theorem all_len {n : Nat} {g h : List Int} {most : Nat} {L : List (List Int)} (h1 : allO n g h most = some L) : L.length ≤ most := by
  obtain ⟨S, -, rfl⟩ := Option.map_eq_some_iff.1 h1
  have := schN_len (g := g) (h := h) (n := n) (most := most) (pool := poolI S) (d := n) (rows := []) (k := 0) (by omega)
  omega
set_option maxRecDepth 100000 in
set_option maxHeartbeats 16000000 in
theorem d_isoOS (r c r' c' : Int) (g h : List Int) (ca cb : Nat) (hl : g.length ≤ 1099511627776) (hl' : h.length ≤ 1099511627776) :
    Does Tryz.prog 12 [vM r c 1 g.length ca, vM r' c' 2 h.length cb] [(1, .ro (.ints g)), (2, .ro (.ints h))] 3 (IsoR 3 (isoO r c g r' c' h) 3) := by
  have hdg := d_detOfS r c g ca hl
  have hdh := d_detOfS r' c' h cb hl'
  have hfg := d_defS r c g ca hl
  have hfh := d_defS r' c' h cb hl'
  refine Does.intro TT Tryz.func12 rfl (by kernel_rfl) Zz Zz fun E hE => ?_
  cases hG : detB r c g with
  | none =>
    rw [iso_no (.inl hG)]
    rw [hG] at hdg
    cases hH : detB r' c' h
    all_goals rw [hH] at hdh
    all_goals ((repeat' (first | refine stx ?_ | refine zqc (hdg) ?_ | refine zqc (hdh) ?_ | (refine stq ?_ ?_ <;> (intro hc; ((try simp at hc) <;> try contradiction))) | fail)) <;> try (exfalso; omega))
    all_goals exact fin rfl w_3 [] (.tup [.agg zeroM, .one (.bool false), .one (.bool false)]) [] 3 ⟨rfl, rfl, rfl⟩ rfl ⟨trivial, trivial, rfl⟩ rfl
  | some a =>
    rw [hG] at hdg
    cases hH : detB r' c' h with
    | none =>
      rw [iso_no (.inr (.inl hH))]
      rw [hH] at hdh
      ((repeat' (first | refine stx ?_ | refine zqc (hdg) ?_ | refine zqc (hdh) ?_ | (refine stq ?_ ?_ <;> (intro hc; ((try simp at hc) <;> try contradiction))) | fail)) <;> try (exfalso; omega))
      all_goals exact fin rfl w_3 [] (.tup [.agg zeroM, .one (.bool false), .one (.bool false)]) [] 3 ⟨rfl, rfl, rfl⟩ rfl ⟨trivial, trivial, rfl⟩ rfl
    | some b =>
      rw [hH] at hdh
      cases hDG : defB r c g with
      | false =>
        rw [iso_no (.inr (.inr (.inl hDG)))]
        rw [hDG] at hfg
        ((repeat' (first | refine stx ?_ | refine zqc (hdg) ?_ | refine zqc (hdh) ?_ | refine zqc (hfg) ?_ | (refine stq ?_ ?_ <;> (intro hc; ((try simp at hc) <;> try contradiction))) | fail)) <;> try (exfalso; omega))
        all_goals exact fin rfl w_3 [] (.tup [.agg zeroM, .one (.bool false), .one (.bool false)]) [] 3 ⟨rfl, rfl, rfl⟩ rfl ⟨trivial, trivial, rfl⟩ rfl
      | true =>
        rw [hDG] at hfg
        cases hDH : defB r' c' h with
        | false =>
          rw [iso_no (.inr (.inr (.inr hDH)))]
          rw [hDH] at hfh
          ((repeat' (first | refine stx ?_ | refine zqc (hdg) ?_ | refine zqc (hdh) ?_ | refine zqc (hfg) ?_ | refine zqc (hfh) ?_ | (refine stq ?_ ?_ <;> (intro hc; ((try simp at hc) <;> try contradiction))) | fail)) <;> try (exfalso; omega))
          all_goals exact fin rfl w_3 [] (.tup [.agg zeroM, .one (.bool false), .one (.bool false)]) [] 3 ⟨rfl, rfl, rfl⟩ rfl ⟨trivial, trivial, rfl⟩ rfl
        | true =>
          rw [hDH] at hfh
          rw [iso_yes hG hH hDG hDH]
          obtain ⟨n, rfl, rfl, hn, hgx, hgn, -, -, -⟩ := defB_all hDG
          obtain ⟨n', rfl, rfl, hn', hhx, hhn, -, -, -⟩ := defB_all hDH
          by_cases hnn : n = n' ∧ a = b
          · obtain ⟨rfl, rfl⟩ := hnn
            rw [if_neg (by simp), Int.toNat_natCast]
            have hall := d_allS n n n n g h ca cb 1 hl hl' (by omega) (by omega)
            rw [allB_yes hDG hDH, Int.toNat_natCast] at hall
            have hnn : n * n ≤ 36 := Nat.mul_le_mul hn hn
            cases hA : allO n g h 1 with
            | none =>
              rw [hA] at hall
              ((repeat' (first | refine stx ?_ | refine zqc (hdg) ?_ | refine zqc (hdh) ?_ | refine zqc (hfg) ?_ | refine zqc (hfh) ?_ | ((refine zqe (hall) ?_); rintro v Hout n1 ⟨rfl, rfl, rfl⟩) | (refine stq ?_ ?_ <;> (intro hc; ((try simp at hc) <;> try contradiction))) | fail)) <;> try (exfalso; omega))
              all_goals exact fin rfl w_3 [] (.tup [.agg zeroM, .one (.bool false), .one (.bool false)]) [] 3 ⟨rfl, rfl, rfl⟩ rfl ⟨trivial, trivial, rfl⟩ rfl
            | some L =>
              rw [hA] at hall
              have hL1 := all_len hA
              rcases L with _ | ⟨x, L⟩
              · ((repeat' (first | refine stx ?_ | refine zqc (hdg) ?_ | refine zqc (hdh) ?_ | refine zqc (hfg) ?_ | refine zqc (hfh) ?_ | ((refine zqe (hall) ?_); rintro v Hout n1 ⟨new, cap, hF, rfl, rfl, rfl⟩; obtain rfl : new = [] := List.map_eq_nil_iff.1 hF) | (refine stq ?_ ?_ <;> (intro hc; ((try simp at hc) <;> try contradiction))) | fail)) <;> try (exfalso; omega))
                all_goals exact fin rfl w_3 [] (.tup [.agg zeroM, .one (.bool false), .one (.bool true)]) [] 3 ⟨rfl, rfl, rfl⟩ rfl ⟨trivial, trivial, rfl⟩ rfl
              · obtain rfl : L = [] := by
                  rw [List.length_cons] at hL1
                  exact List.length_eq_zero_iff.1 (by omega)
                ((repeat' (first | (refine awpL_wakeM 68 7 [] [] r Zz Zz Zz ?_) | refine stx ?_ | refine zqc (hdg) ?_ | refine zqc (hdh) ?_ | refine zqc (hfg) ?_ | refine zqc (hfh) ?_ | ((refine zqe (hall) ?_); rintro v Hout n1 ⟨new, cap, hF, rfl, rfl, rfl⟩; obtain ⟨r, rfl, rfl⟩ := fnd_one hF; ((first | refine awpL_ghost (Ghost.tell 6 7 (.mats true [((n : Int), (n : Int), r)]) Zz Zz Zz (fun x hx => by rw [List.mem_singleton.1 hx]; exact ⟨rfl, by simp⟩)) ?_ | refine awp_ghost (Ghost.tell 6 7 (.mats true [((n : Int), (n : Int), r)]) Zz Zz Zz (fun x hx => by rw [List.mem_singleton.1 hx]; exact ⟨rfl, by simp⟩)) ?_ | refine awpH_ghost (Ghost.tell 6 7 (.mats true [((n : Int), (n : Int), r)]) Zz Zz Zz (fun x hx => by rw [List.mem_singleton.1 hx]; exact ⟨rfl, by simp⟩)) ?_ | refine awpHop_ghost (Ghost.tell 6 7 (.mats true [((n : Int), (n : Int), r)]) Zz Zz Zz (fun x hx => by rw [List.mem_singleton.1 hx]; exact ⟨rfl, by simp⟩)) ?_); rintro _ _ ⟨rfl, rfl⟩)) | (refine stq ?_ ?_ <;> (intro hc; ((try simp at hc) <;> try contradiction))) | fail)) <;> try (exfalso; omega))
                all_goals exact fin rfl w_3 [(3, 9)] (.tup [.agg [.int n, .int n, .sl 3 1 0 r.xs.length r.cap], .one (.bool true), .one (.bool true)]) [(3, .own 3 r.cap (.ints r.xs))] 4 ⟨r.cap, rfl, rfl, rfl⟩ rfl ⟨trivial, ⟨rfl, trivial⟩, rfl⟩ rfl
          · rw [if_pos (by omega)]
            have hnn2 : ¬ ((n : Int) = (n' : Int) ∧ a = b) := by omega
            ((repeat' (first | refine stx ?_ | refine zqc (hdg) ?_ | refine zqc (hdh) ?_ | refine zqc (hfg) ?_ | refine zqc (hfh) ?_ | (refine stq ?_ ?_ <;> (intro hc; ((try simp at hc) <;> try contradiction))) | fail)) <;> try (exfalso; omega))
            all_goals exact fin rfl w_3 [] (.tup [.agg zeroM, .one (.bool false), .one (.bool true)]) [] 3 ⟨rfl, rfl, rfl⟩ rfl ⟨trivial, trivial, rfl⟩ rfl
end Go.Proofs.YtekpamojojfplaaGreat
namespace Go.Proofs.YtekpamojojfplaaGreat
open Go.RowKit
theorem d_eqMatrix (r c r' c' : Int) (xs ys : List Int) (ca cb : Nat) (hl : xs.length ≤ 1099511627776) (hl' : ys.length ≤ 1099511627776) : Does Tryz.prog 24 [vM r c 1 xs.length ca, vM r' c' 2 ys.length cb] [(1, .ro (.ints xs)), (2, .ro (.ints ys))] 3 (Ret (vB (decide (r = r' ∧ c = c' ∧ xs = ys))) 3) := by
 refine Does.intro TT Tryz.func24 rfl (by kernel_rfl) Zz Zz fun E hE => ?_
 (repeat' (first | refine stx ?_ | refine zqc (d_eqIntS xs ys _ _ hl hl') ?_ | (refine stq ?_ ?_ <;> (intro hc; ((try simp at hc) <;> try contradiction))) | fail))
 all_goals refine fin_ret rfl w_3 (congrArg vB ?_) rfl
 all_goals simp_all
def MarksM (k : Int) (t : TypeId) (c n : Nat) (v : AV) (Hout : List (Nat × Blk)) (n1 : Nat) : Prop := v = vI (k + n) ∧ Hout = [(1, .own t c (.ints (marks k n)))] ∧ n1 = 2
theorem d_markMatrix (r c : Int) (xs : List Int) (ca cap : Nat) (k : Int) (hl : xs.length ≤ 1099511627776) (hk : 0 ≤ k) (hk' : k ≤ 4611686018427387904) : Does Tryz.prog 27 [vM r c 1 xs.length ca, vI k] [(1, .own 3 cap (.ints xs))] 2 (MarksM k 3 cap xs.length) := by
 refine Does.intro TT Tryz.func27 rfl (by kernel_rfl) Zz Zz fun E hE => ?_
 (repeat' (first | refine stx ?_ | ((refine zqe (d_markIntS xs _ cap k hl hk hk') ?_); rintro v Hout n1 ⟨rfl, rfl, rfl⟩) | (refine stq ?_ ?_ <;> (intro hc; ((try simp at hc) <;> try contradiction))) | fail))
 exact fin rfl w_3 [] (vI (k + xs.length)) [(1, .own 3 cap (.ints (marks k xs.length)))] 2 ⟨rfl, rfl, rfl⟩ rfl ⟨trivial, ⟨rfl, trivial⟩, rfl⟩ rfl
theorem d_heldMatrix (r c : Int) (n : Nat) (ca : Nat) (k : Int) (hl : n ≤ 1099511627776) (hk : 0 ≤ k) (hk' : k ≤ 4611686018427387904) : Does Tryz.prog 28 [vM r c 1 n ca, vI k] [(1, .ro (.ints (marks k n)))] 2 (Ret (vI (k + n)) 2) := by
 refine Does.intro TT Tryz.func28 rfl (by kernel_rfl) Zz Zz fun E hE => ?_
 ((repeat' (first | refine stx ?_ | refine zqc (d_heldIntS n _ k hl hk hk') ?_ | (refine stq ?_ ?_ <;> (intro hc; ((try simp at hc) <;> try contradiction))) | fail)) <;> try (exfalso; omega))
 all_goals refine fin_ret rfl w_3 (rfl) rfl
end Go.Proofs.YtekpamojojfplaaGreat
namespace Go.Proofs.YtekpamojojfplaaGreat
open Go.RowKit
theorem d_szIntS (xs : List Int) (c : Nat) (l : Int) (h0 : 0 ≤ l ∧ l ≤ 4611686018427387904) (hl : xs.length ≤ 9223372036854775807) : Does Tryz.prog 72 [vS 1 1 0 xs.length c, vI l] [(1, .ro (.ints xs))] 2 (Ret (vI (if l < xs.length then -1 else l - xs.length)) 2) := by
 refine Does.intro TT Tryz.func72 rfl (by kernel_rfl) Zz Zz fun E hE => ?_
 ((repeat' (first | refine stx ?_ | (refine stq ?_ ?_ <;> (intro hc; ((try simp at hc) <;> try contradiction))) | fail)) <;> try (exfalso; omega))
 ·refine fin_ret rfl w_3 (congrArg vI (by rw [if_pos (by omega)])) rfl
 ·refine fin_ret rfl w_3 (congrArg vI (by rw [if_neg (by omega)])) rfl
def szL (l : Int) (n : Nat) : Int := if l < n then -1 else l - n
theorem d_szMatrix (r k : Int) (xs : List Int) (c : Nat) (l : Int) (h0 : 0 ≤ l ∧ l ≤ 4611686018427387904) (hl : xs.length ≤ 9223372036854775807) : Does Tryz.prog 29 [vM r k 1 xs.length c, vI l] [(1, .ro (.ints xs))] 2 (Ret (vI (szL l xs.length)) 2) := by
 refine Does.intro TT Tryz.func29 rfl (by kernel_rfl) Zz Zz fun E hE => ?_
 ((repeat' (first | refine stx ?_ | refine zqc (d_szIntS xs _ _ h0 hl) ?_ | (refine stq ?_ ?_ <;> (intro hc; ((try simp at hc) <;> try contradiction))) | fail)) <;> try (exfalso; omega))
 ·refine fin_ret rfl w_3 (congrArg vI ?_) rfl
  unfold szL; split at hc <;> simp_all <;> omega
 ·refine fin_ret rfl w_3 (congrArg vI ?_) rfl
  rfl
def MadeMx (r k : Int) (xs : List Int) (q : Nat) (v : AV) (Hout : List (Nat × Blk)) (n : Nat) : Prop := ∃ c, xs.length ≤ c ∧ v = .agg [.int r, .int k, .sl q 1 0 xs.length c] ∧ Hout = [(q, .own 3 c (.ints xs))] ∧ n = q + 1
theorem MadeMx.out {r k : Int} {xs : List Int} {q : Nat} : ∀ v Hout n1, MadeMx r k xs q v Hout n1 → ∃ b, Hout = [(q, b)] ∧ n1 = q + 1 ∧ b.keys = [] := fun _ _ _ ⟨c, _, _, h2, h3⟩ => ⟨_, h2, h3, by simp [Blk.keys, Elts.keys, Elts.all, ints_keys]⟩
theorem d_toMatrix (r k : Int) (xs : List Int) (c : Nat) (hl : xs.length ≤ 1099511627776) : Does Tryz.prog 30 [vM r k 1 xs.length c] [(1, .ro (.ints xs))] 2 (MadeMx r k xs 2) := by
 refine Does.intro TT Tryz.func30 rfl (by kernel_rfl) Zz Zz fun E hE => ?_
 (repeat' (first | refine stx ?_ | (refine w_C (d_toIntS xs _ hl) Zz Zz Zz Zz Zz Zz Zz ft Zz Zz (MadeI.out) ?_; rintro v b ⟨c1, hc1, rfl, he, -⟩; cases he) | (refine stq ?_ ?_ <;> (intro hc; ((try simp at hc) <;> try contradiction))) | fail))
 exact fin rfl w_3 [(2, 5)] (.agg [.int r, .int k, .sl 2 1 0 xs.length c1]) [(2, .own 3 c1 (.ints xs))] 3 ⟨c1, hc1, rfl, rfl, rfl⟩ rfl ⟨trivial, ⟨rfl, trivial⟩, rfl⟩ rfl
end Go.Proofs.YtekpamojojfplaaGreat
namespace Go.Proofs.YtekpamojojfplaaGreat
open Go.RowKit
theorem szL_inI {l : Int} {n : Nat} (h : 0 ≤ l ∧ l ≤ 4611686018427387904) (hn : 0 ≤ szL l n) : 0 ≤ szL l n ∧ szL l n ≤ 4611686018427387904 ∧ (n : Int) ≤ l := by
  unfold szL at *; split at hn <;> rename_i c
  · omega
  · rw [if_neg c]; omega
def ZR (kn : Bool) (k : Nat) (v : AV) (Hout : List (Nat × Blk)) (n1 : Nat) : Prop := v = .tup [.agg zeroM, .one (.bool false), .one (.bool kn)] ∧ Hout = [] ∧ n1 = k
theorem iso_form {o : Option (Option (Nat × List Int))} : (∃ kn, ∀ ti k, IsoR ti o k = ZR kn k) ∨ ∃ n ys, o = some (some (n, ys)) := match o with
  | none => .inl ⟨false, fun _ _ => rfl⟩
  | some none => .inl ⟨true, fun _ _ => rfl⟩
  | some (some (n, ys)) => .inr ⟨n, ys, rfl⟩
end Go.Proofs.YtekpamojojfplaaGreat
