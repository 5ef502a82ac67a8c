/- The document's table: Drop, Of; the kit's Pairs, LightPairs; same. Conditions: those of its summaries. -/
import Derived.Test.YtmphlckolampoaaGreatDoorRAg
namespace Go.Proofs.YtmphlckolampoaaGreatDoor.tbl
open Go Go.Abs Go.Abs.Rec Go.Proofs
set_option maxRecDepth 100000
set_option linter.unusedVariables false
set_option linter.unusedSimpArgs false
/-- Put one after the other, as the document keeps them. -/
def ofD (l : KL (List Nat × Bool)) : KL (List Nat × Bool) := l.foldl (fun L p => putP L p.1 (p.2.1, false)) []
theorem pf_put (k x : List Nat) : ∀ L : KL (List Nat), putP (pf L) k (x, false) = pf (putP L k x)
 | [] => rfl
 | e :: r => by
  show putP ((e.1, (e.2, false)) :: pf r) k (x, false) = pf (putP (e :: r) k x)
  rw [putP_cons, putP_cons, pf_put k x r]
  split
  ·rfl
  ·split <;> rfl
theorem pf_del (k : List Nat) : ∀ L : KL (List Nat), delP (pf L) k = pf (delP L k)
 | [] => rfl
 | e :: r => by
  have e1 : delP (pf (e :: r)) k = if lessA e.1 k = true then (e.1, (e.2, false)) :: delP (pf r) k else if e.1 = k then pf r else (e.1, (e.2, false)) :: pf r := rfl
  have e2 : delP (e :: r) k = if lessA e.1 k = true then e :: delP r k else if e.1 = k then r else e :: r := rfl
  rw [e1, e2, pf_del k r]
  split
  ·rfl
  ·split <;> rfl
theorem ofD_eq (l : KL (List Nat × Bool)) : ofD l = pf (ofP l) := by
 have key : ∀ (l : KL (List Nat × Bool)) (L : KL (List Nat)), l.foldl (fun L p => putP L p.1 (p.2.1, false)) (pf L) = pf (l.foldl (fun L p => putP L p.1 p.2.1) L) := by
  intro l
  induction l with
  | nil => intro L; rfl
  | cons p l ih =>
   intro L
   rw [List.foldl_cons, List.foldl_cons, pf_put, ih]
 exact key l []
theorem ofD_len (l : KL (List Nat × Bool)) : (ofD l).length ≤ l.length := by
 have key : ∀ (l L : KL (List Nat × Bool)), (l.foldl (fun L p => putP L p.1 (p.2.1, false)) L).length ≤ L.length + l.length := by
  intro l
  induction l with
  | nil => intro L; exact Nat.le_refl _
  | cons p l ih =>
   intro L
   have h1 := ih (putP L p.1 (p.2.1, false))
   have h2 := putP_len p.1 ((p.2.1, false) : List Nat × Bool) L
   rw [List.foldl_cons, List.length_cons]
   omega
 have := key l []
 rw [List.length_nil, Nat.zero_add] at this
 exact this
theorem ofD_take {l : KL (List Nat × Bool)} {i : Nat} {p : Pr} (h : l[i]? = some p) : ofD (l.take (i + 1)) = putP (ofD (l.take i)) p.1 (p.2.1, false) := by
 rw [List.take_add_one, h]
 unfold ofD
 rw [List.foldl_append]; rfl
theorem nePa (h : AH) (k x : List Nat) (g : Bool) : binA Tryz.prog h .neq 51 (.agg [.str k, .str x, .bool g]) (.agg [.str k, .str x, .bool g]) = some (.bool false) := by
 have h1 : eqOk Tryz.prog 51 (.agg [.str k, .str x, .bool g]) (.agg [.str k, .str x, .bool g]) = true := by
  show (!(Tryz.prog.eqGuardType Tryz.prog.depth 51)) = true
  kernel_rfl
 have hl : ∀ b : List Nat, eqL b b = true := fun b => by rw [eqL_eq]; simp
 have hsi : Tryz.prog.stoodInHeld 51 = false := by kernel_rfl
 have hs : ∀ d (b : List Nat), eqA Tryz.prog h (d + 1) 9 (.str b) (.str b) = some true := fun d b => by
  unfold eqA
  rw [Tryz.underlying9]
  simp only [hl]
 have hi : ∀ d (b : Bool), eqA Tryz.prog h (d + 1) 4 (.bool b) (.bool b) = some true := fun d b => by
  unfold eqA
  rw [Tryz.underlying4]
  simp
 have h2 : eqA Tryz.prog h (11 + 1) 51 (.agg [.str k, .str x, .bool g]) (.agg [.str k, .str x, .bool g]) = some true := by
  unfold eqA
  rw [Tryz.underlying51]
  simp only [hsi]
  simp [eqFs, partA, aggT, tz9, tz4, hs 10, hi 10, Tryz.underlying9, Tryz.underlying4]
 show (if eqOk Tryz.prog 51 (.agg [.str k, .str x, .bool g]) (.agg [.str k, .str x, .bool g]) = true then (eqA Tryz.prog h (11 + 1) 51 (.agg [.str k, .str x, .bool g]) (.agg [.str k, .str x, .bool g])).map fun x => AV.bool !x else none) = _
 rw [if_pos h1, h2]
 rfl
section
variable {S : Sums}
set_option maxHeartbeats 16000000 in
theorem dropD (hS : Td S) {h : AH} {lv : AV} {l : KL (List Nat × Bool)} (k : List Nat) (hv : Ps h lv l) (hl : l.length ≤ 100000) : RnC Tryz.prog S 40 [.agg [lv], .str k] h fun r h' => (∃ v', r = .agg [v'] ∧ Ps h' v' (delP l k) ∧ ∀ id o n z c, v' = .sl id o n z c → v' = lv ∨ h.nx ≤ id) ∧ Fr h h' := by
 refine RnC.enter' Tryz.f40 _ 38 [.cell 4 30] (hS.nd _ _ _ (by simp)) bd40 Tryz.func40 rfl rfl rfl ?_
 obtain ⟨lln, sl, ol⟩ := hv.ln
 have om := ol
 unfold oneA at om
 have ha1 : ∀ (o1 o2 : AO), ((h.new o1).new o2).get h.nx = some o1 := fun o1 o2 => (AH.get_new_ne (by simp)).trans (AH.get_new_eq rfl)
 simp (maxSteps := 1000000) -dsimp (disch := (repeat first | rw [nxn] | rw [nxp]); try omega) only [go_sem, ol, om, ha1]
 generalize hg : ((h.new (.cells [lv] true false)).new (.cells [.nilsl] true false)) = g
 have ng : g.nx = h.nx + 2 := by rw [← hg]; rfl
 have fg : Fr h g := by rw [← hg]; exact (Fr.new _ _).news _
 have c0 : g.get h.nx = some (.cells [lv] true false) := by rw [← hg]; exact ha1 _ _
 have c1 : g.get (h.nx + 1) = some (.cells [.nilsl] true false) := by rw [← hg]; exact AH.get_new_eq rfl
 refine callK_of (placeC hS k (hv.fr fg) (by omega)) ?_
 rintro w g2 ⟨rfl, f2⟩
 have hpl := plcP_le l k
 have hpd := del_doc k l
 generalize plcP l k = n at hpl hpd
 have c02 := (f2.get _ (by omega)).trans c0
 have c12 := (f2.get _ (by omega)).trans c1
 have n2 := f2.nx
 have hv2 := (hv.fr fg).fr f2
 have same : ¬ (l[n]?).map (·.1) = some k → ∀ o, Ps (g2.put (h.nx + 1) o) lv (delP l k) ∧ Fr h (g2.put (h.nx + 1) o) := fun hk o => by
  rw [if_neg hk] at hpd
  rw [hpd]
  have fz : Fr h (g2.put (h.nx + 1) o) := (fg.trans f2).put _ (by omega)
  exact ⟨hv.fr fz, fz⟩
 by_cases c4 : ((n : Nat) : Int) = (l.length : Nat)
 ·have hk : ¬ (l[n]?).map (·.1) = some k := by
   rw [List.getElem?_eq_none (by omega)]
   intro hh; cases hh
  obtain ⟨q1, q2⟩ := same hk (.cells [lv] true false)
  rcases psShape hv with rfl | ⟨i5, o5, n5, c5, rfl⟩
  all_goals
   simp (maxSteps := 1000000) -dsimp (disch := (repeat first | rw [nxn] | rw [nxp]); try omega) only [go_sem, c02, lln, ol, c4, c12]
   exact ⟨⟨_, rfl, q1, fun id o n z c hh => .inl rfl⟩, q2⟩
 ·have hnl : n < l.length := by omega
  obtain ⟨p, hp⟩ : ∃ p, l[n]? = some p := ⟨_, List.getElem?_eq_getElem hnl⟩
  obtain ⟨id, off, c, cs, o, tx, rfl, hgi, hidl, hle, hx, x0, x1, x2⟩ := Ps.at hv2 hp
  by_cases hpk : p.1 = k
  ·have hkd : decide (p.1 = k) = true := by simpa using hpk
   rw [if_pos (by rw [hp, ← hpk]; rfl)] at hpd
   obtain ⟨vt, t1, t2, t3, t4⟩ := hv2.to hpl
   obtain ⟨vf, s1', s2, s3, s4⟩ := hv2.frm (show n + 1 ≤ l.length from hnl)
   have s1 : ∀ h1, evSlice Tryz.prog h1 22 (.sl id off l.length 3 c) (some (.int .i64 (((n : Nat) : Int) + 1))) none none = some vf := fun h1 => s1' h1
   simp (maxSteps := 1000000) -dsimp (disch := (repeat first | rw [nxn] | rw [nxp]); try omega) only [go_sem, c02, lln, ol, c4, hnl, hgi, x0, neSt, hkd]
   refine syDraw.keepN 12 (fun j => j = h.nx) (by kernel_rfl) (by kernel_rfl) rfl ?_
   have fX : Fr g2 (({ tr := g2.tr, nx := g2.nx + 14 } : AH).put g2.nx (.cells [] true true)) := ((Fr.refl g2).more _ (by omega)).put _ (Nat.le_refl _)
   have hzX : Ez 3 g2.nx (({ tr := g2.tr, nx := g2.nx + 14 } : AH).put g2.nx (.cells [] true true)) (.sl g2.nx 0 0 3 (some 0)) (([] : KL (List Nat × Bool)).flatMap pc) := .inr ⟨g2.nx, 0, some 0, true, rfl, AH.get_put_eq rfl, (show g2.nx < g2.nx + 14 by omega), Nat.le_refl _, rfl, .inr rfl, .inr ⟨rfl, rfl⟩⟩
   obtain ⟨v3, g3, ha3, f3, hz3, o3⟩ := appP (h0 := g2) hzX (t2.fr fX) fX (by simp; omega)
   rw [List.nil_append] at hz3
   have c03 : g3.get h.nx = _ := (f3.get _ (by omega)).trans c02
   obtain ⟨v5, g5, ha5, f5, hz5, o5⟩ := appP (h0 := g2) hz3 (s2.fr f3) f3 (by simp; omega)
   have c15 : g5.get (h.nx + 1) = _ := (f5.get _ (by omega)).trans c12
   have k3 : ∀ j, j = h.nx → g3.get j = g2.get j := fun j hj => by subst hj; exact f3.get _ (by omega)
   have k5 : ∀ j, j = h.nx → g5.get j = g3.get j := fun j hj => by subst hj; exact (f5.get _ (by omega)).trans (f3.get _ (by omega)).symm
   have bT := bldT3 (ezShape hz5)
   rw [← hpd] at hz5
   have q1 : ∀ o, Ps (g5.put (h.nx + 1) o) v5 (delP l k) := fun o => Ps.of (ezPut hz5 (by omega))
   have q2 : ∀ o, Fr h (g5.put (h.nx + 1) o) := fun o => ((fg.trans f2).trans f5).put _ (by omega)
   have q3 : ∀ id' o' n' z' c', v5 = .sl id' o' n' z' c' → v5 = .sl id off l.length 3 c ∨ h.nx ≤ id' := fun id' o' n' z' c' hh => .inr (by have := ezGe hz5 hh; omega)
   rcases ezShape hz5 with rfl | ⟨i5, n5, c5, rfl⟩
   all_goals
    simp (maxSteps := 1000000) -dsimp (disch := (repeat first | rw [nxn] | rw [nxp]); try omega) only [go_sem, c02, c03, sl, lln, ol, t1, t3, t4, s1, s3, s4, ha3, o3, ha5, o5, bT, c15, true_and, implies_true, svi, svb]
    exact ⟨k3, k5, ⟨_, rfl, q1 _, q3⟩, q2 _⟩
  ·have hkd : decide (p.1 = k) = false := by simpa using hpk
   have hk : ¬ (l[n]?).map (·.1) = some k := by
    rw [hp]; intro hh; exact hpk (Option.some.inj hh)
   obtain ⟨q1, q2⟩ := same hk (.cells [.sl id off l.length 3 c] true false)
   simp (maxSteps := 1000000) -dsimp (disch := (repeat first | rw [nxn] | rw [nxp]); try omega) only [go_sem, c02, lln, ol, c4, hnl, hgi, x0, neSt, hkd, c12]
   exact ⟨⟨_, rfl, q1, fun id o n z c hh => .inl rfl⟩, q2⟩
end
end Go.Proofs.YtmphlckolampoaaGreatDoor.tbl
