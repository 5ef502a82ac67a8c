/- The law StoreTells, walked. Conditions: those of its summaries. -/
import Derived.Test.YtmphlckolampoaaGreatDoorRCp
import Derived.Test.YtmphlckolampoaaGreatDoorAb7
namespace Go.Proofs.YtmphlckolampoaaGreatDoor.tbl
open Go Go.Abs Go.Abs.Rec Go.Proofs
set_option maxRecDepth 100000
set_option linter.unusedVariables false
set_option linter.unusedSimpArgs false
theorem wP_eq : ∀ {l : KL (List Nat × Bool)}, wP l ≤ 3000 → wtf lenP l ≤ 3000 ∧ wtf lenP l = wP l
 | [], _ => ⟨Nat.zero_le _, rfl⟩
 | p :: r, h => by
  have e : wP (p :: r) = min p.1.length 3001 + min p.2.1.length 3001 + wP r := rfl
  rw [e] at h ⊢
  obtain ⟨i1, i2⟩ := wP_eq (l := r) (by omega)
  have e2 : wtf lenP (p :: r) = p.1.length + p.2.1.length + wtf lenP r := rfl
  rw [e2]
  omega
theorem readP_fit {s : List Nat} (hs : s.length ≤ 3000) (hb : byL s) {kind n : Nat} {r : Rd} (hr : r.b.length ≤ s.length) (hrb : byL r.b) :
  (pairsF kind n r []).1.length ≤ 3001 ∧ wtf lenP (pairsF kind n r []).1 ≤ 3000 ∧ ∀ p ∈ (pairsF kind n r []).1, byL p.1 ∧ byL p.2.1 := by
 obtain ⟨p1, _, _⟩ := pairsF_len kind n r []
 obtain ⟨q1, q2⟩ := pairsF_fit kind n r [] hrb
 have e : wtf lenP ([] : KL (List Nat × Bool)) = 0 := rfl
 rw [e] at q1
 simp only [List.length_nil] at p1
 exact ⟨by omega, by omega, fun p hp => (q2 p hp).elim (fun h => by cases h) id⟩
theorem num_fit {s : List Nat} (hb : byL s) (most : Nat) : ((Rd.mk s 0).num.2.count most).2.b.length ≤ s.length ∧ byL ((Rd.mk s 0).num.2.count most).2.b :=
 ⟨Nat.le_trans (Rd.count_le2 _ _) (Rd.mk s 0).num_le.2, Rd.count_by (Rd.num_by hb)⟩
theorem fitP {s : List Nat} (hs : s.length ≤ 3000) (hb : byL s) : Fit s := by
 obtain ⟨n1, n2⟩ := num_fit hb s.length
 have key : ∀ l a, readP s = some (l, a) → l.length ≤ 3001 ∧ wtf lenP l ≤ 3000 ∧ ∀ p ∈ l, byL p.1 ∧ byL p.2.1 := fun l a h => by
  unfold readP at h
  dsimp only at h
  split at h
  ·cases h
  ·cases h
   exact readP_fit hs hb n1 n2
 refine ⟨by omega, hb, fun l h => ?_, fun l h => ?_⟩
 ·obtain ⟨k1, k2, k3⟩ := key l _ h
  obtain ⟨a, b, c, d, e, f⟩ := fit_of (by omega) (by omega) k3
  exact ⟨by omega, a, c, d⟩
 ·obtain ⟨k1, k2, k3⟩ := key l _ h
  obtain ⟨a, b, c, d, e, f⟩ := fit_of (by omega) (by omega) k3
  exact ⟨by omega, a, b, e, f⟩
theorem fitD {s : List Nat} (hs : s.length ≤ 3000) (hb : byL s) : FitD s := by
 obtain ⟨n1, n2⟩ := num_fit hb 1073741824
 refine ⟨by omega, hb, fun l r h => ?_⟩
 have hl : l = (pairsF (Rd.mk s 0).num.1 ((Rd.mk s 0).num.2.count 1073741824).1 ((Rd.mk s 0).num.2.count 1073741824).2 []).1 := by
  rcases pairsD_or (Rd.mk s 0).num.1 ((Rd.mk s 0).num.2.count 1073741824).1 ((Rd.mk s 0).num.2.count 1073741824).2 [] with h2 | h2
  ·rw [h2] at h; cases h
  ·rw [h2] at h
   rw [Option.some.inj h]
 obtain ⟨k1, k2, k3⟩ := readP_fit (kind := (Rd.mk s 0).num.1) (n := ((Rd.mk s 0).num.2.count 1073741824).1) hs hb n1 n2
 rw [← hl] at k1 k2 k3
 obtain ⟨a, b, c, d, e, f⟩ := fit_of (by omega) (by omega) k3
 exact ⟨by omega, a, b, c, d, e, f⟩
section
variable {S : Sums}
structure Tf (S : Sums) : Prop extends To S, Te S
set_option maxHeartbeats 4000000 in
theorem sameC (hS : Tf S) {K : Nat → Nat} {h : AH} {tv v : AV} {t : Tp} (htv : TpA K h tv t) (hv : Ps h v (pf (ino t))) (hl : t.size ≤ 100000) :
  RnC Tryz.prog S 14 [.agg [tv], .agg [v]] h fun r h' => r = .bool true ∧ Fr h h' := by
 refine RnC.enter' Tryz.f14 _ 12 [.tmp 4] (hS.nd _ _ _ (by simp)) bd14 Tryz.func14 rfl rfl rfl ?_
 have otv := htv.one.1
 have om := otv
 unfold oneA at om
 obtain ⟨lv, sv, ov⟩ := hv.ln
 have omv := ov
 unfold oneA at omv
 simp (maxSteps := 1000000) -dsimp (disch := (repeat first | rw [nxn] | rw [nxp]); try omega) only [go_sem, otv, om, ov, omv]
 generalize hg : ((h.new (.cells [tv] true false)).new (.cells [v] true false)) = g
 have ng : g.nx = h.nx + 2 := by rw [← hg]; rfl
 have fg : Fr h g := by rw [← hg]; exact (Fr.new _ _).news _
 have c0 : g.get h.nx = some (.cells [tv] true false) := by rw [← hg]; exact (AH.get_new_ne (by simp)).trans (AH.get_new_eq rfl)
 have c1 : g.get (h.nx + 1) = some (.cells [v] true false) := by rw [← hg]; exact AH.get_new_eq rfl
 have fx : Fr g { tr := g.tr, nx := g.nx + 8 } := (Fr.refl g).more _ (by omega)
 have sT := svT htv.shape
 refine syDraw.keep (fun j => j = h.nx ∨ j = h.nx + 1) (by kernel_rfl) (by kernel_rfl) ?_
 simp (maxSteps := 1000000) -dsimp (disch := (repeat first | rw [nxn] | rw [nxp]); try omega) only [go_sem, c0, otv, om, sT, true_and, true_or, or_true, implies_true, svi, svb, svs]
 refine callK_of (sizeC hS.toTb ((htv.fr fg).fr fx)) ?_
 rintro w1 g1 ⟨rfl, f1⟩
 have n1 : g.nx + 8 ≤ g1.nx := f1.nx
 refine ⟨fun j hj => f1.get j (by show j < g.nx + 8; omega), ?_⟩
 try simp (maxSteps := 1000000) -dsimp (disch := (repeat first | rw [nxn] | rw [nxp]); try omega) only [go_sem, otv, om, true_and, true_or, or_true, implies_true, svi, svb, svs]
 refine callK_of (rangeC hS.toTb (((htv.fr fg).fr fx).fr f1) rfl (by omega)) ?_
 rintro w2 g2 ⟨hp2, f2⟩
 have n2 := f2.nx
 refine ⟨fun j hj => f2.get j (by omega), ?_⟩
 have c12 : g2.get (h.nx + 1) = _ := (f2.get _ (by omega)).trans ((f1.get _ (by show h.nx + 1 < g.nx + 8; omega)).trans c1)
 obtain ⟨lm, sm, om2⟩ := hp2.ln
 simp (maxSteps := 1000000) -dsimp (disch := (repeat first | rw [nxn] | rw [nxp]); try omega) only [go_sem, c12, ov, sv, om2, true_and, true_or, or_true, implies_true, svi, svb, svs]
 refine callK_of (pairsC hS.toTd hp2 (((hv.fr ((fg.trans fx).trans f1)).fr f2)) (by simp [pf]; rw [← Tp.size_eq]; omega)) ?_
 rintro w3 g3 ⟨rfl, f3⟩
 have n3 := f3.nx
 refine ⟨fun j hj => f3.get j (by omega), ?_⟩
 try simp (maxSteps := 1000000) -dsimp (disch := (repeat first | rw [nxn] | rw [nxp]); try omega) only [go_sem]
 exact ⟨by first | trivial | rfl, (((fg.trans fx).trans f1).trans f2).trans f3⟩
end
end Go.Proofs.YtmphlckolampoaaGreatDoor.tbl
