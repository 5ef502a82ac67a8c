/- The document's table: Place, Put, Drop, Of; the kit's Pairs, LightPairs. Conditions: those of its summaries. -/
import Derived.Test.YtmphlckolampoaaGreatDoorRAf
namespace Go.Proofs.YtmphlckolampoaaGreatDoor.tbl
open Go Go.Abs Go.Abs.Rec Go.Proofs
set_option maxRecDepth 100000
set_option linter.unusedVariables false
set_option linter.unusedSimpArgs false
theorem ezPut {z n0 : Nat} {h : AH} {v : AV} {l : List AV} {j : Nat} {o : AO} (hb : Ez z n0 h v l) (hj : j < n0) : Ez z n0 (h.put j o) v l := by
 rcases hb with h1 | ⟨id, n, c, tx, h1, h2, h3, h4, h5⟩
 ·exact .inl h1
 ·exact .inr ⟨id, n, c, tx, h1, (AH.get_put_ne (by omega)).trans h2, h3, h4, h5⟩
theorem ezGe {z n0 : Nat} {h : AH} {v : AV} {l : List AV} (hb : Ez z n0 h v l) {id o n z' : Nat} {c : Option Nat} (hv : v = .sl id o n z' c) : n0 ≤ id := by
 rcases hb with ⟨h1, _⟩ | ⟨id', n', c', tx, h1, h2, h3, h4, h5⟩
 ·rw [h1] at hv; cases hv
 ·rw [h1] at hv; cases hv; exact h4
theorem ezShape {z n0 : Nat} {h : AH} {v : AV} {l : List AV} (hb : Ez z n0 h v l) : v = .nilsl ∨ ∃ id n c, v = .sl id 0 n z c := by
 rcases hb with ⟨h1, _⟩ | ⟨id, n, c, tx, h1, _⟩
 ·exact .inl h1
 ·exact .inr ⟨id, n, c, h1⟩
theorem bldT3 {v : AV} (hv : v = .nilsl ∨ ∃ id n c, v = .sl id 0 n 3 c) : evBuild Tryz.prog 30 [(0, v)] = some (.agg [v]) := by
 rcases hv with rfl | ⟨id, n, c, rfl⟩ <;> kernel_rfl
theorem psShape {h : AH} {v : AV} {l : KL (List Nat × Bool)} (hb : Ps h v l) : v = .nilsl ∨ ∃ id o n c, v = .sl id o n 3 c := by
 rcases hb with ⟨h1, _⟩ | ⟨id, off, c, cs, o, tx, h1, _⟩
 ·exact .inl h1
 ·exact .inr ⟨id, off, _, c, h1⟩
section
variable {S : Sums}
structure Td (S : Sums) : Prop extends Tb S where
 nd : ∀ f args h, f ∈ [59, 22, 40, 7, 19, 5, 14] → S f args h = none
set_option maxHeartbeats 8000000 in
theorem placeC (hS : Td S) {h : AH} {lv : AV} {l : KL (List Nat × Bool)} (k : List Nat) (hv : Ps h lv l) (hl : l.length ≤ 1000000) : RnC Tryz.prog S 59 [.agg [lv], .str k] h fun r h' => r = .int .i64 (plcP l k : Nat) ∧ Fr h h' := by
 refine RnC.enter' Tryz.f59 _ 24 [.tmp 4] (hS.nd _ _ _ (by simp)) bd59 Tryz.func59 rfl rfl rfl ?_
 obtain ⟨lln, sl, ol⟩ := hv.ln
 have om := ol
 unfold oneA at om
 have f1 : Fr h (h.new (.cells [lv] true false)) := Fr.new _ _
 simp (maxSteps := 1000000) -dsimp (disch := (repeat first | rw [nxn] | rw [nxp]); try omega) only [go_sem, ol, om]
 refine loopK_of (RnL.rounds (Q := fun ex u => ex = .exit 0 ∧ u.d = [] ∧ u.h = h.new (.cells [lv] true false) ∧ u.t.get 5 = some (.int .i64 (plcP l k : Nat)))
  (fun m u => u.d = [] ∧ u.h = h.new (.cells [lv] true false) ∧ u.t.get 2 = some (.ptr h.nx 0) ∧ u.t.get 1 = some (.str k) ∧ ∃ i : Nat, u.t.get 5 = some (.int .i64 (i : Nat)) ∧ i ≤ l.length ∧ (∀ j e, j < i → l[j]? = some e → lessA e.1 k = true) ∧ m = l.length - i) ?_ l.length ?_) ?_
 ·rintro m ⟨tt, g, d⟩ ⟨e2, e1, g2, g1, i, g5, hi, hall, rfl⟩
  dsimp only at e1 e2 g2 g1 g5
  subst e1 e2
  by_cases c4 : (i : Int) < (l.length : Nat)
  ·have hil : i < l.length := by omega
   obtain ⟨p, hp⟩ : ∃ p, l[i]? = some p := ⟨_, List.getElem?_eq_getElem hil⟩
   obtain ⟨id, off, c, cs, o, tx, rfl, hgi, hidl, hle, hx, x0, x1, x2⟩ := Ps.at hv hp
   have hgx : (h.new (.cells [.sl id off l.length 3 c] true false)).get id = _ := (f1.get id hidl).trans hgi
   cases hlt : lessA p.1 k
   ·have : plcP l k = i := plcP_eq hi hall fun e he => by rw [hp] at he; cases he; exact hlt
    simp (maxSteps := 1000000) -dsimp (disch := (repeat first | rw [nxn] | rw [nxp]); try omega) only [go_sem, lln, c4, hil, hgi, x0, ltSt, hlt, g1, g2, g5]
    exact ⟨trivial, trivial, trivial, by rw [this]⟩
   ·simp (maxSteps := 1000000) -dsimp (disch := (repeat first | rw [nxn] | rw [nxp]); try omega) only [go_sem, lln, c4, hil, hgi, x0, ltSt, hlt, g1, g2, g5]
    refine ⟨l.length - (i + 1), by omega, trivial, trivial, trivial, trivial, i + 1, rfl, by omega, fun j e hj he => ?_, rfl⟩
    by_cases hji : j = i
    ·subst hji; rw [hp] at he; cases he; exact hlt
    ·exact hall j e (by omega) he
  ·have : i = l.length := by omega
   subst this
   have : plcP l k = l.length := plcP_eq (Nat.le_refl _) hall fun e he => by
    have := (List.getElem?_eq_some_iff.1 he).1
    omega
   simp (maxSteps := 1000000) -dsimp (disch := (repeat first | rw [nxn] | rw [nxp]); try omega) only [go_sem, lln, c4, ol, g1, g2, g5]
   exact ⟨trivial, trivial, trivial, by rw [this]⟩
 ·simp (maxSteps := 1000000) -dsimp (disch := (repeat first | rw [nxn] | rw [nxp]); try omega) only [go_sem]
  exact ⟨trivial, trivial, trivial, trivial, 0, rfl, Nat.zero_le _, fun j e hj => absurd hj (Nat.not_lt_zero _), rfl⟩
 ·rintro ex ⟨tt, g, d⟩ ⟨rfl, rfl, e1, g5⟩
  dsimp only at e1 g5
  subst e1
  simp (maxSteps := 1000000) -dsimp (disch := (repeat first | rw [nxn] | rw [nxp]); try omega) only [go_sem, g5]
  exact ⟨by first | trivial | rfl, f1⟩
set_option maxHeartbeats 16000000 in
theorem putD (hS : Td S) {h : AH} {lv : AV} {l : KL (List Nat × Bool)} (k x : List Nat) (hv : Ps h lv l) (hl : l.length ≤ 100000) : RnC Tryz.prog S 22 [.agg [lv], .str k, .str x] h fun r h' => (∃ v', r = .agg [v'] ∧ Ps h' v' (putP l k (x, false)) ∧ ∀ id o n z c, v' = .sl id o n z c → h.nx ≤ id) ∧ Fr h h' := by
 refine RnC.enter' Tryz.f22 _ 47 [.cell 6 30] (hS.nd _ _ _ (by simp)) bd22 Tryz.func22 rfl rfl rfl ?_
 obtain ⟨lln, sl, ol⟩ := hv.ln
 have om := ol
 unfold oneA at om
 have ha1 : ∀ (o1 o2 : AO), ((h.new o1).new o2).get h.nx = some o1 := fun o1 o2 => (AH.get_new_ne (by simp)).trans (AH.get_new_eq rfl)
 simp (maxSteps := 1000000) -dsimp (disch := (repeat first | rw [nxn] | rw [nxp]); try omega) only [go_sem, ol, om, ha1]
 generalize hg : ((h.new (.cells [lv] true false)).new (.cells [.nilsl] true false)) = g
 have ng : g.nx = h.nx + 2 := by rw [← hg]; rfl
 have fg : Fr h g := by rw [← hg]; exact (Fr.new _ _).news _
 have c0 : g.get h.nx = some (.cells [lv] true false) := by rw [← hg]; exact ha1 _ _
 have c1 : g.get (h.nx + 1) = some (.cells [.nilsl] true false) := by rw [← hg]; exact AH.get_new_eq rfl
 refine callK_of (placeC hS k (hv.fr fg) (by omega)) ?_
 rintro w g2 ⟨rfl, f2⟩
 have hpl := plcP_le l k
 have hpd := put_doc k ((x, false) : List Nat × Bool) l
 have hpa : ∀ p, l[plcP l k]? = some p → lessA p.1 k = false := fun p hp => plcP_at hp
 generalize plcP l k = n at hpl hpd hpa
 have c02 := (f2.get _ (by omega)).trans c0
 have c12 := (f2.get _ (by omega)).trans c1
 have n2 := f2.nx
 have hv2 := (hv.fr fg).fr f2
 obtain ⟨vt, t1, t2, t3, t4⟩ := hv2.to hpl
 have f3a : Fr g2 (g2.new (.cells [] true true)) := Fr.new _ _
 obtain ⟨v3, g3, ha3, f3, hz3, o3⟩ := appP (h0 := g2) (ez0 g2) (t2.fr f3a) f3a (by simp; omega)
 rw [List.nil_append] at hz3
 have c03 := (f3.get _ (by omega)).trans c02
 have n3 := f3.nx
 have f4a : Fr g3 (g3.new (.cells [.str k, .str x, .bool false] true false)) := Fr.new _ _
 obtain ⟨v4, g4, ha4, f4, hz4, o4⟩ := appP (h0 := g2) (hz3.fr f4a) (ps1 (p := (k, (x, false))) (AH.get_new_eq rfl) (Nat.lt_succ_self _)) (f3.trans f4a) (by simp; omega)
 have c04 : g4.get h.nx = _ := (f4.get _ (by omega)).trans c02
 have c14 : g4.get (h.nx + 1) = _ := (f4.get _ (by omega)).trans c12
 have n4 := f4.nx
 have bP := bldP2 k x
 have hv4 := hv2.fr f4
 have key : ∀ m : Nat, m ≤ l.length → putP l k (x, false) = l.take n ++ (k, (x, false)) :: l.drop m → ∃ v5 g5 vf, (∀ h1, evSlice Tryz.prog h1 22 lv (some (.int .i64 (m : Nat))) none none = some vf) ∧ oneA vf = true ∧ evAppend Tryz.prog g4 #[22, 22] v4 vf = some (.val v5 g5) ∧ Fr g2 g5 ∧ Ez 3 g2.nx g5 v5 ((putP l k (x, false)).flatMap pc) ∧ oneA v5 = true ∧ g5.get (h.nx + 1) = some (.cells [.nilsl] true false) := fun m hm he => by
  obtain ⟨vf, s1, s2, s3, s4⟩ := hv4.frm hm
  obtain ⟨v5, g5, ha5, f5, hz5, o5⟩ := appP (h0 := g2) hz4 s2 f4 (by simp; omega)
  refine ⟨v5, g5, vf, s1, s3, ha5, f5, ?_, o5, (f5.get _ (by omega)).trans c12⟩
  rw [he]
  have : l.take n ++ (k, (x, false)) :: l.drop m = l.take n ++ [(k, (x, false))] ++ l.drop m := by simp
  rw [this]; exact hz5
 have fin : ∀ (v5 : AV) (g5 : AH) (o : AO), Fr g2 g5 → Ez 3 g2.nx g5 v5 ((putP l k (x, false)).flatMap pc) → Ps (g5.put (h.nx + 1) o) v5 (putP l k (x, false)) ∧ Fr h (g5.put (h.nx + 1) o) := fun v5 g5 o f5 hz5 =>
  ⟨Ps.of (ezPut hz5 (by omega)), ((fg.trans f2).trans f5).put _ (by omega)⟩
 have shv : oneA v4 = true := o4
 by_cases hk : (l[n]?).map (·.1) = some k
 ·rw [if_pos hk] at hpd
  have hnl : n < l.length := by
   rcases Nat.lt_or_ge n l.length with h1 | h1
   ·exact h1
   ·rw [List.getElem?_eq_none h1] at hk; cases hk
  obtain ⟨p, hp⟩ : ∃ p, l[n]? = some p := ⟨_, List.getElem?_eq_getElem hnl⟩
  rw [hp] at hk
  have hpk : p.1 = k := by simpa using hk
  have hkd : decide (p.1 = k) = true := by simpa using hpk
  obtain ⟨v5, g5, vf, s1', s3, ha5, f5, hz5, o5, c15⟩ := key (n + 1) hnl hpd
  have s1 : ∀ h1, evSlice Tryz.prog h1 22 lv (some (.int .i64 (((n : Nat) : Int) + 1))) none none = some vf := fun h1 => s1' h1
  obtain ⟨id, off, c, cs, o, tx, hlv, hgi, hidl, hle, hx, x0, x1, x2⟩ := Ps.at hv4 hp
  subst hlv
  have c4 : ((n : Nat) : Int) < (l.length : Nat) := by omega
  obtain ⟨q1, q2⟩ := fin v5 g5 (.cells [v5] true false) f5 hz5
  have q3 : ∀ id o n z c, v5 = .sl id o n z c → h.nx ≤ id := fun id o n z c hh => by have := ezGe hz5 hh; omega
  have bT := bldT3 (ezShape hz5)
  rcases ezShape hz5 with rfl | ⟨i5, n5, c5, rfl⟩
  all_goals
   simp (maxSteps := 1000000) -dsimp (disch := (repeat first | rw [nxn] | rw [nxp]); try omega) only [go_sem, c02, lln, ol, t1, t3, ha3, o3, bP, ha4, o4, c04, c4, hnl, hgi, x0, eqSt, hkd, s1, s3, ha5, o5, bT, c15]
   exact ⟨⟨_, rfl, q1, q3⟩, q2⟩
 ·rw [if_neg hk] at hpd
  obtain ⟨v5, g5, vf, s1, s3, ha5, f5, hz5, o5, c15⟩ := key n hpl hpd
  obtain ⟨q1, q2⟩ := fin v5 g5 (.cells [v5] true false) f5 hz5
  have q3 : ∀ id o n z c, v5 = .sl id o n z c → h.nx ≤ id := fun id o n z c hh => by have := ezGe hz5 hh; omega
  have bT := bldT3 (ezShape hz5)
  by_cases c4 : ((n : Nat) : Int) < (l.length : Nat)
  ·have hnl : n < l.length := by omega
   obtain ⟨p, hp⟩ : ∃ p, l[n]? = some p := ⟨_, List.getElem?_eq_getElem hnl⟩
   rw [hp] at hk
   have hkd : decide (p.1 = k) = false := by simpa using hk
   obtain ⟨id, off, c, cs, o, tx, hlv, hgi, hidl, hle, hx, x0, x1, x2⟩ := Ps.at hv4 hp
   subst hlv
   rcases ezShape hz5 with rfl | ⟨i5, n5, c5, rfl⟩
   all_goals
    simp (maxSteps := 1000000) -dsimp (disch := (repeat first | rw [nxn] | rw [nxp]); try omega) only [go_sem, c02, lln, ol, t1, t3, ha3, o3, bP, ha4, o4, c04, c4, hnl, hgi, x0, eqSt, hkd, s1, s3, ha5, o5, bT, c15]
    exact ⟨⟨_, rfl, q1, q3⟩, q2⟩
  ·rcases ezShape hz5 with rfl | ⟨i5, n5, c5, rfl⟩
   all_goals
    simp (maxSteps := 1000000) -dsimp (disch := (repeat first | rw [nxn] | rw [nxp]); try omega) only [go_sem, c02, lln, ol, t1, t3, ha3, o3, bP, ha4, o4, c04, c4, s1, s3, ha5, o5, bT, c15]
    exact ⟨⟨_, rfl, q1, q3⟩, q2⟩
end
end Go.Proofs.YtmphlckolampoaaGreatDoor.tbl
