/- The program's tree: a crash, walked. Conditions: those of its summaries. -/
import Derived.Test.YthkdhdcbhpknnaaGreatDoorTCj
namespace Go.Proofs.YthkdhdcbhpknnaaGreatDoor.tre
open Go Go.Abs Go.Proofs
set_option maxRecDepth 100000
set_option linter.unusedVariables false
set_option linter.unusedSimpArgs false

theorem bldG {v w : AV} {n : Int} (hv : v = .nilsl ∨ ∃ a n c, v = .sl a 0 n 1 c) (hw : w = .nilsl ∨ ∃ a n c, w = .sl a 0 n 1 c) : evBuild Tryz.prog 110 [(0, v), (1, w), (2, .int .u64 n)] = some (.agg [v, w, .int .u64 n]) := by
 rcases hv with rfl | ⟨a, k, c, rfl⟩ <;> rcases hw with rfl | ⟨a', k', c', rfl⟩ <;> kernel_rfl
/-- What holds in the rounds of a crash. -/
structure Cr (K0 : Nat → Nat) (h0 : AH) (p m sm wm : Nat) (r : AV) (W : List (AV × AV)) (ks : List Pth) (n : Nat) (ρ0 : Nat → Nat) (v : AV) (ps : List Int) (T : TT) (g : AH) : Prop where
 t : ∃ K ρ, Tr K p m sm .nilsl ρ g T ∧ (∀ i, i < n → ρ i = ρ0 i) ∧ Gr K0 h0 K g ∧ Iv K g v ps ∧ K wm = 0 ∧ (ks = [] ∨ ∃ kid, r = .sl kid 0 ks.length 1 none ∧ g.get kid = some (.cells (ks.map .str) true false) ∧ kid < g.nx ∧ K kid = 0)
 w : ∃ bs ck, g.get wm = some (.map W bs ck)
 wl : wm < g.nx
section
variable {S : Sums}
set_option maxHeartbeats 16000000 in
theorem crashC (hS : St S) {K p nm sm chv ρ h T} (hT : Tr K p nm sm chv ρ h T) (hm : Sm T) (hc : T.clock < 1152921504606000000) (keep : Int) {v : AV} {ps : List Int} (hv : Iv K h v ps) (hks : (keepT T ((max 0 keep).toNat % (T.notes.length + 1))).safe.length ≤ 16384) :
  RnC Tryz.prog S 21 [.ptr p 0, .int .i64 keep, v] h fun r h' => r = .int .i64 0 ∧ Res K p h h' (crashT T keep ps) := by
 refine RnC.enter' Tryz.f21 _ 117 [.tmp 6] (hS.nt _ _ _ (by simp)) bd21 Tryz.func21 rfl rfl rfl ?_
 have hpl : p < h.nx := hT.lt (by rw [hT.kp]; decide)
 have hp := hT.pp
 obtain ⟨lv, sv, ov⟩ := hv.ln
 simp (maxSteps := 1000000) -dsimp (disch := (repeat first | rw [nxn] | rw [nxp]); try omega) only [go_sem]
 refine callK_of (hT.made hS) ?_
 rintro r h2 ⟨rfl, rfl⟩
 simp (maxSteps := 1000000) -dsimp (disch := (repeat first | rw [nxn] | rw [nxp]); try omega) only [go_sem, hp]
 obtain ⟨bw, cw, hnow⟩ := hT.now
 refine callK_of (cloneMC hS hnow) ?_
 rintro r h3 ⟨rfl, rfl⟩
 generalize h3e : h2.new (.map (enS (mapS (fpt ρ) T.now)) bw cw) = h3
 have f3 : Fr h2 h3 := h3e ▸ Fr.new _ _
 have n3 : h3.nx = h2.nx + 1 := by rw [← h3e]; rfl
 have w3 : h3.get h2.nx = some (.map (enS (mapS (fpt ρ) T.now)) bw cw) := by rw [← h3e]; exact AH.get_new_eq rfl
 have hT3 := hT.fr f3
 have hp3 := hT3.pp
 obtain ⟨lc, _, oc⟩ := hT3.ch.shape
 have e0 : 0 ≤ max 0 keep := by omega
 have em : (max 0 keep).tmod (((T.notes.length : Nat) : Int) + 1) = (((max 0 keep).toNat % (T.notes.length + 1) : Nat) : Int) := tmodN (n := T.notes.length + 1) e0 (by omega)
 have hmod : (max 0 keep).toNat % (T.notes.length + 1) < T.notes.length + 1 := Nat.mod_lt _ (by omega)
 have cz : ¬ ((T.notes.length : Nat) : Int) + 1 = 0 := by omega
 have hno := hm.notes
 unfold crashT
 dsimp only
 generalize (max 0 keep).toNat % (T.notes.length + 1) = kk at em hmod hks
 simp (maxSteps := 1000000) -dsimp (disch := (repeat first | rw [nxn] | rw [nxp]); try omega) only [go_sem, hp3, lc, oc, em, cz]
 refine callK_of (keepC hS hT3 (by omega) hno) ?_
 rintro r h4 ⟨rfl, hT4, n4, o4⟩
 refine callK_of (tickC hS hT4 (by show T.clock < _; exact hm.clock)) ?_
 rintro r h5 ⟨rfl, hT5, n5, o5⟩
 have hp5 := hT5.pp
 have n5' : h5.nx = h2.nx + 1 := by rw [n5, n4, n3]
 have hT6 := hT5.newNow (m := h5.nx) (h' := (h5.new (.map [] [] 0)).put p (.cells [.bool true, .int .i64 (tickT (keepT T kk)).room, .map h5.nx, .map sm, .nilsl, .int .u64 ((tickT (keepT T kk)).clock : Nat), .bool (tickT (keepT T kk)).off, .int .i64 (tickT (keepT T kk)).fuse] true false)) (hT5.top _ (Nat.le_refl _)) (AH.get_put_eq rfl) ((AH.get_put_ne (by omega)).trans (AH.get_new_eq rfl)) (Nat.lt_succ_self _) (Nat.le_succ _) (fun j hj hjp => (AH.get_put_ne hjp).trans (AH.get_new_ne (by have := hT5.lt hj; omega)))
 have hp6 := hT6.pp
 simp (maxSteps := 1000000) -dsimp (disch := (repeat first | rw [nxn] | rw [nxp]); try omega) only [go_sem, hp5]
 generalize h6e : (h5.new (.map [] [] 0)).put p (.cells [.bool true, .int .i64 (tickT (keepT T kk)).room, .map h5.nx, .map sm, .nilsl, .int .u64 ((tickT (keepT T kk)).clock : Nat), .bool (tickT (keepT T kk)).off, .int .i64 (tickT (keepT T kk)).fuse] true false) = h6 at hT6 hp6
 have n6 : h6.nx = h2.nx + 2 := by rw [← h6e]; show h5.nx + 1 = _; omega
 have g6 : Gr K h2 (fun j => if j = h5.nx then 2 else K j) h6 := ⟨by omega, fun j hj hk => by
  have hjp : j ≠ p := fun hh => by rw [hh, hT.kp] at hk; cases hk
  refine ⟨?_, (if_neg (by omega)).trans hk⟩
  rw [← h6e]
  exact (AH.get_put_ne hjp).trans ((AH.get_new_ne (by omega)).trans ((o5 j hjp).trans ((o4 j hk).trans (f3.get j hj))))⟩
 have w6 : h6.get h2.nx = some (.map (enS (mapS (fpt ρ) T.now)) bw cw) := by
  have hk0 : K h2.nx = 0 := hT.top _ (Nat.le_refl _)
  have hjp : h2.nx ≠ p := by omega
  rw [← h6e]
  exact (AH.get_put_ne hjp).trans ((AH.get_new_ne (by omega)).trans ((o5 _ hjp).trans ((o4 _ hk0).trans w3)))
 have hsz : (keepT T kk).safe.length ≤ 16384 := hks
 refine callK_of (keysC hS) ?_
 rintro r h7 ⟨rfl, h7e⟩
 have f7 : Fr h6 h7 := by rw [h7e]; exact Fr.new _ _
 have hT7 := hT6.fr f7
 refine callK_of (sortedC hS (b := h6.nx) (by rw [h7e]; exact AH.get_new_eq rfl) hT7.safe hT7.wf.safe hsz) ?_
 rintro r h8 ⟨hss, f8⟩
 have hT8 := hT7.fr f8
 have n7 : h7.nx = h2.nx + 3 := by rw [h7e]; show h6.nx + 1 = _; omega
 have f68 := f7.trans f8
 have hklen : (sortS ((keepT T kk).safe.map (·.1))).length ≤ 16384 := by rw [sortS_len, List.length_map]; exact hsz
 have hkmem : ∀ s ∈ sortS ((keepT T kk).safe.map (·.1)), ∃ i, valS (keepT T kk).safe s = some i ∧ i < T.files.length := fun s hs => by
  obtain ⟨e, he, rfl⟩ := List.mem_map.1 (sortS_mem hs)
  have w := (hT.wf.keep kk).safe
  exact ⟨e.2, mem_valS w.1 e he, (w.2 _ _ (mem_valS w.1 e he)).1⟩
 change Ss h7.nx h8 r (sortS ((keepT T kk).safe.map (·.1))) at hss
 generalize hkse : sortS ((keepT T kk).safe.map (·.1)) = ks at hss hklen hkmem
 have hlk : (∀ g, evLen Tryz.prog g #[55] r = some (.int .i64 (ks.length : Nat))) ∧ oneA r = true := by
  rcases hss with ⟨rfl, rfl⟩ | ⟨id, rfl, _⟩
  ·exact ⟨fun g => by simp [evLen, Tryz.underlying55], rfl⟩
  ·exact ⟨fun g => by simp [evLen, Tryz.underlying55], rfl⟩
 obtain ⟨lk, ok_⟩ := hlk
 simp (maxSteps := 1000000) -dsimp (disch := (repeat first | rw [nxn] | rw [nxp]); try omega) only [go_sem, lk, ok_]
 have hT1e : ∀ l q, (crashL T.now { keepT T kk with clock := (keepT T kk).clock + 1, now := [] } l q).safe = (keepT T kk).safe ∧ T.files.length ≤ (crashL T.now { keepT T kk with clock := (keepT T kk).clock + 1, now := [] } l q).files.length ∧ (crashL T.now { keepT T kk with clock := (keepT T kk).clock + 1, now := [] } l q).clock ≤ T.clock + 1 + l.length := fun l q => by
  obtain ⟨a1, a2, a3, _⟩ := crashL_eq T.now l { keepT T kk with clock := (keepT T kk).clock + 1, now := [] } q
  exact ⟨a1, a2, a3⟩
 have hcr0 : Cr K h2 p h5.nx sm h2.nx r (enS (mapS (fpt ρ) T.now)) ks T.files.length ρ v ps { keepT T kk with clock := (keepT T kk).clock + 1, now := [] } h8 := by
  have hg : Gr K h2 (fun j => if j = h5.nx then 2 else K j) h8 := g6.trans (frGr f68 _)
  refine ⟨⟨_, ρ, hT8, fun _ _ => rfl, hg, hv.gr hg, ?_, ?_⟩, ⟨bw, cw, (f68.get _ (by omega)).trans w6⟩, by have := f68.nx; omega⟩
  ·exact (if_neg (by omega)).trans (hT.top _ (Nat.le_refl _))
  ·rcases hss with ⟨_, h0⟩ | ⟨id, e1, e2, e3, e4⟩
   ·exact .inl h0
   ·exact .inr ⟨id, e1, e2, e3, (if_neg (by omega)).trans (hT.top _ (by omega))⟩
 generalize ({ keepT T kk with clock := (keepT T kk).clock + 1, now := [] } : TT) = T1 at hcr0 hT1e ⊢
 have hcl := hm.clock
 refine loopK_of (RnL.rounds (Q := fun ex u => ex = .exit 0 ∧ u.d = [] ∧ u.t.get 0 = some (.ptr p 0) ∧ ∃ v', Cr K h2 p h5.nx sm h2.nx r (enS (mapS (fpt ρ) T.now)) ks T.files.length ρ v' (ps.drop ks.length) (crashL T.now T1 ks ps) u.h)
  (fun m u => u.d = [] ∧ u.t.get 0 = some (.ptr p 0) ∧ u.t.get 7 = some (.map h2.nx) ∧ u.t.get 44 = some r ∧ u.t.get 45 = some (.int .i64 (ks.length : Nat)) ∧ ∃ (i : Nat) (v' : AV), u.t.get 46 = some (.int .i64 (i : Nat)) ∧ u.t.get 2 = some v' ∧ i ≤ ks.length ∧ Cr K h2 p h5.nx sm h2.nx r (enS (mapS (fpt ρ) T.now)) ks T.files.length ρ v' (ps.drop i) (crashL T.now T1 (ks.take i) ps) u.h ∧ m = ks.length - i) ?_ ks.length ?_) ?_
 ·rintro m ⟨t, g, d⟩ ⟨e2, g0, g7, g44, g45, i, v', g46, g2, hi, hcr, rfl⟩
  dsimp only at e2 g0 g7 g44 g45 g46 g2 hcr
  subst e2
  by_cases c4 : (i : Int) < (ks.length : Nat)
  ·have hil : i < ks.length := by omega
   obtain ⟨s, hs⟩ : ∃ s, ks[i]? = some s := ⟨_, List.getElem?_eq_getElem hil⟩
   obtain ⟨x, hx, hxl⟩ := hkmem s (List.mem_iff_getElem?.2 ⟨i, hs⟩)
   obtain ⟨⟨K', ρ', hT', hρ, hgr, hiv, kw, hkk⟩, ⟨wb, wc, hw⟩, hwl⟩ := hcr
   obtain ⟨z1, z2, z3⟩ := hT1e (ks.take i) ps
   have z3' : (crashL T.now T1 (ks.take i) ps).clock < 1152921504606846976 := by rw [List.length_take] at z3; omega
   have hnext := crashL_take (was := T.now) (T := T1) (ps := ps) hs
   generalize hTi : crashL T.now T1 (ks.take i) ps = Ti at hT' z1 z2 z3' hnext
   have hxi : x < Ti.files.length := by omega
   rw [← z1] at hx
   rcases hkk with h0 | ⟨kid, rfl, hkg, hkl, hk0⟩
   ·rw [h0] at hil; simp at hil
   have hcs : (ks.map AV.str)[i]? = some (.str s) := by simp [hs]
   have hp' := hT'.pp
   have lks := lookN hT'.safe s
   rw [hx] at lks
   have hfx := hT'.fl x hxi
   obtain ⟨bv, sv', q1, q2, q3, q4⟩ := hfx
   have hrl : ρ' x < g.nx := hT'.lt (by omega)
   obtain ⟨lv', sv2, ov'⟩ := hiv.ln
   have fo := fil_ok hT'.wf x
   have g2' : t.get 2 = some v' := g2
   cases hpd : ps.drop i with
   | nil =>
    rw [hpd] at lv' hiv hnext
    have hiv0 := hiv
    simp (maxSteps := 1000000) -dsimp (disch := (repeat first | rw [nxn] | rw [nxp]); try omega) only [go_sem, c4, hil, hkg, hcs, hp', lks, lv', ov', Nat.mul_one, g0, g7, g44, g45, g46, g2']
    have e0p : hd0 [] = 0 := rfl
    rw [e0p] at hnext
    unfold crash1 at hnext
    rw [hx] at hnext
    dsimp only at hnext
    have hfx1 : FilA K' g (ρ' x) (Ti.fil x) := ⟨bv, sv', ((Fr.refl g).get _ hrl).trans q1, q2.mono (fun j hj => ⟨hj, (Fr.refl g).get _ (hT'.lt (by omega))⟩) (Fr.refl g).nx, q3.mono (fun j hj => ⟨hj, (Fr.refl g).get _ (hT'.lt (by omega))⟩) (Fr.refl g).nx, q4⟩
    refine callK_of (leftFC hS hfx1 (Nat.lt_of_lt_of_le hrl (Fr.refl g).nx) fo 0) ?_
    rintro rb g2 ⟨hb2, f2⟩
    have hbok := leftF_ok fo 0 0
    have ob2 := (bsLn hb2).2.2
    generalize hbe : leftF (Ti.fil x) 0 = b at hb2 hbok hnext
    refine callK_of (cloneC hS hb2 (by have := hbok.2.2.1; simp only at this; omega)) ?_
    rintro r3 g3 ⟨hb3, f3'⟩
    have f13 : Fr g g3 := ((Fr.refl g).trans f2).trans f3'
    obtain ⟨lr3, sr3, or3⟩ := bsLn hb3.bs
    have q5 : g3.get (ρ' x) = _ := (f13.get _ hrl).trans q1
    have hn13 := f13.nx
    refine syDraw.keep (fun j => j < g3.nx) (by kernel_rfl) (by kernel_rfl) ?_
    simp (maxSteps := 1000000) -dsimp (disch := (repeat first | rw [nxn] | rw [nxp]); try omega) only [go_sem, or3, sr3, true_and, implies_true, sv_int, sv_bool, c4, hil, Nat.mul_one, g0, g7, g44, g45, g46, g2']
    have f4a : Fr g3 { tr := g3.tr, nx := g3.nx + 10 } := (Fr.refl g3).more _ (by omega)
    refine callK_of (cloneC hS (hb3.bs.fr f4a) (by have := hbok.2.2.1; simp only at this; omega)) ?_
    rintro r4 g4 ⟨hb4, f4⟩
    obtain ⟨lr4, sr4, or4⟩ := bsLn hb4.bs
    have f34 := f4a.trans f4
    have hn4 : g3.nx + 10 ≤ g4.nx := f4.nx
    refine ⟨fun id hid => f34.get id hid, ?_⟩
    have q6 : g4.get (ρ' x) = _ := (f34.get _ (Nat.lt_of_lt_of_le hrl hn13)).trans q5
    have hrl3 : ρ' x < g3.nx := Nat.lt_of_lt_of_le hrl hn13
    have bG := bldG (n := ((Ti.fil x).st : Nat)) hb3.shape hb4.shape
    simp (maxSteps := 1000000) -dsimp (disch := (repeat first | rw [nxn] | rw [nxp]); try omega) only [go_sem, or3, or4, sr3, sr4, q6, hrl3, bG, true_and, implies_true, sv_int, sv_bool, c4, hil, Nat.mul_one, g0, g7, g44, g45, g46, g2']
    generalize hg5 : g4.put (g3.nx + 8) (.cells [r3, r4, .int .u64 ((Ti.fil x).st : Nat)] true false) = g5
    generalize hK2e : (fun j => if j = g3.nx + 8 then 4 else if (g2.nx ≤ j ∧ j < g3.nx) ∨ (g3.nx + 10 ≤ j ∧ j < g4.nx) then 5 else K' j) = K2
    have n5x : g5.nx = g4.nx := by rw [← hg5]; rfl
    have hn12 : g.nx ≤ g2.nx := by have h1 := ((Fr.refl g)).nx; have h2' := f2.nx; omega
    have hn23 : g2.nx ≤ g3.nx := f3'.nx
    have hk28 : K2 (g3.nx + 8) = 4 := by rw [← hK2e]; exact if_pos rfl
    have hK2 : ∀ j, j < g.nx → K2 j = K' j := fun j hj => by
     rw [← hK2e]
     exact (if_neg (by omega)).trans (if_neg (by omega))
    have hK3 : ∀ j, g2.nx ≤ j → j < g3.nx → K2 j = 5 := fun j h1 h2 => by
     rw [← hK2e]
     exact (if_neg (by omega)).trans (if_pos (.inl ⟨h1, h2⟩))
    have hK4 : ∀ j, g3.nx + 10 ≤ j → j < g4.nx → K2 j = 5 := fun j h1 h2 => by
     rw [← hK2e]
     exact (if_neg (by omega)).trans (if_pos (.inr ⟨h1, h2⟩))
    have hfg5 : ∀ j, j < g.nx → g5.get j = g.get j := fun j hj => by
     rw [← hg5]
     exact (AH.get_put_ne (by omega)).trans ((f34.get j (by omega)).trans (f13.get j hj))
    have h35 : ∀ j, j < g3.nx → g5.get j = g3.get j := fun j hj => by
     rw [← hg5]
     exact (AH.get_put_ne (by omega)).trans (f34.get j hj)
    have hby3 : By K2 g5 r3 b := by
     rcases hb3 with h1 | ⟨id, c, cs, tx, h1, h2', h3', h4, h5⟩
     ·exact .inl h1
     ·exact .inr ⟨id, c, cs, tx, h1, (h35 id h3').trans h2', by omega, hK3 id h4 h3', h5⟩
    have hby4 : By K2 g5 r4 b := by
     rcases hb4 with h1 | ⟨id, c, cs, tx, h1, h2', h3', h4, h5⟩
     ·exact .inl h1
     ·have h4' : g3.nx + 10 ≤ id := h4
      exact .inr ⟨id, c, cs, tx, h1, by rw [← hg5]; exact (AH.get_put_ne (by omega)).trans h2', by omega, hK4 id h4' h3', h5⟩
    have hTA := hT'.addF (K' := K2) (id := g3.nx + 8) (f := ⟨b, b, (Ti.fil x).st⟩) (h' := g5) (fun j hj => ⟨hK2 j (hT'.lt hj), hfg5 j (hT'.lt hj)⟩) (hT'.top _ (by omega)) ⟨r3, r4, by rw [← hg5]; exact AH.get_put_eq rfl, hby3, hby4, hk28⟩ (by omega) (fun j hj => by
     rw [← hK2e]
     exact (if_neg (by omega)).trans ((if_neg (by omega)).trans (hT'.top j (by omega)))) (Wf.grow hT'.wf ⟨b, b, (Ti.fil x).st⟩ hbok Ti.clock)
    have hr2 : (if Ti.files.length = Ti.files.length then g3.nx + 8 else ρ' Ti.files.length) = g3.nx + 8 := if_pos rfl
    have hpA := hTA.pp
    have hs69 : s.length ≤ 69 := (hT'.wf.safe.2 s x hx).2
    have hpl2 : ∀ y, y < Ti.files.length → plainBlock g5 (ρ' y) = true := fun y hy => by
     have := plain_fil (hTA.fl y (by simp; omega))
     rw [if_neg (show ¬ y = Ti.files.length by omega)] at this
     exact this
    have lkw := lookN (h := g5) (m := h2.nx) (ρ := ρ) (E := T.now) ⟨wb, wc, (hfg5 _ hwl).trans hw⟩ s
    have hd1 : ps.drop (i + 1) = [] := by rw [← List.drop_drop (i := 1), hpd]; rfl
    cases hvn : valS T.now s with
    | none =>
     rw [hvn] at lkw
     have hno2 : ¬ (valS T.now s = some x ∧ b = (Ti.fil x).b) := fun hh => by rw [hvn] at hh; cases hh.1
     simp (maxSteps := 1000000) -dsimp (disch := (repeat first | rw [nxn] | rw [nxp]); try omega) only [go_sem, hg5, lkw, neNP, or3, or4, true_and, implies_true, sv_int, sv_bool, c4, hil, Nat.mul_one, g0, g7, g44, g45, g46, g2']
     refine callK_of (tickC hS hTA (by show Ti.clock < _; omega)) ?_
     rintro r6 g6 ⟨rfl, hT6, n6', o6⟩
     have n6'' : g6.nx = g4.nx := by rw [n6', ← hg5]; rfl
     have hfi : g6.get (g3.nx + 8) = some (.cells [r3, r4, .int .u64 ((Ti.fil x).st : Nat)] true false) := (o6 _ (by omega)).trans (by rw [← hg5]; exact AH.get_put_eq rfl)
     have hlt : Ti.files.length < (Ti.files ++ [(⟨b, b, Ti.clock + 1⟩ : Fil)]).length := by simp
     have efs : (Ti.files ++ [(⟨b, b, (Ti.fil x).st⟩ : Fil)]).set Ti.files.length ⟨b, b, Ti.clock + 1⟩ = Ti.files ++ [⟨b, b, Ti.clock + 1⟩] := by simp
     have hT7 := hT6.file (i := Ti.files.length) (K' := K2) (f := ⟨b, b, Ti.clock + 1⟩) (h' := g6.put (g3.nx + 8) (.cells [r3, r4, .int .u64 ((Ti.clock + 1 : Nat) : Int)] true false)) (by show Ti.files.length < (Ti.files ++ [_]).length; simp) (fun j hj => ⟨rfl, fun hji => AH.get_put_ne (fun hh => hji (hh.trans hr2.symm))⟩) (by
      rw [hr2]
      refine ⟨r3, r4, AH.get_put_eq rfl, hby3.mono (fun j hj => ⟨hj, ?_⟩) (by show g5.nx ≤ g6.nx; omega), hby4.mono (fun j hj => ⟨hj, ?_⟩) (by show g5.nx ≤ g6.nx; omega), hk28⟩
      ·exact (AH.get_put_ne (fun hh => by rw [hh, hk28] at hj; cases hj)).trans (o6 j (fun hh => by rw [hh, hTA.kp] at hj; cases hj))
      ·exact (AH.get_put_ne (fun hh => by rw [hh, hk28] at hj; cases hj)).trans (o6 j (fun hh => by rw [hh, hTA.kp] at hj; cases hj))) (Nat.le_refl _) (fun j hj => hT6.top j hj) (by
      have w := hT6.wf
      refine Wf.set w _ ?_ _
      exact ⟨hbok.1, hbok.2.1, hbok.2.2.1, hbok.2.2.2⟩)
     have e7 : ({ tickT { Ti with files := Ti.files ++ [⟨b, b, (Ti.fil x).st⟩] } with files := (tickT { Ti with files := Ti.files ++ [(⟨b, b, (Ti.fil x).st⟩ : Fil)] }).files.set Ti.files.length ⟨b, b, Ti.clock + 1⟩ } : TT) = { Ti with clock := Ti.clock + 1, files := Ti.files ++ [⟨b, b, Ti.clock + 1⟩] } := by
      show (⟨Ti.room, Ti.now, Ti.safe, Ti.notes, Ti.clock + 1, Ti.off, Ti.fuse, (Ti.files ++ [(⟨b, b, (Ti.fil x).st⟩ : Fil)]).set Ti.files.length ⟨b, b, Ti.clock + 1⟩⟩ : TT) = _
      rw [efs]
     rw [e7] at hT7
     have hp7 := hT7.pp
     obtain ⟨bs', ck', hu⟩ := setN hT7.now s Ti.files.length
     rw [hr2] at hu
     simp (maxSteps := 1000000) -dsimp (disch := (repeat first | rw [nxn] | rw [nxp]); try omega) only [go_sem, hg5, hfi, hp7, hu, or3, or4, true_and, implies_true, sv_int, sv_bool, c4, hil, Nat.mul_one, g0, g7, g44, g45, g46, g2']
     rw [if_neg (fun hh => hno2 hh)] at hnext
     have hT8 := hT7.setNow (h' := (g6.put (g3.nx + 8) (.cells [r3, r4, .int .u64 ((Ti.clock + 1 : Nat) : Int)] true false)).put h5.nx (.map (enS (mapS (fpt (fun j => if j = Ti.files.length then g3.nx + 8 else ρ' j)) (updS Ti.now s Ti.files.length))) bs' ck')) (hT7.wf.now.upd s hlt hs69) ⟨bs', ck', AH.get_put_eq rfl⟩ rfl (fun j hj => AH.get_put_ne hj)
     have hfr : ∀ o o' j, j < g.nx → j ≠ h5.nx → j ≠ p → ((g6.put (g3.nx + 8) o).put h5.nx o').get j = g.get j := fun o o' j hj hj2 hj3 => (AH.get_put_ne hj2).trans ((AH.get_put_ne (by omega)).trans ((o6 j hj3).trans (hfg5 j hj)))
     have hnx8 : g.nx ≤ g6.nx := by omega
     refine ⟨ks.length - (i + 1), by omega, i + 1, v', rfl, rfl, by omega, ?_, rfl⟩
     rw [hnext, hd1]
     have hgr8 : Gr K' g K2 ((g6.put (g3.nx + 8) (.cells [r3, r4, .int .u64 ((Ti.clock + 1 : Nat) : Int)] true false)).put h5.nx (.map (enS (mapS (fpt (fun j => if j = Ti.files.length then g3.nx + 8 else ρ' j)) (updS Ti.now s Ti.files.length))) bs' ck')) := ⟨hnx8, fun j hj hk => ⟨hfr _ _ j hj (fun hh => by rw [hh, hT'.kn] at hk; cases hk) (fun hh => by rw [hh, hT'.kp] at hk; cases hk), (hK2 j hj).trans hk⟩⟩
     refine ⟨⟨K2, _, hT8, fun y hy => ?_, hgr.trans hgr8, hiv0.gr hgr8, (hK2 _ hwl).trans kw, .inr ⟨kid, rfl, (hgr8.get _ hkl hk0).1.trans hkg, Nat.lt_of_lt_of_le hkl hnx8, (hgr8.get _ hkl hk0).2⟩⟩, ⟨wb, wc, (hgr8.get _ hwl kw).1.trans hw⟩, Nat.lt_of_lt_of_le hwl hnx8⟩
     exact (if_neg (by omega)).trans (hρ y hy)
    | some y =>
     rw [hvn] at lkw
     have hyl : y < T.files.length := (hT.wf.now.2 s y hvn).1
     have ey : ρ y = ρ' y := (hρ y hyl).symm
     dsimp only at lkw
     rw [ey] at lkw
     have hne := nePP (hpl2 y (by omega)) (hpl2 x hxi)
     by_cases hyx : y = x
     ·have hne2 : binA Tryz.prog g5 .neq 108 (.ptr (ρ' y) 0) (.ptr (ρ' x) 0) = some (.bool false) := by rw [hne, hyx]; simp
      have q7 : g5.get (ρ' x) = _ := (hfg5 _ hrl).trans q1
      simp (maxSteps := 1000000) -dsimp (disch := (repeat first | rw [nxn] | rw [nxp]); try omega) only [go_sem, hg5, lkw, hne2, q7, or3, or4, true_and, implies_true, sv_int, sv_bool, c4, hil, Nat.mul_one, g0, g7, g44, g45, g46, g2']
      have hbv5 : Bs g5 bv (Ti.fil x).b := (q2.mono (K' := K') (h' := g5) (fun j hj => ⟨hj, hfg5 j (hT'.lt (by omega))⟩) (by omega)).bs
      refine callK_of (equalC hS hby3.bs hbv5 hbok.1 fo.1) ?_
      rintro rq gq ⟨rfl, hgq⟩
      have hgq' := hgq.symm
      subst hgq'
      by_cases hbb : b = (Ti.fil x).b
      ·have dbb : decide (b = (Ti.fil x).b) = true := by simpa using hbb
       simp (maxSteps := 1000000) -dsimp (disch := (repeat first | rw [nxn] | rw [nxp]); try omega) only [go_sem, hg5, dbb, c4, hil, Nat.mul_one, g0, g7, g44, g45, g46, g2']
       have hlt : Ti.files.length < (Ti.files ++ [(⟨b, b, (Ti.fil x).st⟩ : Fil)]).length := by simp
       obtain ⟨bs', ck', hu⟩ := setN hTA.now s Ti.files.length
       rw [hr2] at hu
       simp (maxSteps := 1000000) -dsimp (disch := (repeat first | rw [nxn] | rw [nxp]); try omega) only [go_sem, hg5, hpA, hu, or3, or4, true_and, implies_true, sv_int, sv_bool, c4, hil, Nat.mul_one, g0, g7, g44, g45, g46, g2']
       rw [if_pos ⟨by rw [hvn, hyx], hbb⟩] at hnext
       have hT8 := hTA.setNow (h' := g5.put h5.nx (.map (enS (mapS (fpt (fun j => if j = Ti.files.length then g3.nx + 8 else ρ' j)) (updS Ti.now s Ti.files.length))) bs' ck')) (hTA.wf.now.upd s hlt hs69) ⟨bs', ck', AH.get_put_eq rfl⟩ rfl (fun j hj => AH.get_put_ne hj)
       have hfr : ∀ o j, j < g.nx → j ≠ h5.nx → j ≠ p → (g5.put h5.nx o).get j = g.get j := fun o j hj hj2 hj3 => (AH.get_put_ne hj2).trans (hfg5 j hj)
       have hnx8 : g.nx ≤ g5.nx := by omega
       refine ⟨ks.length - (i + 1), by omega, i + 1, v', rfl, rfl, by omega, ?_, rfl⟩
       rw [hnext, hd1]
       have hgr8 : Gr K' g K2 (g5.put h5.nx (.map (enS (mapS (fpt (fun j => if j = Ti.files.length then g3.nx + 8 else ρ' j)) (updS Ti.now s Ti.files.length))) bs' ck')) := ⟨hnx8, fun j hj hk => ⟨hfr _ j hj (fun hh => by rw [hh, hT'.kn] at hk; cases hk) (fun hh => by rw [hh, hT'.kp] at hk; cases hk), (hK2 j hj).trans hk⟩⟩
       refine ⟨⟨K2, _, hT8, fun y hy => ?_, hgr.trans hgr8, hiv0.gr hgr8, (hK2 _ hwl).trans kw, .inr ⟨kid, rfl, (hgr8.get _ hkl hk0).1.trans hkg, Nat.lt_of_lt_of_le hkl hnx8, (hgr8.get _ hkl hk0).2⟩⟩, ⟨wb, wc, (hgr8.get _ hwl kw).1.trans hw⟩, Nat.lt_of_lt_of_le hwl hnx8⟩
       exact (if_neg (by omega)).trans (hρ y hy)
      ·have dbb : decide (b = (Ti.fil x).b) = false := by simpa using hbb
       have hno2 : ¬ (valS T.now s = some x ∧ b = (Ti.fil x).b) := fun hh => hbb hh.2
       simp (maxSteps := 1000000) -dsimp (disch := (repeat first | rw [nxn] | rw [nxp]); try omega) only [go_sem, hg5, dbb, c4, hil, Nat.mul_one, g0, g7, g44, g45, g46, g2']
       refine callK_of (tickC hS hTA (by show Ti.clock < _; omega)) ?_
       rintro r6 g6 ⟨rfl, hT6, n6', o6⟩
       have n6'' : g6.nx = g4.nx := by rw [n6', ← hg5]; rfl
       have hfi : g6.get (g3.nx + 8) = some (.cells [r3, r4, .int .u64 ((Ti.fil x).st : Nat)] true false) := (o6 _ (by omega)).trans (by rw [← hg5]; exact AH.get_put_eq rfl)
       have hlt : Ti.files.length < (Ti.files ++ [(⟨b, b, Ti.clock + 1⟩ : Fil)]).length := by simp
       have efs : (Ti.files ++ [(⟨b, b, (Ti.fil x).st⟩ : Fil)]).set Ti.files.length ⟨b, b, Ti.clock + 1⟩ = Ti.files ++ [⟨b, b, Ti.clock + 1⟩] := by simp
       have hT7 := hT6.file (i := Ti.files.length) (K' := K2) (f := ⟨b, b, Ti.clock + 1⟩) (h' := g6.put (g3.nx + 8) (.cells [r3, r4, .int .u64 ((Ti.clock + 1 : Nat) : Int)] true false)) (by show Ti.files.length < (Ti.files ++ [_]).length; simp) (fun j hj => ⟨rfl, fun hji => AH.get_put_ne (fun hh => hji (hh.trans hr2.symm))⟩) (by
        rw [hr2]
        refine ⟨r3, r4, AH.get_put_eq rfl, hby3.mono (fun j hj => ⟨hj, ?_⟩) (by show g5.nx ≤ g6.nx; omega), hby4.mono (fun j hj => ⟨hj, ?_⟩) (by show g5.nx ≤ g6.nx; omega), hk28⟩
        ·exact (AH.get_put_ne (fun hh => by rw [hh, hk28] at hj; cases hj)).trans (o6 j (fun hh => by rw [hh, hTA.kp] at hj; cases hj))
        ·exact (AH.get_put_ne (fun hh => by rw [hh, hk28] at hj; cases hj)).trans (o6 j (fun hh => by rw [hh, hTA.kp] at hj; cases hj))) (Nat.le_refl _) (fun j hj => hT6.top j hj) (by
        have w := hT6.wf
        refine Wf.set w _ ?_ _
        exact ⟨hbok.1, hbok.2.1, hbok.2.2.1, hbok.2.2.2⟩)
       have e7 : ({ tickT { Ti with files := Ti.files ++ [⟨b, b, (Ti.fil x).st⟩] } with files := (tickT { Ti with files := Ti.files ++ [(⟨b, b, (Ti.fil x).st⟩ : Fil)] }).files.set Ti.files.length ⟨b, b, Ti.clock + 1⟩ } : TT) = { Ti with clock := Ti.clock + 1, files := Ti.files ++ [⟨b, b, Ti.clock + 1⟩] } := by
        show (⟨Ti.room, Ti.now, Ti.safe, Ti.notes, Ti.clock + 1, Ti.off, Ti.fuse, (Ti.files ++ [(⟨b, b, (Ti.fil x).st⟩ : Fil)]).set Ti.files.length ⟨b, b, Ti.clock + 1⟩⟩ : TT) = _
        rw [efs]
       rw [e7] at hT7
       have hp7 := hT7.pp
       obtain ⟨bs', ck', hu⟩ := setN hT7.now s Ti.files.length
       rw [hr2] at hu
       simp (maxSteps := 1000000) -dsimp (disch := (repeat first | rw [nxn] | rw [nxp]); try omega) only [go_sem, hg5, hfi, hp7, hu, or3, or4, true_and, implies_true, sv_int, sv_bool, c4, hil, Nat.mul_one, g0, g7, g44, g45, g46, g2']
       rw [if_neg (fun hh => hno2 hh)] at hnext
       have hT8 := hT7.setNow (h' := (g6.put (g3.nx + 8) (.cells [r3, r4, .int .u64 ((Ti.clock + 1 : Nat) : Int)] true false)).put h5.nx (.map (enS (mapS (fpt (fun j => if j = Ti.files.length then g3.nx + 8 else ρ' j)) (updS Ti.now s Ti.files.length))) bs' ck')) (hT7.wf.now.upd s hlt hs69) ⟨bs', ck', AH.get_put_eq rfl⟩ rfl (fun j hj => AH.get_put_ne hj)
       have hfr : ∀ o o' j, j < g.nx → j ≠ h5.nx → j ≠ p → ((g6.put (g3.nx + 8) o).put h5.nx o').get j = g.get j := fun o o' j hj hj2 hj3 => (AH.get_put_ne hj2).trans ((AH.get_put_ne (by omega)).trans ((o6 j hj3).trans (hfg5 j hj)))
       have hnx8 : g.nx ≤ g6.nx := by omega
       refine ⟨ks.length - (i + 1), by omega, i + 1, v', rfl, rfl, by omega, ?_, rfl⟩
       rw [hnext, hd1]
       have hgr8 : Gr K' g K2 ((g6.put (g3.nx + 8) (.cells [r3, r4, .int .u64 ((Ti.clock + 1 : Nat) : Int)] true false)).put h5.nx (.map (enS (mapS (fpt (fun j => if j = Ti.files.length then g3.nx + 8 else ρ' j)) (updS Ti.now s Ti.files.length))) bs' ck')) := ⟨hnx8, fun j hj hk => ⟨hfr _ _ j hj (fun hh => by rw [hh, hT'.kn] at hk; cases hk) (fun hh => by rw [hh, hT'.kp] at hk; cases hk), (hK2 j hj).trans hk⟩⟩
       refine ⟨⟨K2, _, hT8, fun y hy => ?_, hgr.trans hgr8, hiv0.gr hgr8, (hK2 _ hwl).trans kw, .inr ⟨kid, rfl, (hgr8.get _ hkl hk0).1.trans hkg, Nat.lt_of_lt_of_le hkl hnx8, (hgr8.get _ hkl hk0).2⟩⟩, ⟨wb, wc, (hgr8.get _ hwl kw).1.trans hw⟩, Nat.lt_of_lt_of_le hwl hnx8⟩
       exact (if_neg (by omega)).trans (hρ y hy)
     ·have hne2 : binA Tryz.prog g5 .neq 108 (.ptr (ρ' y) 0) (.ptr (ρ' x) 0) = some (.bool true) := by
       rw [hne]
       have : ¬ ρ' y = ρ' x := fun hh => hyx (hT'.inj y x (by omega) hxi hh)
       simp [this]
      have hno2 : ¬ (valS T.now s = some x ∧ b = (Ti.fil x).b) := fun hh => by rw [hvn] at hh; exact hyx (Option.some.inj hh.1)
      simp (maxSteps := 1000000) -dsimp (disch := (repeat first | rw [nxn] | rw [nxp]); try omega) only [go_sem, hg5, lkw, hne2, or3, or4, true_and, implies_true, sv_int, sv_bool, c4, hil, Nat.mul_one, g0, g7, g44, g45, g46, g2']
      refine callK_of (tickC hS hTA (by show Ti.clock < _; omega)) ?_
      rintro r6 g6 ⟨rfl, hT6, n6', o6⟩
      have n6'' : g6.nx = g4.nx := by rw [n6', ← hg5]; rfl
      have hfi : g6.get (g3.nx + 8) = some (.cells [r3, r4, .int .u64 ((Ti.fil x).st : Nat)] true false) := (o6 _ (by omega)).trans (by rw [← hg5]; exact AH.get_put_eq rfl)
      have hlt : Ti.files.length < (Ti.files ++ [(⟨b, b, Ti.clock + 1⟩ : Fil)]).length := by simp
      have efs : (Ti.files ++ [(⟨b, b, (Ti.fil x).st⟩ : Fil)]).set Ti.files.length ⟨b, b, Ti.clock + 1⟩ = Ti.files ++ [⟨b, b, Ti.clock + 1⟩] := by simp
      have hT7 := hT6.file (i := Ti.files.length) (K' := K2) (f := ⟨b, b, Ti.clock + 1⟩) (h' := g6.put (g3.nx + 8) (.cells [r3, r4, .int .u64 ((Ti.clock + 1 : Nat) : Int)] true false)) (by show Ti.files.length < (Ti.files ++ [_]).length; simp) (fun j hj => ⟨rfl, fun hji => AH.get_put_ne (fun hh => hji (hh.trans hr2.symm))⟩) (by
       rw [hr2]
       refine ⟨r3, r4, AH.get_put_eq rfl, hby3.mono (fun j hj => ⟨hj, ?_⟩) (by show g5.nx ≤ g6.nx; omega), hby4.mono (fun j hj => ⟨hj, ?_⟩) (by show g5.nx ≤ g6.nx; omega), hk28⟩
       ·exact (AH.get_put_ne (fun hh => by rw [hh, hk28] at hj; cases hj)).trans (o6 j (fun hh => by rw [hh, hTA.kp] at hj; cases hj))
       ·exact (AH.get_put_ne (fun hh => by rw [hh, hk28] at hj; cases hj)).trans (o6 j (fun hh => by rw [hh, hTA.kp] at hj; cases hj))) (Nat.le_refl _) (fun j hj => hT6.top j hj) (by
       have w := hT6.wf
       refine Wf.set w _ ?_ _
       exact ⟨hbok.1, hbok.2.1, hbok.2.2.1, hbok.2.2.2⟩)
      have e7 : ({ tickT { Ti with files := Ti.files ++ [⟨b, b, (Ti.fil x).st⟩] } with files := (tickT { Ti with files := Ti.files ++ [(⟨b, b, (Ti.fil x).st⟩ : Fil)] }).files.set Ti.files.length ⟨b, b, Ti.clock + 1⟩ } : TT) = { Ti with clock := Ti.clock + 1, files := Ti.files ++ [⟨b, b, Ti.clock + 1⟩] } := by
       show (⟨Ti.room, Ti.now, Ti.safe, Ti.notes, Ti.clock + 1, Ti.off, Ti.fuse, (Ti.files ++ [(⟨b, b, (Ti.fil x).st⟩ : Fil)]).set Ti.files.length ⟨b, b, Ti.clock + 1⟩⟩ : TT) = _
       rw [efs]
      rw [e7] at hT7
      have hp7 := hT7.pp
      obtain ⟨bs', ck', hu⟩ := setN hT7.now s Ti.files.length
      rw [hr2] at hu
      simp (maxSteps := 1000000) -dsimp (disch := (repeat first | rw [nxn] | rw [nxp]); try omega) only [go_sem, hg5, hfi, hp7, hu, or3, or4, true_and, implies_true, sv_int, sv_bool, c4, hil, Nat.mul_one, g0, g7, g44, g45, g46, g2']
      rw [if_neg (fun hh => hno2 hh)] at hnext
      have hT8 := hT7.setNow (h' := (g6.put (g3.nx + 8) (.cells [r3, r4, .int .u64 ((Ti.clock + 1 : Nat) : Int)] true false)).put h5.nx (.map (enS (mapS (fpt (fun j => if j = Ti.files.length then g3.nx + 8 else ρ' j)) (updS Ti.now s Ti.files.length))) bs' ck')) (hT7.wf.now.upd s hlt hs69) ⟨bs', ck', AH.get_put_eq rfl⟩ rfl (fun j hj => AH.get_put_ne hj)
      have hfr : ∀ o o' j, j < g.nx → j ≠ h5.nx → j ≠ p → ((g6.put (g3.nx + 8) o).put h5.nx o').get j = g.get j := fun o o' j hj hj2 hj3 => (AH.get_put_ne hj2).trans ((AH.get_put_ne (by omega)).trans ((o6 j hj3).trans (hfg5 j hj)))
      have hnx8 : g.nx ≤ g6.nx := by omega
      refine ⟨ks.length - (i + 1), by omega, i + 1, v', rfl, rfl, by omega, ?_, rfl⟩
      rw [hnext, hd1]
      have hgr8 : Gr K' g K2 ((g6.put (g3.nx + 8) (.cells [r3, r4, .int .u64 ((Ti.clock + 1 : Nat) : Int)] true false)).put h5.nx (.map (enS (mapS (fpt (fun j => if j = Ti.files.length then g3.nx + 8 else ρ' j)) (updS Ti.now s Ti.files.length))) bs' ck')) := ⟨hnx8, fun j hj hk => ⟨hfr _ _ j hj (fun hh => by rw [hh, hT'.kn] at hk; cases hk) (fun hh => by rw [hh, hT'.kp] at hk; cases hk), (hK2 j hj).trans hk⟩⟩
      refine ⟨⟨K2, _, hT8, fun y hy => ?_, hgr.trans hgr8, hiv0.gr hgr8, (hK2 _ hwl).trans kw, .inr ⟨kid, rfl, (hgr8.get _ hkl hk0).1.trans hkg, Nat.lt_of_lt_of_le hkl hnx8, (hgr8.get _ hkl hk0).2⟩⟩, ⟨wb, wc, (hgr8.get _ hwl kw).1.trans hw⟩, Nat.lt_of_lt_of_le hwl hnx8⟩
      exact (if_neg (by omega)).trans (hρ y hy)
   | cons part rest =>
    rw [hpd] at lv' hiv hnext
    have hcp : (0 : Int) < ((rest.length + 1 : Nat) : Int) := by omega
    obtain ⟨ia, io, ic, ics, iow, itx, v2, rfl, ig, i0, isl, hiv2⟩ := hiv.tail
    have hicl : io + 0 < ics.length := by have := (List.getElem?_eq_some_iff.1 i0).1; omega
    have e0p : hd0 (part :: rest) = part := rfl
    rw [e0p] at hnext
    unfold crash1 at hnext
    rw [hx] at hnext
    dsimp only at hnext
    simp (maxSteps := 1000000) -dsimp (disch := (repeat first | rw [nxn] | rw [nxp]); try omega) only [go_sem, c4, hil, hkg, hcs, hp', lks, lv', ov', hcp, Nat.mul_one, g0, g7, g44, g45, g46, g2']
    refine syDraw.go0 (by kernel_rfl) ?_
    have ov2 := hiv2.ln.2.2
    have f7g : Fr g { tr := g.tr, nx := g.nx + 7 } := (Fr.refl g).more _ (by omega)
    simp (maxSteps := 1000000) -dsimp (disch := (repeat first | rw [nxn] | rw [nxp]); try omega) only [go_sem, ig, i0, isl, ov2, Nat.mul_one, g0, g7, g44, g45, g46, g2']
    have hfx1 : FilA K' { tr := g.tr, nx := g.nx + 7 } (ρ' x) (Ti.fil x) := ⟨bv, sv', (f7g.get _ hrl).trans q1, q2.mono (fun j hj => ⟨hj, f7g.get _ (hT'.lt (by omega))⟩) f7g.nx, q3.mono (fun j hj => ⟨hj, f7g.get _ (hT'.lt (by omega))⟩) f7g.nx, q4⟩
    refine callK_of (leftFC hS hfx1 (Nat.lt_of_lt_of_le hrl f7g.nx) fo part) ?_
    rintro rb g2 ⟨hb2, f2⟩
    have hbok := leftF_ok fo part 0
    have ob2 := (bsLn hb2).2.2
    generalize hbe : leftF (Ti.fil x) part = b at hb2 hbok hnext
    refine callK_of (cloneC hS hb2 (by have := hbok.2.2.1; simp only at this; omega)) ?_
    rintro r3 g3 ⟨hb3, f3'⟩
    have f13 : Fr g g3 := (f7g.trans f2).trans f3'
    obtain ⟨lr3, sr3, or3⟩ := bsLn hb3.bs
    have q5 : g3.get (ρ' x) = _ := (f13.get _ hrl).trans q1
    have hn13 := f13.nx
    refine syDraw.keep (fun j => j < g3.nx) (by kernel_rfl) (by kernel_rfl) ?_
    simp (maxSteps := 1000000) -dsimp (disch := (repeat first | rw [nxn] | rw [nxp]); try omega) only [go_sem, or3, sr3, true_and, implies_true, sv_int, sv_bool, c4, hil, Nat.mul_one, g0, g7, g44, g45, g46, g2']
    have f4a : Fr g3 { tr := g3.tr, nx := g3.nx + 10 } := (Fr.refl g3).more _ (by omega)
    refine callK_of (cloneC hS (hb3.bs.fr f4a) (by have := hbok.2.2.1; simp only at this; omega)) ?_
    rintro r4 g4 ⟨hb4, f4⟩
    obtain ⟨lr4, sr4, or4⟩ := bsLn hb4.bs
    have f34 := f4a.trans f4
    have hn4 : g3.nx + 10 ≤ g4.nx := f4.nx
    refine ⟨fun id hid => f34.get id hid, ?_⟩
    have q6 : g4.get (ρ' x) = _ := (f34.get _ (Nat.lt_of_lt_of_le hrl hn13)).trans q5
    have hrl3 : ρ' x < g3.nx := Nat.lt_of_lt_of_le hrl hn13
    have bG := bldG (n := ((Ti.fil x).st : Nat)) hb3.shape hb4.shape
    simp (maxSteps := 1000000) -dsimp (disch := (repeat first | rw [nxn] | rw [nxp]); try omega) only [go_sem, or3, or4, sr3, sr4, q6, hrl3, bG, true_and, implies_true, sv_int, sv_bool, c4, hil, Nat.mul_one, g0, g7, g44, g45, g46, g2']
    generalize hg5 : g4.put (g3.nx + 8) (.cells [r3, r4, .int .u64 ((Ti.fil x).st : Nat)] true false) = g5
    generalize hK2e : (fun j => if j = g3.nx + 8 then 4 else if (g2.nx ≤ j ∧ j < g3.nx) ∨ (g3.nx + 10 ≤ j ∧ j < g4.nx) then 5 else K' j) = K2
    have n5x : g5.nx = g4.nx := by rw [← hg5]; rfl
    have hn12 : g.nx ≤ g2.nx := by have h1 := (f7g).nx; have h2' := f2.nx; omega
    have hn23 : g2.nx ≤ g3.nx := f3'.nx
    have hk28 : K2 (g3.nx + 8) = 4 := by rw [← hK2e]; exact if_pos rfl
    have hK2 : ∀ j, j < g.nx → K2 j = K' j := fun j hj => by
     rw [← hK2e]
     exact (if_neg (by omega)).trans (if_neg (by omega))
    have hK3 : ∀ j, g2.nx ≤ j → j < g3.nx → K2 j = 5 := fun j h1 h2 => by
     rw [← hK2e]
     exact (if_neg (by omega)).trans (if_pos (.inl ⟨h1, h2⟩))
    have hK4 : ∀ j, g3.nx + 10 ≤ j → j < g4.nx → K2 j = 5 := fun j h1 h2 => by
     rw [← hK2e]
     exact (if_neg (by omega)).trans (if_pos (.inr ⟨h1, h2⟩))
    have hfg5 : ∀ j, j < g.nx → g5.get j = g.get j := fun j hj => by
     rw [← hg5]
     exact (AH.get_put_ne (by omega)).trans ((f34.get j (by omega)).trans (f13.get j hj))
    have h35 : ∀ j, j < g3.nx → g5.get j = g3.get j := fun j hj => by
     rw [← hg5]
     exact (AH.get_put_ne (by omega)).trans (f34.get j hj)
    have hby3 : By K2 g5 r3 b := by
     rcases hb3 with h1 | ⟨id, c, cs, tx, h1, h2', h3', h4, h5⟩
     ·exact .inl h1
     ·exact .inr ⟨id, c, cs, tx, h1, (h35 id h3').trans h2', by omega, hK3 id h4 h3', h5⟩
    have hby4 : By K2 g5 r4 b := by
     rcases hb4 with h1 | ⟨id, c, cs, tx, h1, h2', h3', h4, h5⟩
     ·exact .inl h1
     ·have h4' : g3.nx + 10 ≤ id := h4
      exact .inr ⟨id, c, cs, tx, h1, by rw [← hg5]; exact (AH.get_put_ne (by omega)).trans h2', by omega, hK4 id h4' h3', h5⟩
    have hTA := hT'.addF (K' := K2) (id := g3.nx + 8) (f := ⟨b, b, (Ti.fil x).st⟩) (h' := g5) (fun j hj => ⟨hK2 j (hT'.lt hj), hfg5 j (hT'.lt hj)⟩) (hT'.top _ (by omega)) ⟨r3, r4, by rw [← hg5]; exact AH.get_put_eq rfl, hby3, hby4, hk28⟩ (by omega) (fun j hj => by
     rw [← hK2e]
     exact (if_neg (by omega)).trans ((if_neg (by omega)).trans (hT'.top j (by omega)))) (Wf.grow hT'.wf ⟨b, b, (Ti.fil x).st⟩ hbok Ti.clock)
    have hr2 : (if Ti.files.length = Ti.files.length then g3.nx + 8 else ρ' Ti.files.length) = g3.nx + 8 := if_pos rfl
    have hpA := hTA.pp
    have hs69 : s.length ≤ 69 := (hT'.wf.safe.2 s x hx).2
    have hpl2 : ∀ y, y < Ti.files.length → plainBlock g5 (ρ' y) = true := fun y hy => by
     have := plain_fil (hTA.fl y (by simp; omega))
     rw [if_neg (show ¬ y = Ti.files.length by omega)] at this
     exact this
    have lkw := lookN (h := g5) (m := h2.nx) (ρ := ρ) (E := T.now) ⟨wb, wc, (hfg5 _ hwl).trans hw⟩ s
    have hd1 : ps.drop (i + 1) = rest := by rw [← List.drop_drop (i := 1), hpd]; rfl
    cases hvn : valS T.now s with
    | none =>
     rw [hvn] at lkw
     have hno2 : ¬ (valS T.now s = some x ∧ b = (Ti.fil x).b) := fun hh => by rw [hvn] at hh; cases hh.1
     simp (maxSteps := 1000000) -dsimp (disch := (repeat first | rw [nxn] | rw [nxp]); try omega) only [go_sem, hg5, lkw, neNP, or3, or4, true_and, implies_true, sv_int, sv_bool, c4, hil, Nat.mul_one, g0, g7, g44, g45, g46, g2']
     refine callK_of (tickC hS hTA (by show Ti.clock < _; omega)) ?_
     rintro r6 g6 ⟨rfl, hT6, n6', o6⟩
     have n6'' : g6.nx = g4.nx := by rw [n6', ← hg5]; rfl
     have hfi : g6.get (g3.nx + 8) = some (.cells [r3, r4, .int .u64 ((Ti.fil x).st : Nat)] true false) := (o6 _ (by omega)).trans (by rw [← hg5]; exact AH.get_put_eq rfl)
     have hlt : Ti.files.length < (Ti.files ++ [(⟨b, b, Ti.clock + 1⟩ : Fil)]).length := by simp
     have efs : (Ti.files ++ [(⟨b, b, (Ti.fil x).st⟩ : Fil)]).set Ti.files.length ⟨b, b, Ti.clock + 1⟩ = Ti.files ++ [⟨b, b, Ti.clock + 1⟩] := by simp
     have hT7 := hT6.file (i := Ti.files.length) (K' := K2) (f := ⟨b, b, Ti.clock + 1⟩) (h' := g6.put (g3.nx + 8) (.cells [r3, r4, .int .u64 ((Ti.clock + 1 : Nat) : Int)] true false)) (by show Ti.files.length < (Ti.files ++ [_]).length; simp) (fun j hj => ⟨rfl, fun hji => AH.get_put_ne (fun hh => hji (hh.trans hr2.symm))⟩) (by
      rw [hr2]
      refine ⟨r3, r4, AH.get_put_eq rfl, hby3.mono (fun j hj => ⟨hj, ?_⟩) (by show g5.nx ≤ g6.nx; omega), hby4.mono (fun j hj => ⟨hj, ?_⟩) (by show g5.nx ≤ g6.nx; omega), hk28⟩
      ·exact (AH.get_put_ne (fun hh => by rw [hh, hk28] at hj; cases hj)).trans (o6 j (fun hh => by rw [hh, hTA.kp] at hj; cases hj))
      ·exact (AH.get_put_ne (fun hh => by rw [hh, hk28] at hj; cases hj)).trans (o6 j (fun hh => by rw [hh, hTA.kp] at hj; cases hj))) (Nat.le_refl _) (fun j hj => hT6.top j hj) (by
      have w := hT6.wf
      refine Wf.set w _ ?_ _
      exact ⟨hbok.1, hbok.2.1, hbok.2.2.1, hbok.2.2.2⟩)
     have e7 : ({ tickT { Ti with files := Ti.files ++ [⟨b, b, (Ti.fil x).st⟩] } with files := (tickT { Ti with files := Ti.files ++ [(⟨b, b, (Ti.fil x).st⟩ : Fil)] }).files.set Ti.files.length ⟨b, b, Ti.clock + 1⟩ } : TT) = { Ti with clock := Ti.clock + 1, files := Ti.files ++ [⟨b, b, Ti.clock + 1⟩] } := by
      show (⟨Ti.room, Ti.now, Ti.safe, Ti.notes, Ti.clock + 1, Ti.off, Ti.fuse, (Ti.files ++ [(⟨b, b, (Ti.fil x).st⟩ : Fil)]).set Ti.files.length ⟨b, b, Ti.clock + 1⟩⟩ : TT) = _
      rw [efs]
     rw [e7] at hT7
     have hp7 := hT7.pp
     obtain ⟨bs', ck', hu⟩ := setN hT7.now s Ti.files.length
     rw [hr2] at hu
     simp (maxSteps := 1000000) -dsimp (disch := (repeat first | rw [nxn] | rw [nxp]); try omega) only [go_sem, hg5, hfi, hp7, hu, or3, or4, true_and, implies_true, sv_int, sv_bool, c4, hil, Nat.mul_one, g0, g7, g44, g45, g46, g2']
     rw [if_neg (fun hh => hno2 hh)] at hnext
     have hT8 := hT7.setNow (h' := (g6.put (g3.nx + 8) (.cells [r3, r4, .int .u64 ((Ti.clock + 1 : Nat) : Int)] true false)).put h5.nx (.map (enS (mapS (fpt (fun j => if j = Ti.files.length then g3.nx + 8 else ρ' j)) (updS Ti.now s Ti.files.length))) bs' ck')) (hT7.wf.now.upd s hlt hs69) ⟨bs', ck', AH.get_put_eq rfl⟩ rfl (fun j hj => AH.get_put_ne hj)
     have hfr : ∀ o o' j, j < g.nx → j ≠ h5.nx → j ≠ p → ((g6.put (g3.nx + 8) o).put h5.nx o').get j = g.get j := fun o o' j hj hj2 hj3 => (AH.get_put_ne hj2).trans ((AH.get_put_ne (by omega)).trans ((o6 j hj3).trans (hfg5 j hj)))
     have hnx8 : g.nx ≤ g6.nx := by omega
     refine ⟨ks.length - (i + 1), by omega, i + 1, v2, rfl, rfl, by omega, ?_, rfl⟩
     rw [hnext, hd1]
     have hgr8 : Gr K' g K2 ((g6.put (g3.nx + 8) (.cells [r3, r4, .int .u64 ((Ti.clock + 1 : Nat) : Int)] true false)).put h5.nx (.map (enS (mapS (fpt (fun j => if j = Ti.files.length then g3.nx + 8 else ρ' j)) (updS Ti.now s Ti.files.length))) bs' ck')) := ⟨hnx8, fun j hj hk => ⟨hfr _ _ j hj (fun hh => by rw [hh, hT'.kn] at hk; cases hk) (fun hh => by rw [hh, hT'.kp] at hk; cases hk), (hK2 j hj).trans hk⟩⟩
     refine ⟨⟨K2, _, hT8, fun y hy => ?_, hgr.trans hgr8, hiv2.gr hgr8, (hK2 _ hwl).trans kw, .inr ⟨kid, rfl, (hgr8.get _ hkl hk0).1.trans hkg, Nat.lt_of_lt_of_le hkl hnx8, (hgr8.get _ hkl hk0).2⟩⟩, ⟨wb, wc, (hgr8.get _ hwl kw).1.trans hw⟩, Nat.lt_of_lt_of_le hwl hnx8⟩
     exact (if_neg (by omega)).trans (hρ y hy)
    | some y =>
     rw [hvn] at lkw
     have hyl : y < T.files.length := (hT.wf.now.2 s y hvn).1
     have ey : ρ y = ρ' y := (hρ y hyl).symm
     dsimp only at lkw
     rw [ey] at lkw
     have hne := nePP (hpl2 y (by omega)) (hpl2 x hxi)
     by_cases hyx : y = x
     ·have hne2 : binA Tryz.prog g5 .neq 108 (.ptr (ρ' y) 0) (.ptr (ρ' x) 0) = some (.bool false) := by rw [hne, hyx]; simp
      have q7 : g5.get (ρ' x) = _ := (hfg5 _ hrl).trans q1
      simp (maxSteps := 1000000) -dsimp (disch := (repeat first | rw [nxn] | rw [nxp]); try omega) only [go_sem, hg5, lkw, hne2, q7, or3, or4, true_and, implies_true, sv_int, sv_bool, c4, hil, Nat.mul_one, g0, g7, g44, g45, g46, g2']
      have hbv5 : Bs g5 bv (Ti.fil x).b := (q2.mono (K' := K') (h' := g5) (fun j hj => ⟨hj, hfg5 j (hT'.lt (by omega))⟩) (by omega)).bs
      refine callK_of (equalC hS hby3.bs hbv5 hbok.1 fo.1) ?_
      rintro rq gq ⟨rfl, hgq⟩
      have hgq' := hgq.symm
      subst hgq'
      by_cases hbb : b = (Ti.fil x).b
      ·have dbb : decide (b = (Ti.fil x).b) = true := by simpa using hbb
       simp (maxSteps := 1000000) -dsimp (disch := (repeat first | rw [nxn] | rw [nxp]); try omega) only [go_sem, hg5, dbb, c4, hil, Nat.mul_one, g0, g7, g44, g45, g46, g2']
       have hlt : Ti.files.length < (Ti.files ++ [(⟨b, b, (Ti.fil x).st⟩ : Fil)]).length := by simp
       obtain ⟨bs', ck', hu⟩ := setN hTA.now s Ti.files.length
       rw [hr2] at hu
       simp (maxSteps := 1000000) -dsimp (disch := (repeat first | rw [nxn] | rw [nxp]); try omega) only [go_sem, hg5, hpA, hu, or3, or4, true_and, implies_true, sv_int, sv_bool, c4, hil, Nat.mul_one, g0, g7, g44, g45, g46, g2']
       rw [if_pos ⟨by rw [hvn, hyx], hbb⟩] at hnext
       have hT8 := hTA.setNow (h' := g5.put h5.nx (.map (enS (mapS (fpt (fun j => if j = Ti.files.length then g3.nx + 8 else ρ' j)) (updS Ti.now s Ti.files.length))) bs' ck')) (hTA.wf.now.upd s hlt hs69) ⟨bs', ck', AH.get_put_eq rfl⟩ rfl (fun j hj => AH.get_put_ne hj)
       have hfr : ∀ o j, j < g.nx → j ≠ h5.nx → j ≠ p → (g5.put h5.nx o).get j = g.get j := fun o j hj hj2 hj3 => (AH.get_put_ne hj2).trans (hfg5 j hj)
       have hnx8 : g.nx ≤ g5.nx := by omega
       refine ⟨ks.length - (i + 1), by omega, i + 1, v2, rfl, rfl, by omega, ?_, rfl⟩
       rw [hnext, hd1]
       have hgr8 : Gr K' g K2 (g5.put h5.nx (.map (enS (mapS (fpt (fun j => if j = Ti.files.length then g3.nx + 8 else ρ' j)) (updS Ti.now s Ti.files.length))) bs' ck')) := ⟨hnx8, fun j hj hk => ⟨hfr _ j hj (fun hh => by rw [hh, hT'.kn] at hk; cases hk) (fun hh => by rw [hh, hT'.kp] at hk; cases hk), (hK2 j hj).trans hk⟩⟩
       refine ⟨⟨K2, _, hT8, fun y hy => ?_, hgr.trans hgr8, hiv2.gr hgr8, (hK2 _ hwl).trans kw, .inr ⟨kid, rfl, (hgr8.get _ hkl hk0).1.trans hkg, Nat.lt_of_lt_of_le hkl hnx8, (hgr8.get _ hkl hk0).2⟩⟩, ⟨wb, wc, (hgr8.get _ hwl kw).1.trans hw⟩, Nat.lt_of_lt_of_le hwl hnx8⟩
       exact (if_neg (by omega)).trans (hρ y hy)
      ·have dbb : decide (b = (Ti.fil x).b) = false := by simpa using hbb
       have hno2 : ¬ (valS T.now s = some x ∧ b = (Ti.fil x).b) := fun hh => hbb hh.2
       simp (maxSteps := 1000000) -dsimp (disch := (repeat first | rw [nxn] | rw [nxp]); try omega) only [go_sem, hg5, dbb, c4, hil, Nat.mul_one, g0, g7, g44, g45, g46, g2']
       refine callK_of (tickC hS hTA (by show Ti.clock < _; omega)) ?_
       rintro r6 g6 ⟨rfl, hT6, n6', o6⟩
       have n6'' : g6.nx = g4.nx := by rw [n6', ← hg5]; rfl
       have hfi : g6.get (g3.nx + 8) = some (.cells [r3, r4, .int .u64 ((Ti.fil x).st : Nat)] true false) := (o6 _ (by omega)).trans (by rw [← hg5]; exact AH.get_put_eq rfl)
       have hlt : Ti.files.length < (Ti.files ++ [(⟨b, b, Ti.clock + 1⟩ : Fil)]).length := by simp
       have efs : (Ti.files ++ [(⟨b, b, (Ti.fil x).st⟩ : Fil)]).set Ti.files.length ⟨b, b, Ti.clock + 1⟩ = Ti.files ++ [⟨b, b, Ti.clock + 1⟩] := by simp
       have hT7 := hT6.file (i := Ti.files.length) (K' := K2) (f := ⟨b, b, Ti.clock + 1⟩) (h' := g6.put (g3.nx + 8) (.cells [r3, r4, .int .u64 ((Ti.clock + 1 : Nat) : Int)] true false)) (by show Ti.files.length < (Ti.files ++ [_]).length; simp) (fun j hj => ⟨rfl, fun hji => AH.get_put_ne (fun hh => hji (hh.trans hr2.symm))⟩) (by
        rw [hr2]
        refine ⟨r3, r4, AH.get_put_eq rfl, hby3.mono (fun j hj => ⟨hj, ?_⟩) (by show g5.nx ≤ g6.nx; omega), hby4.mono (fun j hj => ⟨hj, ?_⟩) (by show g5.nx ≤ g6.nx; omega), hk28⟩
        ·exact (AH.get_put_ne (fun hh => by rw [hh, hk28] at hj; cases hj)).trans (o6 j (fun hh => by rw [hh, hTA.kp] at hj; cases hj))
        ·exact (AH.get_put_ne (fun hh => by rw [hh, hk28] at hj; cases hj)).trans (o6 j (fun hh => by rw [hh, hTA.kp] at hj; cases hj))) (Nat.le_refl _) (fun j hj => hT6.top j hj) (by
        have w := hT6.wf
        refine Wf.set w _ ?_ _
        exact ⟨hbok.1, hbok.2.1, hbok.2.2.1, hbok.2.2.2⟩)
       have e7 : ({ tickT { Ti with files := Ti.files ++ [⟨b, b, (Ti.fil x).st⟩] } with files := (tickT { Ti with files := Ti.files ++ [(⟨b, b, (Ti.fil x).st⟩ : Fil)] }).files.set Ti.files.length ⟨b, b, Ti.clock + 1⟩ } : TT) = { Ti with clock := Ti.clock + 1, files := Ti.files ++ [⟨b, b, Ti.clock + 1⟩] } := by
        show (⟨Ti.room, Ti.now, Ti.safe, Ti.notes, Ti.clock + 1, Ti.off, Ti.fuse, (Ti.files ++ [(⟨b, b, (Ti.fil x).st⟩ : Fil)]).set Ti.files.length ⟨b, b, Ti.clock + 1⟩⟩ : TT) = _
        rw [efs]
       rw [e7] at hT7
       have hp7 := hT7.pp
       obtain ⟨bs', ck', hu⟩ := setN hT7.now s Ti.files.length
       rw [hr2] at hu
       simp (maxSteps := 1000000) -dsimp (disch := (repeat first | rw [nxn] | rw [nxp]); try omega) only [go_sem, hg5, hfi, hp7, hu, or3, or4, true_and, implies_true, sv_int, sv_bool, c4, hil, Nat.mul_one, g0, g7, g44, g45, g46, g2']
       rw [if_neg (fun hh => hno2 hh)] at hnext
       have hT8 := hT7.setNow (h' := (g6.put (g3.nx + 8) (.cells [r3, r4, .int .u64 ((Ti.clock + 1 : Nat) : Int)] true false)).put h5.nx (.map (enS (mapS (fpt (fun j => if j = Ti.files.length then g3.nx + 8 else ρ' j)) (updS Ti.now s Ti.files.length))) bs' ck')) (hT7.wf.now.upd s hlt hs69) ⟨bs', ck', AH.get_put_eq rfl⟩ rfl (fun j hj => AH.get_put_ne hj)
       have hfr : ∀ o o' j, j < g.nx → j ≠ h5.nx → j ≠ p → ((g6.put (g3.nx + 8) o).put h5.nx o').get j = g.get j := fun o o' j hj hj2 hj3 => (AH.get_put_ne hj2).trans ((AH.get_put_ne (by omega)).trans ((o6 j hj3).trans (hfg5 j hj)))
       have hnx8 : g.nx ≤ g6.nx := by omega
       refine ⟨ks.length - (i + 1), by omega, i + 1, v2, rfl, rfl, by omega, ?_, rfl⟩
       rw [hnext, hd1]
       have hgr8 : Gr K' g K2 ((g6.put (g3.nx + 8) (.cells [r3, r4, .int .u64 ((Ti.clock + 1 : Nat) : Int)] true false)).put h5.nx (.map (enS (mapS (fpt (fun j => if j = Ti.files.length then g3.nx + 8 else ρ' j)) (updS Ti.now s Ti.files.length))) bs' ck')) := ⟨hnx8, fun j hj hk => ⟨hfr _ _ j hj (fun hh => by rw [hh, hT'.kn] at hk; cases hk) (fun hh => by rw [hh, hT'.kp] at hk; cases hk), (hK2 j hj).trans hk⟩⟩
       refine ⟨⟨K2, _, hT8, fun y hy => ?_, hgr.trans hgr8, hiv2.gr hgr8, (hK2 _ hwl).trans kw, .inr ⟨kid, rfl, (hgr8.get _ hkl hk0).1.trans hkg, Nat.lt_of_lt_of_le hkl hnx8, (hgr8.get _ hkl hk0).2⟩⟩, ⟨wb, wc, (hgr8.get _ hwl kw).1.trans hw⟩, Nat.lt_of_lt_of_le hwl hnx8⟩
       exact (if_neg (by omega)).trans (hρ y hy)
     ·have hne2 : binA Tryz.prog g5 .neq 108 (.ptr (ρ' y) 0) (.ptr (ρ' x) 0) = some (.bool true) := by
       rw [hne]
       have : ¬ ρ' y = ρ' x := fun hh => hyx (hT'.inj y x (by omega) hxi hh)
       simp [this]
      have hno2 : ¬ (valS T.now s = some x ∧ b = (Ti.fil x).b) := fun hh => by rw [hvn] at hh; exact hyx (Option.some.inj hh.1)
      simp (maxSteps := 1000000) -dsimp (disch := (repeat first | rw [nxn] | rw [nxp]); try omega) only [go_sem, hg5, lkw, hne2, or3, or4, true_and, implies_true, sv_int, sv_bool, c4, hil, Nat.mul_one, g0, g7, g44, g45, g46, g2']
      refine callK_of (tickC hS hTA (by show Ti.clock < _; omega)) ?_
      rintro r6 g6 ⟨rfl, hT6, n6', o6⟩
      have n6'' : g6.nx = g4.nx := by rw [n6', ← hg5]; rfl
      have hfi : g6.get (g3.nx + 8) = some (.cells [r3, r4, .int .u64 ((Ti.fil x).st : Nat)] true false) := (o6 _ (by omega)).trans (by rw [← hg5]; exact AH.get_put_eq rfl)
      have hlt : Ti.files.length < (Ti.files ++ [(⟨b, b, Ti.clock + 1⟩ : Fil)]).length := by simp
      have efs : (Ti.files ++ [(⟨b, b, (Ti.fil x).st⟩ : Fil)]).set Ti.files.length ⟨b, b, Ti.clock + 1⟩ = Ti.files ++ [⟨b, b, Ti.clock + 1⟩] := by simp
      have hT7 := hT6.file (i := Ti.files.length) (K' := K2) (f := ⟨b, b, Ti.clock + 1⟩) (h' := g6.put (g3.nx + 8) (.cells [r3, r4, .int .u64 ((Ti.clock + 1 : Nat) : Int)] true false)) (by show Ti.files.length < (Ti.files ++ [_]).length; simp) (fun j hj => ⟨rfl, fun hji => AH.get_put_ne (fun hh => hji (hh.trans hr2.symm))⟩) (by
       rw [hr2]
       refine ⟨r3, r4, AH.get_put_eq rfl, hby3.mono (fun j hj => ⟨hj, ?_⟩) (by show g5.nx ≤ g6.nx; omega), hby4.mono (fun j hj => ⟨hj, ?_⟩) (by show g5.nx ≤ g6.nx; omega), hk28⟩
       ·exact (AH.get_put_ne (fun hh => by rw [hh, hk28] at hj; cases hj)).trans (o6 j (fun hh => by rw [hh, hTA.kp] at hj; cases hj))
       ·exact (AH.get_put_ne (fun hh => by rw [hh, hk28] at hj; cases hj)).trans (o6 j (fun hh => by rw [hh, hTA.kp] at hj; cases hj))) (Nat.le_refl _) (fun j hj => hT6.top j hj) (by
       have w := hT6.wf
       refine Wf.set w _ ?_ _
       exact ⟨hbok.1, hbok.2.1, hbok.2.2.1, hbok.2.2.2⟩)
      have e7 : ({ tickT { Ti with files := Ti.files ++ [⟨b, b, (Ti.fil x).st⟩] } with files := (tickT { Ti with files := Ti.files ++ [(⟨b, b, (Ti.fil x).st⟩ : Fil)] }).files.set Ti.files.length ⟨b, b, Ti.clock + 1⟩ } : TT) = { Ti with clock := Ti.clock + 1, files := Ti.files ++ [⟨b, b, Ti.clock + 1⟩] } := by
       show (⟨Ti.room, Ti.now, Ti.safe, Ti.notes, Ti.clock + 1, Ti.off, Ti.fuse, (Ti.files ++ [(⟨b, b, (Ti.fil x).st⟩ : Fil)]).set Ti.files.length ⟨b, b, Ti.clock + 1⟩⟩ : TT) = _
       rw [efs]
      rw [e7] at hT7
      have hp7 := hT7.pp
      obtain ⟨bs', ck', hu⟩ := setN hT7.now s Ti.files.length
      rw [hr2] at hu
      simp (maxSteps := 1000000) -dsimp (disch := (repeat first | rw [nxn] | rw [nxp]); try omega) only [go_sem, hg5, hfi, hp7, hu, or3, or4, true_and, implies_true, sv_int, sv_bool, c4, hil, Nat.mul_one, g0, g7, g44, g45, g46, g2']
      rw [if_neg (fun hh => hno2 hh)] at hnext
      have hT8 := hT7.setNow (h' := (g6.put (g3.nx + 8) (.cells [r3, r4, .int .u64 ((Ti.clock + 1 : Nat) : Int)] true false)).put h5.nx (.map (enS (mapS (fpt (fun j => if j = Ti.files.length then g3.nx + 8 else ρ' j)) (updS Ti.now s Ti.files.length))) bs' ck')) (hT7.wf.now.upd s hlt hs69) ⟨bs', ck', AH.get_put_eq rfl⟩ rfl (fun j hj => AH.get_put_ne hj)
      have hfr : ∀ o o' j, j < g.nx → j ≠ h5.nx → j ≠ p → ((g6.put (g3.nx + 8) o).put h5.nx o').get j = g.get j := fun o o' j hj hj2 hj3 => (AH.get_put_ne hj2).trans ((AH.get_put_ne (by omega)).trans ((o6 j hj3).trans (hfg5 j hj)))
      have hnx8 : g.nx ≤ g6.nx := by omega
      refine ⟨ks.length - (i + 1), by omega, i + 1, v2, rfl, rfl, by omega, ?_, rfl⟩
      rw [hnext, hd1]
      have hgr8 : Gr K' g K2 ((g6.put (g3.nx + 8) (.cells [r3, r4, .int .u64 ((Ti.clock + 1 : Nat) : Int)] true false)).put h5.nx (.map (enS (mapS (fpt (fun j => if j = Ti.files.length then g3.nx + 8 else ρ' j)) (updS Ti.now s Ti.files.length))) bs' ck')) := ⟨hnx8, fun j hj hk => ⟨hfr _ _ j hj (fun hh => by rw [hh, hT'.kn] at hk; cases hk) (fun hh => by rw [hh, hT'.kp] at hk; cases hk), (hK2 j hj).trans hk⟩⟩
      refine ⟨⟨K2, _, hT8, fun y hy => ?_, hgr.trans hgr8, hiv2.gr hgr8, (hK2 _ hwl).trans kw, .inr ⟨kid, rfl, (hgr8.get _ hkl hk0).1.trans hkg, Nat.lt_of_lt_of_le hkl hnx8, (hgr8.get _ hkl hk0).2⟩⟩, ⟨wb, wc, (hgr8.get _ hwl kw).1.trans hw⟩, Nat.lt_of_lt_of_le hwl hnx8⟩
      exact (if_neg (by omega)).trans (hρ y hy)
  ·have : i = ks.length := by omega
   subst this
   rw [List.take_length] at hcr
   simp (maxSteps := 1000000) -dsimp (disch := (repeat first | rw [nxn] | rw [nxp]); try omega) only [go_sem, c4, g0, g7, g44, g45, g46, g2]
   exact ⟨trivial, trivial, trivial, v', hcr⟩
 ·simp (maxSteps := 1000000) -dsimp (disch := (repeat first | rw [nxn] | rw [nxp]); try omega) only [go_sem]
  exact ⟨trivial, trivial, trivial, trivial, trivial, 0, v, rfl, rfl, Nat.zero_le _, hcr0, rfl⟩
 ·rintro ex ⟨t, g, d⟩ ⟨rfl, rfl, g0, v', hcr⟩
  dsimp only at g0 hcr
  generalize crashL T.now T1 ks ps = T2 at hcr
  obtain ⟨⟨K', ρ', hT', hρ, hgr, hiv, kw, hkk⟩, ⟨wb, wc, hw⟩, hwl⟩ := hcr
  have hp' := hT'.pp
  obtain ⟨nb, nc, hnow'⟩ := hT'.now
  have hpl' : p < g.nx := hT'.lt (by rw [hT'.kp]; decide)
  simp (maxSteps := 1000000) -dsimp (disch := (repeat first | rw [nxn] | rw [nxp]); try omega) only [go_sem, g0, hp']
  refine callK_of (cloneMC hS hnow') ?_
  rintro r2 g2 ⟨rfl, rfl⟩
  simp (maxSteps := 1000000) -dsimp (disch := (repeat first | rw [nxn] | rw [nxp]); try omega) only [go_sem, g0, hp']
  refine ⟨trivial, fun j => if j = g.nx then 3 else K' j, h5.nx, g.nx, .nilsl, ρ', hT'.newSafe (b := nb) (c := nc) (hT'.top _ (Nat.le_refl _)) (AH.get_put_eq rfl) ?_ (Nat.lt_succ_self _) (Nat.le_succ _) (fun j hj hjp => ?_), hgr.trans ⟨Nat.le_succ _, fun j hj hk => ⟨?_, ?_⟩⟩⟩
  ·exact (AH.get_put_ne (by omega)).trans ((AH.get_put_ne (by omega)).trans ((AH.get_put_ne (by omega)).trans ((AH.get_new_eq rfl).trans rfl)))
  ·have := hT'.lt hj
   exact (AH.get_put_ne hjp).trans ((AH.get_put_ne hjp).trans ((AH.get_put_ne hjp).trans (AH.get_new_ne (by omega))))
  ·have hjp : j ≠ p := fun hh => by rw [hh, hT'.kp] at hk; cases hk
   exact (AH.get_put_ne hjp).trans ((AH.get_put_ne hjp).trans ((AH.get_put_ne hjp).trans (AH.get_new_ne (by omega))))
  ·exact (if_neg (by omega)).trans hk
end
end Go.Proofs.YthkdhdcbhpknnaaGreatDoor.tre
