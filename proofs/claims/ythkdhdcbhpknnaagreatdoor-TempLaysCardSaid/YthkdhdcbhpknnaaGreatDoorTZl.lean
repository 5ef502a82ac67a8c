/- The document's tree: what stays of a file; what is safe. Conditions: those of its summaries. -/
import Derived.Test.YthkdhdcbhpknnaaGreatDoorTZk
namespace Go.Proofs.YthkdhdcbhpknnaaGreatDoor.tre
open Go Go.Abs Go.Abs.Wal Go.Proofs
set_option maxRecDepth 100000
set_option linter.unusedVariables false
set_option linter.unusedSimpArgs false
/-- Bytes in memory of their own, and where they lie. -/
theorem own3 {h : AH} {x : AV} {l : List Nat} {id : Nat} (hb : Bs h x l) (hl : l.length ≤ 1073741824) (hid : h.get id = some (.cells [] true true)) (hlt : id < h.nx) :
  ∃ v h', evAppend Tryz.prog h #[22, 22] (.sl id 0 0 1 (some 0)) x = some (.val v h') ∧ Fr h h' ∧ oneA v = true ∧ ∃ i c cs tx, v = .sl i 0 l.length 1 c ∧ h'.get i = some (.cells cs true tx) ∧ i < h'.nx ∧ (i = id ∨ h.nx ≤ i) ∧ cs.take l.length = byC l ∧ l.length ≤ cs.length ∧ (c = none ∨ c = some l.length) := by
 have hold : firstA h 1 0 (.sl id 0 0 1 (some 0)) = some [] := by
  rw [firstA_sl hid (Nat.le_refl _) (by simp)]; simp
 obtain ⟨hn, hnew⟩ := hb.first
 rw [evAppend_eq Tryz.underlying22 Tryz.underlying22 rfl ai5 hn hnew rfl hold (byC_all l) (by omega) (by omega) rfl]
 by_cases h0 : l.length = 0
 ·rw [if_pos h0]
  have : l = [] := List.length_eq_zero_iff.1 h0
  subst this
  exact ⟨_, _, rfl, Fr.refl _, rfl, id, some 0, [], true, rfl, hid, hlt, .inl rfl, rfl, Nat.le_refl _, .inr rfl⟩
 ·rw [if_neg h0]
  simp only
  rw [if_pos (by omega)]
  exact ⟨_, _, rfl, Fr.new _ _, rfl, h.nx, none, [] ++ byC l, false, by simp, AH.get_new_eq rfl, Nat.lt_succ_self _, .inr (Nat.le_refl _), by simp [← byC_length], by simp [byC_length], .inl rfl⟩
theorem own3s {h : AH} {v : AV} {l : List Nat} {i : Nat} {c : Option Nat} {cs : List AV} {tx : Bool} (e : v = .sl i 0 l.length 1 c) (hg : h.get i = some (.cells cs true tx)) (hi : i < h.nx) (h1 : cs.take l.length = byC l) (h2 : l.length ≤ cs.length) (h3 : c = none ∨ c = some l.length) : Bs h v l := by
 refine .inr ⟨i, 0, c, cs, true, tx, e, hg, hi, by omega, fun k hk => ?_, by simpa using h1⟩
 rcases h3 with h3 | h3
 ·rw [h3] at hk; cases hk
 ·rw [h3] at hk; cases hk; exact Nat.le_refl _
section
variable {S : Sums}
set_option maxHeartbeats 16000000 in
theorem keptD (hS : Dt S) {K : Nat → Nat} {h : AH} {id : Nat} {f : Fil} (hf : FilA K h id f) (hid : id < h.nx) (fo : FilOK f) (part : Int) : RnC Tryz.prog S 87 [.ptr id 0, .int .i64 part] h fun r h' => Bs h' r (leftF f part) ∧ Fr h h' := by
 refine RnC.enter' Tryz.f87 _ 58 [.tmp 4] (hS.nd _ _ _ (by simp)) bd87 Tryz.func87 rfl rfl rfl ?_
 obtain ⟨bv, sv, q1, q2, q3, q4⟩ := hf
 obtain ⟨lb, sb, ob⟩ := bsLn q2.bs
 obtain ⟨ls, ss, os⟩ := bsLn q3.bs
 have lbl := fo.2.2.1
 have lsl := fo.2.2.2
 simp (maxSteps := 1000000) -dsimp (disch := (repeat first | rw [nxn] | rw [nxp]); try omega) only [go_sem]
 refine syDraw.go0 (by kernel_rfl) ?_
 simp (maxSteps := 1000000) -dsimp (disch := (repeat first | rw [nxn] | rw [nxp]); try omega) only [go_sem, q1, lb, ls, ob, os]
 refine syDraw.keepN 0 (fun _ => True) (by kernel_rfl) (by kernel_rfl) rfl ?_
 unfold leftF
 by_cases c0 : ((f.b.length : Nat) : Int) - ((f.s.length : Nat) : Int) < 0
 ·have c : ¬ f.b.take f.s.length = f.s := fun hh => by
   have := congrArg List.length hh
   rw [List.length_take] at this
   omega
  rw [if_neg c]
  simp (maxSteps := 1000000) -dsimp (disch := (repeat first | rw [nxn] | rw [nxp]); try omega) only [go_sem, c0, q1, lb, ls, ob, os]
  have f9 : Fr h { tr := h.tr, nx := h.nx + 12 + 21 } := (Fr.refl h).more _ (by omega)
  exact ⟨q3.bs.fr f9, f9⟩
 ·have hle : f.s.length ≤ f.b.length := by omega
  obtain ⟨w, t1, hw, sw, ow⟩ := q2.bs.slice_to (hi := f.s.length) Tryz.underlying22 tz5 hle
  have e1 : ∀ g : AH, (∀ j, j < h.nx → g.get j = h.get j) → evConvert Tryz.prog g 22 9 w = some (.val (.str (f.b.take f.s.length)) g) := fun g hg => bsTextG hw hg Tryz.underlying22 Tryz.underlying5 Tryz.underlying9 (fun x hx => fo.1 x (List.mem_of_mem_take hx))
  have e2 : ∀ g : AH, (∀ j, j < h.nx → g.get j = h.get j) → evConvert Tryz.prog g 22 9 sv = some (.val (.str f.s) g) := fun g hg => bsTextG q3.bs hg Tryz.underlying22 Tryz.underlying5 Tryz.underlying9 fo.2.1
  have e10 := e1 { tr := h.tr, nx := h.nx + 12 + 21 } (fun _ _ => rfl)
  have e20 := e2 { tr := h.tr, nx := h.nx + 12 + 21 } (fun _ _ => rfl)
  by_cases c : f.b.take f.s.length = f.s
  ·have cd : decide (f.b.take f.s.length = f.s) = true := by simpa using c
   rw [if_pos c]
   have e0 : (max 0 part) = (((max 0 part).toNat : Nat) : Int) := by omega
   have em : (max 0 part).tmod ((((f.b.length : Nat) : Int) - ((f.s.length : Nat) : Int)) + 1) = (((max 0 part).toNat % (f.b.length - f.s.length + 1) : Nat) : Int) := by
    rw [show (((f.b.length : Nat) : Int) - ((f.s.length : Nat) : Int)) + 1 = ((f.b.length - f.s.length + 1 : Nat) : Int) by omega]
    exact tmodN (by omega) (by omega)
   have hlt : (max 0 part).toNat % (f.b.length - f.s.length + 1) < f.b.length - f.s.length + 1 := Nat.mod_lt _ (by omega)
   generalize hx : (max 0 part).toNat % (f.b.length - f.s.length + 1) = x at em hlt
   have cz : ¬ (((f.b.length : Nat) : Int) - ((f.s.length : Nat) : Int)) + 1 = 0 := by omega
   obtain ⟨w2, t2, hw2, _, ow2⟩ := q2.bs.slice_to (hi := f.s.length + x) Tryz.underlying22 tz5 (by omega)
   have et : ((f.s.length : Nat) : Int) + ((x : Nat) : Int) = ((f.s.length + x : Nat) : Int) := by omega
   simp (maxSteps := 1000000) -dsimp (disch := (repeat first | rw [nxn] | rw [nxp]); try omega) only [go_sem, c0, q1, lb, ls, ob, os, t1, ow, e10, e20, neStF, cd]
   refine syDraw.go0 (by kernel_rfl) ?_
   simp (maxSteps := 1000000) -dsimp (disch := (repeat first | rw [nxn] | rw [nxp]); try omega) only [go_sem, q1, lb, ls, ob, os, em, cz, et, t2, ow2]
   have f9 : Fr h { tr := h.tr, nx := h.nx + 12 + 21 + 17 } := (Fr.refl h).more _ (by omega)
   exact ⟨hw2.fr f9, f9⟩
  ·have cd : decide (f.b.take f.s.length = f.s) = false := by simpa using c
   rw [if_neg c]
   simp (maxSteps := 1000000) -dsimp (disch := (repeat first | rw [nxn] | rw [nxp]); try omega) only [go_sem, c0, q1, lb, ls, ob, os, t1, ow, e10, e20, neStF, cd]
   have f9 : Fr h { tr := h.tr, nx := h.nx + 12 + 21 } := (Fr.refl h).more _ (by omega)
   exact ⟨q3.bs.fr f9, f9⟩
/-- One file more, wherever it lies. -/
theorem Flg.appG {h0 g h6 : AH} {v rb : AV} {l : List (Pth × List Nat)} (hb : Flg h0.nx g v l) (hl : l.length ≤ 16384) (f0 : Fr h0 g) (f6 : Fr g h6) (a : Pth) {b : List Nat} (hrb : Bs h6 rb b) (hge : ∀ id o n z c, rb = .sl id o n z c → g.nx ≤ id) {i1 : Nat} (hi : h6.get i1 = some (.cells [.str a, rb] true false)) :
  ∃ v' h', evAppend Tryz.prog h6 #[76, 76] v (.sl i1 0 1 2 (some 1)) = some (.val v' h') ∧ Fr h0 h' ∧ Flg h0.nx h' v' (l ++ [(a, b)]) ∧ oneA v' = true := by
 obtain ⟨L, hez, hL, hLb⟩ := hb
 have ob := (bsLn hrb).2.2
 have hLl : L.length = l.length := by rw [← hL, List.length_map]
 obtain ⟨v', h', happ, hf', hez', ov', hn', hk', hv'⟩ := Ez.app (P := Tryz.prog) (z := 2) (h0 := h0) (h := h6) (x := .sl i1 0 1 2 (some 1)) (k := 1) (m := [.str a, rb]) Tryz.underlying76 Tryz.underlying76 rfl ai76 (by decide) (by decide) (hez.fr f6) rfl (by rw [firstA_sl hi (Nat.le_refl _) (by simp)]; rfl) rfl (by
  show (oneA (.str a) && (oneA rb && true)) = true
  rw [ob]; rfl) (f0.trans f6) (by rw [flat2_len, hLl]; simp; omega)
 have one : ∀ w bb, Bs h6 w bb → Apt v w → Bs h' w bb ∧ Apt v' w := fun w bb hw6 hap => by
  refine ⟨bsKeep hw6 hn' fun id o n z c hh hid => hk' id hid fun id' o' n' c' hv => hap _ _ _ _ _ _ _ _ _ hv hh, fun id o n c id' o' n' z' c' hv hh => ?_⟩
  have hid := bsLt hw6 hh
  rcases hv' with ⟨_, rfl⟩ | ⟨id1, m1, rfl, hv'⟩
  ·exact hap _ _ _ _ _ _ _ _ _ hv hh
  ·cases hv
   omega
 refine ⟨v', h', happ, hf', ⟨L ++ [(a, rb, b)], ?_, ?_, ?_⟩, ov'⟩
 ·rw [flat2_app]; exact hez'
 ·rw [List.map_append, hL]; rfl
 ·intro e he
  rcases List.mem_append.1 he with he | he
  ·obtain ⟨h1, h2⟩ := hLb e he
   exact one _ _ (h1.fr f6) h2
  ·rw [List.mem_singleton.1 he]
   refine one _ _ hrb fun id o n c id' o' n' z' c' hv hh => ?_
   have h1 := (ezLt hez hv).1
   have h2 := hge _ _ _ _ _ hh
   omega
set_option maxHeartbeats 16000000 in
theorem safeD' (hS : Dt S) {K p lv sv nv ρ h R} (hT : Rt K p lv sv nv ρ h R) (hw : Wf R) (hr : riseE R.safe) (hm : R.safe.length ≤ 16384) : RnC Tryz.prog S 39 [.ptr p 0] h fun r h' => Fls h.nx h' r (R.safe.map fun e => (e.1, (R.fil e.2).s)) ∧ Fr h h' := by
 refine RnC.enter' Tryz.f39 _ 40 [.tmp 2] (hS.nd _ _ _ (by simp)) bd39 Tryz.func39 rfl rfl rfl ?_
 have hz := hT.safe.ez
 have ov := hz.one.2
 have lvl := hz.len (n := R.safe.length) Tryz.underlying121 (by decide) (entC_len ρ _)
 have hpl : p < h.nx := hT.lt (by rw [hT.kp]; decide)
 generalize hFd : (fun e : Pth × Nat => (e.1, (R.fil e.2).s)) = F
 simp (maxSteps := 1000000) -dsimp (disch := (repeat first | rw [nxn] | rw [nxp]); try omega) only [go_sem]
 refine loopK_of (RnL.rounds (Q := fun ex u => ex = .exit 0 ∧ u.d = [] ∧ Fr h u.h ∧ ∃ v, u.t.get 3 = some v ∧ Flg h.nx u.h v (R.safe.map F))
  (fun m u => u.d = [] ∧ Fr h u.h ∧ u.t.get 0 = some (.ptr p 0) ∧ ∃ (i : Nat) (v : AV), u.t.get 4 = some (.int .i64 (i : Nat)) ∧ u.t.get 3 = some v ∧ Flg h.nx u.h v ((R.safe.take i).map F) ∧ i ≤ R.safe.length ∧ m = R.safe.length - i) ?_ R.safe.length ?_) ?_
 ·rintro m ⟨t, g, d⟩ ⟨e2, e1, g0, i, v, g4, g3, hfl, hi, rfl⟩
  dsimp only at e1 e2 g0 g4 g3 hfl
  subst e2
  have hpg := (e1.get p hpl).trans hT.pp
  by_cases c4 : (i : Int) < (R.safe.length : Nat)
  ·have hil : i < R.safe.length := by omega
   obtain ⟨e, he⟩ : ∃ e, R.safe[i]? = some e := ⟨_, List.getElem?_eq_getElem hil⟩
   have hei : e.2 < R.files.length := (hw.safe.2 e.1 e.2 (val_of_mem (riseE_once hr) (List.mem_iff_getElem?.2 ⟨i, he⟩))).1
   obtain ⟨id, c, rfl, hg, hid, _⟩ := hz.at (n := R.safe.length) (i := i) (entC_len ρ _) hil (by decide)
   obtain ⟨x1, x2, _⟩ := flat2_get (fun e : Pth × Nat => AV.str e.1) (fun e => AV.ptr (ρ e.2) 0) he
   change (entC ρ R.safe)[i * 2]? = _ at x1
   change (entC ρ R.safe)[i * 2 + 1]? = _ at x2
   obtain ⟨bv, sv', q1, q2, q3, q4⟩ := hT.fl e.2 hei
   have hri : ρ e.2 < h.nx := hT.lt (by rw [q4]; decide)
   have fo := fil_ok hw e.2
   obtain ⟨ls, ss, os⟩ := bsLn q3.bs
   have hgg := (e1.get id hid).trans hg
   have q1g := (e1.get _ hri).trans q1
   have ovv : oneA v = true := by obtain ⟨L, h1, _⟩ := hfl; exact h1.one.2
   have ng := e1.nx
   have fb : Fr g (({ tr := g.tr, nx := g.nx + 26 } : AH).put (g.nx + 9) (.cells [] true true)) := ((Fr.refl g).more _ (by omega)).put _ (by omega)
   obtain ⟨v2, h5, ha, hf5, o2, i2, c2, cs2, tx2, hv2, hg2, hi2, hp2, y1, y2, y3⟩ := own3 (h := ({ tr := g.tr, nx := g.nx + 26 } : AH).put (g.nx + 9) (.cells [] true true)) (id := g.nx + 9) ((q3.bs.fr e1).fr fb) (by have := fo.2.2.2; omega) (AH.get_put_eq rfl) (show g.nx + 9 < g.nx + 26 by omega)
   have hp2' : i2 = g.nx + 9 ∨ g.nx + 26 ≤ i2 := hp2
   have bld := bldFl (v := v2) e.1 (.inr ⟨i2, 0, _, c2, hv2⟩)
   have fb5 : Fr g (h5.put (g.nx + 23) (.cells [.str e.1, v2] true false)) := (fb.trans hf5).put _ (by omega)
   have hb6 : Bs (h5.put (g.nx + 23) (.cells [.str e.1, v2] true false)) v2 (R.fil e.2).s := own3s hv2 ((AH.get_put_ne (by omega)).trans hg2) hi2 y1 y2 y3
   obtain ⟨v', h', happ, hf', hez', ov'⟩ := Flg.appG hfl (by rw [List.length_map, List.length_take]; omega) e1 fb5 e.1 hb6 (fun id o n z c hh => by rw [hv2] at hh; cases hh; omega) (i1 := g.nx + 23) (AH.get_put_eq rfl)
   simp (maxSteps := 1000000) -dsimp (disch := (repeat first | rw [nxn] | rw [nxp]); try omega) only [go_sem, lvl, c4, hil, hpg, hgg, g0, g3, g4]
   refine syDraw.keep (fun j => j < h.nx) (by kernel_rfl) (by kernel_rfl) ?_
   simp (maxSteps := 1000000) -dsimp (disch := (repeat first | rw [nxn] | rw [nxp]); try omega) only [go_sem, lvl, c4, hil, hpg, hgg, x1, x2, q1g, os, ss, hpl, hid, hri, ovv, ha, o2, bld, happ, ov', g0, g3, g4, true_and, implies_true, sv_int, sv_bool]
   have hft : (R.safe.take (i + 1)).map F = (R.safe.take i).map F ++ [(e.1, (R.fil e.2).s)] := by
    rw [List.take_add_one, he, List.map_append, ← hFd]; rfl
   have k5 : ∀ j, j < h.nx → h5.get j = g.get j := fun j hj => (fb.trans hf5).get j (by omega)
   exact ⟨by simp [sameAV], by simp [sameAV, eqL_eq], by simp [sameAV], by simp [sameAV], k5, fun j hj => (hf'.get j hj).trans ((e1.get j hj).symm.trans (k5 j hj).symm), R.safe.length - (i + 1), by omega, hf', i + 1, v', rfl, rfl, by rw [hft]; exact hez', by omega, rfl⟩
  ·have : i = R.safe.length := by omega
   subst this
   rw [List.take_length] at hfl
   simp (maxSteps := 1000000) -dsimp (disch := (repeat first | rw [nxn] | rw [nxp]); try omega) only [go_sem, lvl, c4, hpg, ov, g0, g3, g4]
   exact ⟨trivial, trivial, e1, v, rfl, hfl⟩
 ·simp (maxSteps := 1000000) -dsimp (disch := (repeat first | rw [nxn] | rw [nxp]); try omega) only [go_sem]
  exact ⟨trivial, Fr.refl _, trivial, 0, .nilsl, rfl, rfl, Flg.nil _ _, Nat.zero_le _, rfl⟩
 ·rintro ex ⟨t, g, d⟩ ⟨rfl, rfl, e1, v, g3, hfl⟩
  dsimp only at e1 g3 hfl
  have ovv : oneA v = true := by obtain ⟨L, h1, _⟩ := hfl; exact h1.one.2
  simp (maxSteps := 1000000) -dsimp (disch := (repeat first | rw [nxn] | rw [nxp]); try omega) only [go_sem, g3, ovv]
  exact ⟨hfl.fls (Nat.le_refl _), e1⟩
end
end Go.Proofs.YthkdhdcbhpknnaaGreatDoor.tre
