/- The program's log: steps, and how it is put aside. Conditions: those of its summaries. -/
import Derived.Test.YtdpipffikgmgdaaGreatDoorWLd
import Derived.Test.YtdpipffikgmgdaaGreatDoorAb7
namespace Go.Proofs.YtdpipffikgmgdaaGreatDoor.tre
open Go Go.Abs Go.Abs.Wal Go.Proofs
set_option maxRecDepth 100000
set_option linter.unusedVariables false
set_option linter.unusedSimpArgs false

theorem Bm.sm {n c : Nat} {T : TT} (h : Bm n c T) (hn : n ≤ 16384) (hc : c < 1152921504606846976) : Sm T := by
  have := h.now; have := h.sn; have := h.clock
  exact ⟨by omega, by omega, by omega, by omega⟩
/-- A log's object. -/
def Lo (h : AH) (L p : Nat) (path : Pth) (l : Lg) : Prop := h.get L = some (.cells [.int .i64 (l.e : Nat), .ptr p 0, .str path, .int .i64 (l.size : Nat), .int .i64 (l.n : Nat)] true false)
theorem Lo.gr {K K' : Nat → Nat} {h h' : AH} {L p : Nat} {path : Pth} {l : Lg} (hL : Lo h L p path l) (g : Gr K h K' h') (hl : L < h.nx) (hk : K L = 0) : Lo h' L p path l := (g.get L hl hk).1.trans hL
/-- What stays of all but the tree's own and the log's. -/
structure GrX (L : Nat) (K : Nat → Nat) (h : AH) (K' : Nat → Nat) (h' : AH) : Prop where
  nx : h.nx ≤ h'.nx
  get : ∀ j, j < h.nx → K j = 0 → (j ≠ L → h'.get j = h.get j) ∧ K' j = 0
theorem Gr.x {K K' : Nat → Nat} {h h' : AH} (g : Gr K h K' h') (L : Nat) : GrX L K h K' h' := ⟨g.nx, fun j hj hk => ⟨fun _ => (g.get j hj hk).1, (g.get j hj hk).2⟩⟩
theorem GrX.refl (L : Nat) (K : Nat → Nat) (h : AH) : GrX L K h K h := (Gr.refl K h).x L
theorem GrX.trans {L : Nat} {K K' K'' : Nat → Nat} {h h' h'' : AH} (h1 : GrX L K h K' h') (h2 : GrX L K' h' K'' h'') : GrX L K h K'' h'' :=
  ⟨Nat.le_trans h1.nx h2.nx, fun j hj hk => by
    obtain ⟨e1, e2⟩ := h1.get j hj hk
    obtain ⟨e3, e4⟩ := h2.get j (Nat.lt_of_lt_of_le hj h1.nx) e2
    exact ⟨fun hne => (e3 hne).trans (e1 hne), e4⟩⟩
theorem GrX.put {L : Nat} {K K' : Nat → Nat} {h h' : AH} (h1 : GrX L K h K' h') (o : AO) : GrX L K h K' (h'.put L o) :=
  ⟨h1.nx, fun j hj hk => ⟨fun hne => (AH.get_put_ne hne).trans ((h1.get j hj hk).1 hne), (h1.get j hj hk).2⟩⟩
theorem GrX.gr {L : Nat} {K K' : Nat → Nat} {h h' : AH} (h1 : GrX L K h K' h') (hL : h.nx ≤ L) : Gr K h K' h' :=
  ⟨h1.nx, fun j hj hk => ⟨(h1.get j hj hk).1 (by omega), (h1.get j hj hk).2⟩⟩
/-- What lay before stays. -/
theorem GrX.fr {L : Nat} {K K' : Nat → Nat} {h0 h h' : AH} (g : GrX L K h K' h') (hf : Fr h0 h) (hL : h0.nx ≤ L) (hk : ∀ j, j < h0.nx → K j = 0) : Fr h0 h' ∧ ∀ j, j < h0.nx → K' j = 0 :=
  ⟨⟨Nat.le_trans hf.nx g.nx, fun j hj => ((g.get j (Nat.lt_of_lt_of_le hj hf.nx) (hk j hj)).1 (by omega)).trans (hf.get j hj)⟩, fun j hj => (g.get j (Nat.lt_of_lt_of_le hj hf.nx) (hk j hj)).2⟩
theorem Gr.fr {K K' : Nat → Nat} {h0 h h' : AH} (g : Gr K h K' h') (hf : Fr h0 h) (hk : ∀ j, j < h0.nx → K j = 0) : Fr h0 h' ∧ ∀ j, j < h0.nx → K' j = 0 := (g.x h0.nx).fr hf (Nat.le_refl _) hk
/-- What an operation of a log leaves. -/
def ResX (L : Nat) (K : Nat → Nat) (p : Nat) (h h' : AH) (T' : TT) : Prop := ∃ K' nm sm chv ρ, Tr K' p nm sm chv ρ h' T' ∧ GrX L K h K' h'
theorem Res.trans {K K' : Nat → Nat} {p : Nat} {h h' h'' : AH} {T : TT} (g : Gr K h K' h') (r : Res K' p h' h'' T) : Res K p h h'' T := by
  obtain ⟨K2, nm, sm, chv, ρ, hT, g2⟩ := r
  exact ⟨K2, nm, sm, chv, ρ, hT, g.trans g2⟩
theorem Tr.putL {K p nm sm chv ρ h T} (hT : Tr K p nm sm chv ρ h T) {L : Nat} (hk : K L = 0) (o : AO) : Tr K p nm sm chv ρ (h.put L o) T := hT.mono (fun j hj => AH.get_put_ne (fun hh => hj (hh ▸ hk))) (Nat.le_refl _)
section
variable {S : Sums}
set_option maxHeartbeats 4000000 in
theorem stepsC (hS : Wl S) {K : Nat → Nat} {p : Nat} {h0 : AH} {nb cb : Nat} {cl : List AV} {fs : List (TT → Nat × TT)} {id : Nat} {c : Option Nat} {o tx : Bool} (hg : h0.get id = some (.cells cl o tx)) (hid : id < h0.nx) (kid : K id = 0) (hlen : cl.length = fs.length) (hl : fs.length ≤ 16)
    (hbm : ∀ f ∈ fs, ∀ n c T, Bm n c T → Bm (n + 1) (c + 1) (f T).2)
    (hst : ∀ (i : Nat) f v, fs[i]? = some f → cl[i]? = some v → ∃ fn b cs, v = .func (.func fn) b cs ∧ bodied Tryz.prog fn = true ∧ ∀ h T, Res K p h0 h T → Bm (nb + fs.length) (cb + fs.length) T → RnC Tryz.prog S fn (b ++ cs) h fun r h' => r = .int .i64 ((f T).1 : Nat) ∧ Res K p h0 h' (f T).2)
    {T : TT} (hT : Res K p h0 h0 T) (hb : Bm nb cb T) :
    RnC Tryz.prog S 43 [.sl id 0 fs.length 1 c] h0 fun r h' => r = .int .i64 ((stepsT fs T).1 : Nat) ∧ Res K p h0 h' (stepsT fs T).2 := by
  refine RnC.enter' Tryz.f43 _ 18 [.tmp 2] (hS.nw _ _ _ (by simp)) bd43 Tryz.func43 rfl rfl rfl ?_
  simp (maxSteps := 1000000) -dsimp (disch := (repeat first | rw [AH.nx_new] | rw [AH.nx_put]); first | done | omega) only [go_sem, evLen, Int.reduceEq, Int.reduceNe, Int.reduceLT, Int.reduceLE, Int.reduceAdd, Int.reduceSub, Int.reduceMul, Int.reduceNeg, Int.reduceToNat, Nat.reducePow, reduceCtorEq, Nat.reduceEqDiff, Nat.reduceAdd, Nat.reduceLT, Nat.reduceLeDiff, Nat.reduceMul, Nat.reduceSub, Nat.reduceBEq]
  refine loopK_of (RnL.rounds (Q := fun ex u => u.d = [] ∧ Res K p h0 u.h (stepsT fs T).2 ∧ (ex = .exit 0 ∧ (stepsT fs T).1 = 0 ∨ ex = .ret ∧ u.t.get 2 = some (.int .i64 ((stepsT fs T).1 : Nat))))
    (fun m u => u.d = [] ∧ u.t.get 6 = some (.sl id 0 fs.length 1 c) ∧ u.t.get 7 = some (.int .i64 (fs.length : Nat)) ∧ ∃ (i : Nat) (Ti : TT), u.t.get 8 = some (.int .i64 (i : Nat)) ∧ Res K p h0 u.h Ti ∧ Bm (nb + i) (cb + i) Ti ∧ stepsT fs T = stepsT (fs.drop i) Ti ∧ i ≤ fs.length ∧ m = fs.length - i) ?_ fs.length ?_) ?_
  · rintro m ⟨t, g, d⟩ ⟨e2, g6, g7, i, Ti, g8, hr, hbi, he, hi, rfl⟩
    dsimp only at e2 g6 g7 g8 hr
    subst e2
    by_cases c1 : (i : Int) < (fs.length : Nat)
    · have hil : i < fs.length := by omega
      obtain ⟨f, hf⟩ : ∃ f, fs[i]? = some f := ⟨_, List.getElem?_eq_getElem hil⟩
      obtain ⟨v, hv⟩ : ∃ v, cl[i]? = some v := ⟨_, List.getElem?_eq_getElem (by omega)⟩
      obtain ⟨fn, b, cs, rfl, hbd, hc⟩ := hst i f v hf hv
      have hdr : fs.drop i = f :: fs.drop (i + 1) := by rw [List.drop_eq_getElem_cons hil, (List.getElem?_eq_some_iff.1 hf).2]
      have hg2 : g.get id = some (.cells cl o tx) := by
        obtain ⟨K', nm, sm, chv, ρ, hT', gr⟩ := hr
        exact (gr.get id hid kid).1.trans hg
      simp (maxSteps := 1000000) -dsimp (disch := (repeat first | rw [AH.nx_new] | rw [AH.nx_put]); first | done | omega) only [go_sem, evLen, Int.reduceEq, Int.reduceNe, Int.reduceLT, Int.reduceLE, Int.reduceAdd, Int.reduceSub, Int.reduceMul, Int.reduceNeg, Int.reduceToNat, Nat.reducePow, reduceCtorEq, Nat.reduceEqDiff, Nat.reduceAdd, Nat.reduceLT, Nat.reduceLeDiff, Nat.reduceMul, Nat.reduceSub, Nat.reduceBEq, c1, g6, g7, g8, hil, hg2, hv, hbd, Nat.mul_one]
      refine callK_of (hc g Ti hr (hbi.mono (by omega) (by omega))) ?_
      rintro r h2 ⟨rfl, hr2⟩
      have hb2 := hbm f (List.mem_of_getElem? hf) _ _ _ hbi
      have he2 : stepsT (f :: fs.drop (i + 1)) Ti = if (f Ti).1 ≠ 0 then f Ti else stepsT (fs.drop (i + 1)) (f Ti).2 := rfl
      rw [hdr, he2] at he
      by_cases c2 : (((f Ti).1 : Nat) : Int) = 0
      · rw [if_neg (by omega)] at he
        simp (maxSteps := 1000000) -dsimp (disch := (repeat first | rw [AH.nx_new] | rw [AH.nx_put]); first | done | omega) only [go_sem, evLen, Int.reduceEq, Int.reduceNe, Int.reduceLT, Int.reduceLE, Int.reduceAdd, Int.reduceSub, Int.reduceMul, Int.reduceNeg, Int.reduceToNat, Nat.reducePow, reduceCtorEq, Nat.reduceEqDiff, Nat.reduceAdd, Nat.reduceLT, Nat.reduceLeDiff, Nat.reduceMul, Nat.reduceSub, Nat.reduceBEq, c1, c2, g6, g7, g8]
        exact ⟨fs.length - (i + 1), by omega, trivial, trivial, trivial, i + 1, _, rfl, hr2, hb2.mono (by omega) (by omega), he, by omega, rfl⟩
      · rw [if_pos (by omega)] at he
        simp (maxSteps := 1000000) -dsimp (disch := (repeat first | rw [AH.nx_new] | rw [AH.nx_put]); first | done | omega) only [go_sem, evLen, Int.reduceEq, Int.reduceNe, Int.reduceLT, Int.reduceLE, Int.reduceAdd, Int.reduceSub, Int.reduceMul, Int.reduceNeg, Int.reduceToNat, Nat.reducePow, reduceCtorEq, Nat.reduceEqDiff, Nat.reduceAdd, Nat.reduceLT, Nat.reduceLeDiff, Nat.reduceMul, Nat.reduceSub, Nat.reduceBEq, c1, c2, g6, g7, g8]
        rw [he]
        exact ⟨trivial, hr2, .inr ⟨trivial, rfl⟩⟩
    · have : i = fs.length := by omega
      subst this
      rw [List.drop_length] at he
      simp (maxSteps := 1000000) -dsimp (disch := (repeat first | rw [AH.nx_new] | rw [AH.nx_put]); first | done | omega) only [go_sem, evLen, Int.reduceEq, Int.reduceNe, Int.reduceLT, Int.reduceLE, Int.reduceAdd, Int.reduceSub, Int.reduceMul, Int.reduceNeg, Int.reduceToNat, Nat.reducePow, reduceCtorEq, Nat.reduceEqDiff, Nat.reduceAdd, Nat.reduceLT, Nat.reduceLeDiff, Nat.reduceMul, Nat.reduceSub, Nat.reduceBEq, c1, g6, g7, g8]
      rw [he]
      exact ⟨trivial, hr, .inl ⟨trivial, rfl⟩⟩
  · simp (maxSteps := 1000000) -dsimp (disch := (repeat first | rw [AH.nx_new] | rw [AH.nx_put]); first | done | omega) only [go_sem, evLen, Int.reduceEq, Int.reduceNe, Int.reduceLT, Int.reduceLE, Int.reduceAdd, Int.reduceSub, Int.reduceMul, Int.reduceNeg, Int.reduceToNat, Nat.reducePow, reduceCtorEq, Nat.reduceEqDiff, Nat.reduceAdd, Nat.reduceLT, Nat.reduceLeDiff, Nat.reduceMul, Nat.reduceSub, Nat.reduceBEq]
    exact ⟨trivial, trivial, trivial, 0, T, rfl, hT, hb, rfl, Nat.zero_le _, rfl⟩
  · rintro ex ⟨t, g, d⟩ ⟨rfl, hr, ⟨rfl, e0⟩ | ⟨rfl, g2⟩⟩
    · dsimp only at hr
      simp (maxSteps := 1000000) -dsimp (disch := (repeat first | rw [AH.nx_new] | rw [AH.nx_put]); first | done | omega) only [go_sem, evLen, Int.reduceEq, Int.reduceNe, Int.reduceLT, Int.reduceLE, Int.reduceAdd, Int.reduceSub, Int.reduceMul, Int.reduceNeg, Int.reduceToNat, Nat.reducePow, reduceCtorEq, Nat.reduceEqDiff, Nat.reduceAdd, Nat.reduceLT, Nat.reduceLeDiff, Nat.reduceMul, Nat.reduceSub, Nat.reduceBEq]
      exact ⟨by rw [e0]; rfl, hr⟩
    · dsimp only at hr g2
      simp (maxSteps := 1000000) -dsimp (disch := (repeat first | rw [AH.nx_new] | rw [AH.nx_put]); first | done | omega) only [go_sem, evLen, Int.reduceEq, Int.reduceNe, Int.reduceLT, Int.reduceLE, Int.reduceAdd, Int.reduceSub, Int.reduceMul, Int.reduceNeg, Int.reduceToNat, Nat.reducePow, reduceCtorEq, Nat.reduceEqDiff, Nat.reduceAdd, Nat.reduceLT, Nat.reduceLeDiff, Nat.reduceMul, Nat.reduceSub, Nat.reduceBEq, g2]
      exact ⟨trivial, hr⟩
/-- What the steps of putting a log aside hold. -/
structure As (K : Nat → Nat) (p : Nat) (h0 : AH) (a d e L : Nat) (path q : Pth) (l : Lg) (bv : AV) (b : List Nat) : Prop where
  qa : h0.get a = some (.cells [.ptr L 0] true false)
  qd : h0.get d = some (.cells [.str q] true false)
  qe : h0.get e = some (.cells [bv] true false)
  ql : Lo h0 L p path l
  ka : a < h0.nx ∧ K a = 0
  kd : d < h0.nx ∧ K d = 0
  ke : e < h0.nx ∧ K e = 0
  kl : L < h0.nx ∧ K L = 0
  qb : Bz K h0 bv b
  qp : p < h0.nx ∧ K p = 1
theorem As.gr {K K' : Nat → Nat} {p : Nat} {h0 h : AH} {a d e L : Nat} {path q : Pth} {l : Lg} {bv : AV} {b : List Nat} (H : As K p h0 a d e L path q l bv b) (g : Gr K h0 K' h) (hp : K' p = 1) : As K' p h a d e L path q l bv b :=
  ⟨(g.get _ H.ka.1 H.ka.2).1.trans H.qa, (g.get _ H.kd.1 H.kd.2).1.trans H.qd, (g.get _ H.ke.1 H.ke.2).1.trans H.qe, H.ql.gr g H.kl.1 H.kl.2, ⟨Nat.lt_of_lt_of_le H.ka.1 g.nx, (g.get _ H.ka.1 H.ka.2).2⟩, ⟨Nat.lt_of_lt_of_le H.kd.1 g.nx, (g.get _ H.kd.1 H.kd.2).2⟩, ⟨Nat.lt_of_lt_of_le H.ke.1 g.nx, (g.get _ H.ke.1 H.ke.2).2⟩, ⟨Nat.lt_of_lt_of_le H.kl.1 g.nx, (g.get _ H.kl.1 H.kl.2).2⟩, H.qb.gr g, ⟨Nat.lt_of_lt_of_le H.qp.1 g.nx, hp⟩⟩
theorem Bz.bp {K : Nat → Nat} {h : AH} {v : AV} {l : List Nat} {p : Nat} (hb : Bz K h v l) (hk : K p ≠ 0) : Bp p h v l := ⟨hb.1, fun id off n z c hh => fun he => hk (he ▸ hb.2 id off n z c hh)⟩
section
variable {K : Nat → Nat} {p : Nat} {h0 h : AH} {a d e L : Nat} {path q : Pth} {l : Lg} {bv : AV} {b : List Nat} {T : TT}
theorem step1C (hS : Wl S) (H : As K p h0 a d e L path q l bv b) (hq : okP q = true) (hr : Res K p h0 h T) (hm : Sm T) : RnC Tryz.prog S 44 [.ptr a 0, .ptr d 0] h fun r h' => r = .int .i64 ((remT q T).1 : Nat) ∧ Res K p h0 h' (remT q T).2 := by
  obtain ⟨K', nm, sm, chv, ρ, hT, gr⟩ := hr
  have H2 := H.gr gr hT.kp
  have ha := H2.qa; have hd := H2.qd; have hl := H2.ql
  unfold Lo at hl
  refine RnC.enter' Tryz.f44 _ 24 [.tmp 2] (hS.nw _ _ _ (by simp)) bd44 Tryz.func44 rfl rfl rfl ?_
  simp (maxSteps := 1000000) -dsimp (disch := (repeat first | rw [AH.nx_new] | rw [AH.nx_put]); first | done | omega) only [go_sem, evLen, Int.reduceEq, Int.reduceNe, Int.reduceLT, Int.reduceLE, Int.reduceAdd, Int.reduceSub, Int.reduceMul, Int.reduceNeg, Int.reduceToNat, Nat.reducePow, reduceCtorEq, Nat.reduceEqDiff, Nat.reduceAdd, Nat.reduceLT, Nat.reduceLeDiff, Nat.reduceMul, Nat.reduceSub, Nat.reduceBEq]
  refine syDraw.go0 (by kernel_rfl) ?_
  simp (maxSteps := 1000000) -dsimp (disch := (repeat first | rw [AH.nx_new] | rw [AH.nx_put]); first | done | omega) only [go_sem, evLen, Int.reduceEq, Int.reduceNe, Int.reduceLT, Int.reduceLE, Int.reduceAdd, Int.reduceSub, Int.reduceMul, Int.reduceNeg, Int.reduceToNat, Nat.reducePow, reduceCtorEq, Nat.reduceEqDiff, Nat.reduceAdd, Nat.reduceLT, Nat.reduceLeDiff, Nat.reduceMul, Nat.reduceSub, Nat.reduceBEq, ha, hd, hl]
  refine callK_of (statC hS.toSt (hT.fr ((Fr.refl h).more _ (by omega))) q) ?_
  rintro r h2 ⟨rfl, f2⟩
  have f3 : Fr h h2 := ((Fr.refl h).more _ (by omega)).trans f2
  have H3 := H2.gr (frGr f3 K') hT.kp
  have ha3 := H3.qa; have hd3 := H3.qd; have hl3 := H3.ql
  unfold Lo at hl3
  unfold remT
  cases hs : (statT T q).2.2
  · rw [if_neg (by simp)]
    simp (maxSteps := 1000000) -dsimp (disch := (repeat first | rw [AH.nx_new] | rw [AH.nx_put]); first | done | omega) only [go_sem, evLen, Int.reduceEq, Int.reduceNe, Int.reduceLT, Int.reduceLE, Int.reduceAdd, Int.reduceSub, Int.reduceMul, Int.reduceNeg, Int.reduceToNat, Nat.reducePow, reduceCtorEq, Nat.reduceEqDiff, Nat.reduceAdd, Nat.reduceLT, Nat.reduceLeDiff, Nat.reduceMul, Nat.reduceSub, Nat.reduceBEq]
    exact ⟨trivial, K', nm, sm, chv, ρ, hT.fr f3, gr.trans (frGr f3 K')⟩
  · rw [if_pos rfl]
    simp (maxSteps := 1000000) -dsimp (disch := (repeat first | rw [AH.nx_new] | rw [AH.nx_put]); first | done | omega) only [go_sem, evLen, Int.reduceEq, Int.reduceNe, Int.reduceLT, Int.reduceLE, Int.reduceAdd, Int.reduceSub, Int.reduceMul, Int.reduceNeg, Int.reduceToNat, Nat.reducePow, reduceCtorEq, Nat.reduceEqDiff, Nat.reduceAdd, Nat.reduceLT, Nat.reduceLeDiff, Nat.reduceMul, Nat.reduceSub, Nat.reduceBEq]
    refine syDraw.go0 (by kernel_rfl) ?_
    simp (maxSteps := 1000000) -dsimp (disch := (repeat first | rw [AH.nx_new] | rw [AH.nx_put]); first | done | omega) only [go_sem, evLen, Int.reduceEq, Int.reduceNe, Int.reduceLT, Int.reduceLE, Int.reduceAdd, Int.reduceSub, Int.reduceMul, Int.reduceNeg, Int.reduceToNat, Nat.reducePow, reduceCtorEq, Nat.reduceEqDiff, Nat.reduceAdd, Nat.reduceLT, Nat.reduceLeDiff, Nat.reduceMul, Nat.reduceSub, Nat.reduceBEq, ha3, hd3, hl3]
    have f4 : Fr h2 { tr := h2.tr, nx := h2.nx + 7 } := (Fr.refl h2).more _ (by omega)
    refine callK_of (rmC hS.toSt (hT.fr (f3.trans f4)) hm q) ?_
    rw [hq]
    rintro r h4 ⟨rfl, hr4⟩
    simp (maxSteps := 1000000) -dsimp (disch := (repeat first | rw [AH.nx_new] | rw [AH.nx_put]); first | done | omega) only [go_sem, evLen, Int.reduceEq, Int.reduceNe, Int.reduceLT, Int.reduceLE, Int.reduceAdd, Int.reduceSub, Int.reduceMul, Int.reduceNeg, Int.reduceToNat, Nat.reducePow, reduceCtorEq, Nat.reduceEqDiff, Nat.reduceAdd, Nat.reduceLT, Nat.reduceLeDiff, Nat.reduceMul, Nat.reduceSub, Nat.reduceBEq]
    exact ⟨trivial, Res.trans (gr.trans (frGr (f3.trans f4) K')) hr4⟩
theorem step2C (hS : Wl S) (H : As K p h0 a d e L path q l bv b) (hq : okP q = true) (hr : Res K p h0 h T) (hm : Sm T) : RnC Tryz.prog S 45 [.ptr a 0, .ptr d 0] h fun r h' => r = .int .i64 ((makeT T true q).1 : Nat) ∧ Res K p h0 h' (makeT T true q).2 := by
  obtain ⟨K', nm, sm, chv, ρ, hT, gr⟩ := hr
  have H2 := H.gr gr hT.kp
  have ha := H2.qa; have hd := H2.qd; have hl := H2.ql
  unfold Lo at hl
  refine RnC.enter' Tryz.f45 _ 9 [.tmp 2] (hS.nw _ _ _ (by simp)) bd45 Tryz.func45 rfl rfl rfl ?_
  simp (maxSteps := 1000000) -dsimp (disch := (repeat first | rw [AH.nx_new] | rw [AH.nx_put]); first | done | omega) only [go_sem, evLen, Int.reduceEq, Int.reduceNe, Int.reduceLT, Int.reduceLE, Int.reduceAdd, Int.reduceSub, Int.reduceMul, Int.reduceNeg, Int.reduceToNat, Nat.reducePow, reduceCtorEq, Nat.reduceEqDiff, Nat.reduceAdd, Nat.reduceLT, Nat.reduceLeDiff, Nat.reduceMul, Nat.reduceSub, Nat.reduceBEq]
  refine syDraw.go0 (by kernel_rfl) ?_
  simp (maxSteps := 1000000) -dsimp (disch := (repeat first | rw [AH.nx_new] | rw [AH.nx_put]); first | done | omega) only [go_sem, evLen, Int.reduceEq, Int.reduceNe, Int.reduceLT, Int.reduceLE, Int.reduceAdd, Int.reduceSub, Int.reduceMul, Int.reduceNeg, Int.reduceToNat, Nat.reducePow, reduceCtorEq, Nat.reduceEqDiff, Nat.reduceAdd, Nat.reduceLT, Nat.reduceLeDiff, Nat.reduceMul, Nat.reduceSub, Nat.reduceBEq, ha, hd, hl]
  have f4 : Fr h { tr := h.tr, nx := h.nx + 7 } := (Fr.refl h).more _ (by omega)
  refine callK_of (makeC hS.toSt (hT.fr f4) hm q) ?_
  rw [hq]
  rintro r h4 ⟨rfl, hr4⟩
  simp (maxSteps := 1000000) -dsimp (disch := (repeat first | rw [AH.nx_new] | rw [AH.nx_put]); first | done | omega) only [go_sem, evLen, Int.reduceEq, Int.reduceNe, Int.reduceLT, Int.reduceLE, Int.reduceAdd, Int.reduceSub, Int.reduceMul, Int.reduceNeg, Int.reduceToNat, Nat.reducePow, reduceCtorEq, Nat.reduceEqDiff, Nat.reduceAdd, Nat.reduceLT, Nat.reduceLeDiff, Nat.reduceMul, Nat.reduceSub, Nat.reduceBEq]
  exact ⟨trivial, Res.trans (gr.trans (frGr f4 K')) hr4⟩
theorem step3C (hS : Wl S) (H : As K p h0 a d e L path q l bv b) (hq : okP q = true) (hb : ∀ x ∈ b, x < 256) (hbl : b.length ≤ 67108864) (hr : Res K p h0 h T) (hm : Sm T) : RnC Tryz.prog S 47 [.ptr a 0, .ptr d 0, .ptr e 0] h fun r h' => r = .int .i64 ((putT T true q fun _ => b).1 : Nat) ∧ Res K p h0 h' (putT T true q fun _ => b).2 := by
  obtain ⟨K', nm, sm, chv, ρ, hT, gr⟩ := hr
  have H2 := H.gr gr hT.kp
  have ha := H2.qa; have hd := H2.qd; have he := H2.qe; have hl := H2.ql
  unfold Lo at hl
  have ob := (bsLn H2.qb.1).2.2
  have sb := (bsLn H2.qb.1).2.1
  refine RnC.enter' Tryz.f47 _ 11 [.tmp 3] (hS.nw _ _ _ (by simp)) bd47 Tryz.func47 rfl rfl rfl ?_
  simp (maxSteps := 1000000) -dsimp (disch := (repeat first | rw [AH.nx_new] | rw [AH.nx_put]); first | done | omega) only [go_sem, evLen, Int.reduceEq, Int.reduceNe, Int.reduceLT, Int.reduceLE, Int.reduceAdd, Int.reduceSub, Int.reduceMul, Int.reduceNeg, Int.reduceToNat, Nat.reducePow, reduceCtorEq, Nat.reduceEqDiff, Nat.reduceAdd, Nat.reduceLT, Nat.reduceLeDiff, Nat.reduceMul, Nat.reduceSub, Nat.reduceBEq]
  refine syDraw.go0 (by kernel_rfl) ?_
  simp (maxSteps := 1000000) -dsimp (disch := (repeat first | rw [AH.nx_new] | rw [AH.nx_put]); first | done | omega) only [go_sem, evLen, Int.reduceEq, Int.reduceNe, Int.reduceLT, Int.reduceLE, Int.reduceAdd, Int.reduceSub, Int.reduceMul, Int.reduceNeg, Int.reduceToNat, Nat.reducePow, reduceCtorEq, Nat.reduceEqDiff, Nat.reduceAdd, Nat.reduceLT, Nat.reduceLeDiff, Nat.reduceMul, Nat.reduceSub, Nat.reduceBEq, ha, hd, he, hl, ob]
  have f4 : Fr h { tr := h.tr, nx := h.nx + 8 } := (Fr.refl h).more _ (by omega)
  have H4 := H2.gr (frGr f4 K') hT.kp
  refine callK_of (writeC hS.toSt (hT.fr f4) hm q (H4.qb.bp (by rw [hT.kp]; decide)) hb hbl) ?_
  rw [hq]
  rintro r h4 ⟨rfl, hr4⟩
  simp (maxSteps := 1000000) -dsimp (disch := (repeat first | rw [AH.nx_new] | rw [AH.nx_put]); first | done | omega) only [go_sem, evLen, Int.reduceEq, Int.reduceNe, Int.reduceLT, Int.reduceLE, Int.reduceAdd, Int.reduceSub, Int.reduceMul, Int.reduceNeg, Int.reduceToNat, Nat.reducePow, reduceCtorEq, Nat.reduceEqDiff, Nat.reduceAdd, Nat.reduceLT, Nat.reduceLeDiff, Nat.reduceMul, Nat.reduceSub, Nat.reduceBEq]
  exact ⟨trivial, Res.trans (gr.trans (frGr f4 K')) hr4⟩
theorem step4C (hS : Wl S) (H : As K p h0 a d e L path q l bv b) (hq : okP q = true) (hr : Res K p h0 h T) : RnC Tryz.prog S 49 [.ptr a 0, .ptr d 0] h fun r h' => r = .int .i64 ((syncT T true q).1 : Nat) ∧ Res K p h0 h' (syncT T true q).2 := by
  obtain ⟨K', nm, sm, chv, ρ, hT, gr⟩ := hr
  have H2 := H.gr gr hT.kp
  have ha := H2.qa; have hd := H2.qd; have hl := H2.ql
  unfold Lo at hl
  refine RnC.enter' Tryz.f49 _ 9 [.tmp 2] (hS.nw _ _ _ (by simp)) bd49 Tryz.func49 rfl rfl rfl ?_
  simp (maxSteps := 1000000) -dsimp (disch := (repeat first | rw [AH.nx_new] | rw [AH.nx_put]); first | done | omega) only [go_sem, evLen, Int.reduceEq, Int.reduceNe, Int.reduceLT, Int.reduceLE, Int.reduceAdd, Int.reduceSub, Int.reduceMul, Int.reduceNeg, Int.reduceToNat, Nat.reducePow, reduceCtorEq, Nat.reduceEqDiff, Nat.reduceAdd, Nat.reduceLT, Nat.reduceLeDiff, Nat.reduceMul, Nat.reduceSub, Nat.reduceBEq]
  refine syDraw.go0 (by kernel_rfl) ?_
  simp (maxSteps := 1000000) -dsimp (disch := (repeat first | rw [AH.nx_new] | rw [AH.nx_put]); first | done | omega) only [go_sem, evLen, Int.reduceEq, Int.reduceNe, Int.reduceLT, Int.reduceLE, Int.reduceAdd, Int.reduceSub, Int.reduceMul, Int.reduceNeg, Int.reduceToNat, Nat.reducePow, reduceCtorEq, Nat.reduceEqDiff, Nat.reduceAdd, Nat.reduceLT, Nat.reduceLeDiff, Nat.reduceMul, Nat.reduceSub, Nat.reduceBEq, ha, hd, hl]
  have f4 : Fr h { tr := h.tr, nx := h.nx + 7 } := (Fr.refl h).more _ (by omega)
  refine callK_of (syncC hS.toSt (hT.fr f4) q) ?_
  rw [hq]
  rintro r h4 ⟨rfl, hr4⟩
  simp (maxSteps := 1000000) -dsimp (disch := (repeat first | rw [AH.nx_new] | rw [AH.nx_put]); first | done | omega) only [go_sem, evLen, Int.reduceEq, Int.reduceNe, Int.reduceLT, Int.reduceLE, Int.reduceAdd, Int.reduceSub, Int.reduceMul, Int.reduceNeg, Int.reduceToNat, Nat.reducePow, reduceCtorEq, Nat.reduceEqDiff, Nat.reduceAdd, Nat.reduceLT, Nat.reduceLeDiff, Nat.reduceMul, Nat.reduceSub, Nat.reduceBEq]
  exact ⟨trivial, Res.trans (gr.trans (frGr f4 K')) hr4⟩
theorem step5C (hS : Wl S) (H : As K p h0 a d e L path q l bv b) (hq : okP q = true) (hp : okP path = true) (hr : Res K p h0 h T) (hm : Sm T) : RnC Tryz.prog S 50 [.ptr a 0, .ptr d 0] h fun r h' => r = .int .i64 ((renT T true q path).1 : Nat) ∧ Res K p h0 h' (renT T true q path).2 := by
  obtain ⟨K', nm, sm, chv, ρ, hT, gr⟩ := hr
  have H2 := H.gr gr hT.kp
  have ha := H2.qa; have hd := H2.qd; have hl := H2.ql
  unfold Lo at hl
  refine RnC.enter' Tryz.f50 _ 13 [.tmp 2] (hS.nw _ _ _ (by simp)) bd50 Tryz.func50 rfl rfl rfl ?_
  simp (maxSteps := 1000000) -dsimp (disch := (repeat first | rw [AH.nx_new] | rw [AH.nx_put]); first | done | omega) only [go_sem, evLen, Int.reduceEq, Int.reduceNe, Int.reduceLT, Int.reduceLE, Int.reduceAdd, Int.reduceSub, Int.reduceMul, Int.reduceNeg, Int.reduceToNat, Nat.reducePow, reduceCtorEq, Nat.reduceEqDiff, Nat.reduceAdd, Nat.reduceLT, Nat.reduceLeDiff, Nat.reduceMul, Nat.reduceSub, Nat.reduceBEq]
  refine syDraw.go0 (by kernel_rfl) ?_
  simp (maxSteps := 1000000) -dsimp (disch := (repeat first | rw [AH.nx_new] | rw [AH.nx_put]); first | done | omega) only [go_sem, evLen, Int.reduceEq, Int.reduceNe, Int.reduceLT, Int.reduceLE, Int.reduceAdd, Int.reduceSub, Int.reduceMul, Int.reduceNeg, Int.reduceToNat, Nat.reducePow, reduceCtorEq, Nat.reduceEqDiff, Nat.reduceAdd, Nat.reduceLT, Nat.reduceLeDiff, Nat.reduceMul, Nat.reduceSub, Nat.reduceBEq, ha, hd, hl]
  have f4 : Fr h { tr := h.tr, nx := h.nx + 11 } := (Fr.refl h).more _ (by omega)
  refine callK_of (renC hS.toSt (hT.fr f4) hm q path) ?_
  rw [hq, hp]
  rintro r h4 ⟨rfl, hr4⟩
  simp (maxSteps := 1000000) -dsimp (disch := (repeat first | rw [AH.nx_new] | rw [AH.nx_put]); first | done | omega) only [go_sem, evLen, Int.reduceEq, Int.reduceNe, Int.reduceLT, Int.reduceLE, Int.reduceAdd, Int.reduceSub, Int.reduceMul, Int.reduceNeg, Int.reduceToNat, Nat.reducePow, reduceCtorEq, Nat.reduceEqDiff, Nat.reduceAdd, Nat.reduceLT, Nat.reduceLeDiff, Nat.reduceMul, Nat.reduceSub, Nat.reduceBEq]
  exact ⟨trivial, Res.trans (gr.trans (frGr f4 K')) hr4⟩
theorem step6C (hS : Wl S) (hr : Res K p h0 h T) (hm : Sm T) : RnC Tryz.prog S 52 [.ptr p 0] h fun r h' => r = .int .i64 ((syncPT T).1 : Nat) ∧ Res K p h0 h' (syncPT T).2 := by
  obtain ⟨K', nm, sm, chv, ρ, hT, gr⟩ := hr
  refine (syncPC hS.toSt hT hm).mono ?_
  rintro r h' ⟨rfl, hr4⟩
  exact ⟨rfl, Res.trans gr hr4⟩
end
end
end Go.Proofs.YtdpipffikgmgdaaGreatDoor.tre
