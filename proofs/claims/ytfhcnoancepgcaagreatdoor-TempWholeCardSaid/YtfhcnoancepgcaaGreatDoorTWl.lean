/- The law TempWhole, walked. Conditions: the digest's constants, the check that the laws live, and what the document says of one path, are summaries; none else. -/
import Derived.Test.YtfhcnoancepgcaaGreatDoorTWb
import Derived.Test.YtfhcnoancepgcaaGreatDoorTWt
namespace Go.Proofs.YtfhcnoancepgcaaGreatDoor.tre
open Go Go.Abs Go.Abs.Wal Go.Proofs Go.Proofs.YtfhcnoancepgcaaGreatDoor.dig
set_option maxRecDepth 100000
set_option linter.unusedVariables false
set_option linter.unusedSimpArgs false

def pfa : Pth := [102, 47, 97]
def qfa : Pth := [46, 116, 109, 112, 47, 102, 47, 97]
theorem faB : bytesOf { data := #[102, 47, 97] } = pfa := by decide +kernel
theorem faOk : checkS pfa = 0 := by decide +kernel
theorem faQ : tmpS ++ pfa = qfa := by decide +kernel
theorem faT : tempedS qfa = true := by decide +kernel
def T1 (l : List Nat) : TT := ⟨10000, [(qfa, 0)], [], [.mk qfa 0], 2, false, -1, [⟨l, l, 2⟩]⟩
def T2 (l : List Nat) : TT := ⟨10000, [], [], [], 3, false, -1, [⟨l, l, 2⟩]⟩
theorem t1 {l : List Nat} (hl : l.length ≤ 300) : layT pfa l (newT 10000) = ((qfa, 0), T1 l) := by
  have e1 : remT qfa (newT 10000) = (0, newT 10000) := rem_no rfl
  have e2 : stepsT (layL qfa l) (newT 10000) = (0, T1 l) := by
    unfold layL newT
    rw [steps_ok (makeS (by decide) rfl)]
    have h1 : ([] ++ [(⟨[], [], 0 + 1⟩ : Fil)])[([] : List Fil).length]? = some ⟨[], [], 0 + 1⟩ := rfl
    rw [steps_ok (putS (by decide) (i := 0) (f := ⟨[], [], 0 + 1⟩) rfl rfl (by
      show ((0 : Nat) : Int) - ((0 : Nat) : Int) + (l.length : Nat) ≤ 10000
      omega))]
    rw [steps_ok (syncS (by decide) (i := 0) (f := ⟨l, [], 0 + 1 + 1⟩) rfl rfl)]
    rfl
  unfold layT
  rw [if_neg (by rw [faOk]; decide), faQ, e1]
  dsimp only
  rw [if_neg (by decide), e2]
  rfl
theorem r1 (l : List Nat) : readT (T1 l) true qfa = (l, 0, T1 l) := rfl
theorem c1e (l : List Nat) : cleanT (T1 l) = ((1, 0), T2 l) := rfl
theorem c2e (l : List Nat) : crashT (T2 l) 0 [] = ⟨10000, [], [], [], 4, false, -1, [⟨l, l, 2⟩]⟩ := rfl
section
variable {S : Sums}
set_option maxHeartbeats 64000000 in
theorem whole3 (hS : Nu S) (hN : Nt S) (hd : Dg S) (hP : Pw S) (h3 : ∀ args h, S 3 args h = none) (hL : ∀ h, S 4 [] h = some (.bool true, h)) (hM : ∀ h, S 18 [.str qfa] h = some (.bool true, h))
    {h : AH} {v cv : AV} {l : List Nat} {k0 : Int} {n id : Nat} {cs : List AV} {ks : Nat → Int} {bs : Nat → AV} {ls : Nat → List Nat} (hb : Bs h v l) (hl : ∀ b ∈ l, b < 256) (hc : Cl h cv n id cs ks bs ls) :
    RnC Tryz.prog S 3 [v, .int .i64 k0, cv] h fun r _ => r = .bool true := by
  refine RnC.enter' Tryz.f3 _ 222 [.tmp 6] (h3 _ _) bd3 Tryz.func3 rfl rfl rfl ?_
  have hcl : (∀ g, evLen Tryz.prog g #[23] cv = some (.int .i64 (n : Nat))) ∧ oneA cv = true := by
    rcases hc with ⟨rfl, rfl⟩ | ⟨rfl, _⟩
    · exact ⟨fun g => by simp [evLen, Tryz.underlying23], rfl⟩
    · exact ⟨fun g => by simp [evLen, Tryz.underlying23], rfl⟩
  obtain ⟨lc, oc⟩ := hcl
  simp (maxSteps := 1000000) -dsimp (disch := (repeat first | rw [nxn] | rw [nxp]); try omega) only [go_sem, evLen]
  refine callK_of (RnC.sum (hL _) (Q := fun v h' => v = .bool true ∧ h' = h) ⟨rfl, rfl⟩) ?_
  rintro r g ⟨rfl, hg0⟩
  obtain rfl : h = g := hg0.symm
  simp (maxSteps := 1000000) -dsimp (disch := (repeat first | rw [nxn] | rw [nxp]); try omega) only [go_sem, evLen]
  refine callK_of (pick6 hS) ?_
  rintro r g ⟨⟨k, rfl, hk1, hk2⟩, hg0⟩
  obtain rfl : h = g := hg0.symm
  obtain ⟨s, hs⟩ : ∃ s : Nat, (1 + k) = (s : Int) := ⟨(1 + k).toNat, by omega⟩
  have hs1 : 1 ≤ s := by omega
  have hs2 : s ≤ 60 := by omega
  simp (maxSteps := 1000000) -dsimp (disch := (repeat first | rw [nxn] | rw [nxp]); try omega) only [go_sem, evLen, hs]
  refine callK_of (cut7 hS hN hd hb hl hs1 (by omega)) ?_
  rintro r h2 ⟨hr, f2⟩
  obtain ⟨lv, ov⟩ := conv_len (hb.fr f2)
  by_cases c1 : l.length ≤ 4194304 ∧ cnt (l.length : Nat) (s : Nat) ≤ 1024
  · rw [if_pos c1] at hr
    obtain ⟨dv, rfl, hD⟩ := hr
    obtain ⟨ldv, sdv, odv⟩ := hD.len
    have odm := odv
    simp only [oneA] at odm
    by_cases c2 : (300 : Int) < (l.length : Nat)
    · simp (maxSteps := 1000000) -dsimp (disch := (repeat first | rw [nxn] | rw [nxp]); try omega) only [go_sem, c2, lv, lc, odm]
    by_cases c3 : (40 : Int) < (n : Nat)
    · simp (maxSteps := 1000000) -dsimp (disch := (repeat first | rw [nxn] | rw [nxp]); try omega) only [go_sem, c2, c3, lv, lc, odm]
    have L : Lt l s (digs l s (cnt (l.length : Nat) (s : Nat)).toNat) := ⟨hl, by omega, hs1, hs2, c1.2, rfl⟩
    generalize hDD : digs l s (cnt (l.length : Nat) (s : Nat)).toNat = D at L hD ldv
    simp (maxSteps := 1000000) -dsimp (disch := (repeat first | rw [nxn] | rw [nxp]); try omega) only [go_sem, c2, c3, lv, lc, odm, ldv, sdv, odv]
    refine callK_of (new8 hS hN (hD.fr ?_) L.d32) ?_
    · exact (Fr.new h2 _).put _ (Nat.le_refl _)
    rintro r h4 ⟨f4, hr⟩
    rw [if_pos L.chkd] at hr
    obtain ⟨p, m, rfl, hp1, hm1, P1⟩ := hr
    have f24 : Fr h2 h4 := ((Fr.new h2 _).put _ (Nat.le_refl _)).trans f4
    have g4 : h4.get h2.nx = some (.cells [.int .i64 (s : Nat), .int .i64 (l.length : Nat), dv] true false) := (f4.get _ (by show h2.nx < h2.nx + 1; omega)).trans (AH.get_put_eq rfl)
    have n4 : h2.nx + 1 ≤ h4.nx := f4.nx
    have W0 : Wk h2.nx p m n id v cv dv cs ks bs ls l s D h4 (fun _ => none) := ⟨(hb.fr f2).fr f24, (hc.fr f2).fr f24, g4, by omega, hD.fr f24, P1⟩
    have Lc := L.len.2
    have Ln := L.n
    generalize h2.nx = a at W0
    simp (maxSteps := 1000000) -dsimp (disch := (repeat first | rw [nxn] | rw [nxp]); try omega) only [go_sem, odm]
    refine loopK_of (RnL.rounds (Q := fun ex t => (ex = .exit 0 ∧ t.d = [] ∧ t.t.get 0 = some v ∧ t.t.get 7 = some (.ptr a 0) ∧ t.t.get 9 = some (.ptr p 0) ∧ ∃ B, Wk a p m n id v cv dv cs ks bs ls l s D t.h B) ∨ (ex = .ret ∧ t.d = [] ∧ t.t.get 6 = some (.bool true)))
      (fun mm t => t.d = [] ∧ t.t.get 0 = some v ∧ t.t.get 2 = some cv ∧ t.t.get 7 = some (.ptr a 0) ∧ t.t.get 9 = some (.ptr p 0) ∧ ∃ (B : Int → Option (List Nat)) (i : Nat), t.t.get 10 = some (.int .i64 (i : Nat)) ∧ Wk a p m n id v cv dv cs ks bs ls l s D t.h B ∧ i ≤ n ∧ mm = n - i) ?_ n ?_) ?_
    · rintro mm ⟨t, g, d⟩ ⟨e2, t0, t2, t7, t9, B, i, t10, W, hi, rfl⟩
      dsimp only at e2 t0 t2 t7 t9 t10 W
      subst e2
      by_cases c5 : (i : Int) < (n : Nat)
      · have hi2 : i < n := by omega
        rcases W.c with ⟨_, rfl⟩ | ⟨rfl, hg, hid, hcs⟩
        · omega
        obtain ⟨x0, x1, x2, x3⟩ := hcs i hi2
        obtain ⟨lb, ob⟩ := conv_len x2
        by_cases c6 : (300 : Int) < ((ls i).length : Nat)
        · simp (maxSteps := 1000000) -dsimp (disch := (repeat first | rw [nxn] | rw [nxp]); try omega) only [go_sem, c5, c6, t0, t2, t7, t9, t10, lc, hi2, hg, x0, x1, lb, ob, Nat.mul_one]
          exact .inr ⟨trivial, trivial, trivial⟩
        simp (maxSteps := 1000000) -dsimp (disch := (repeat first | rw [nxn] | rw [nxp]); try omega) only [go_sem, c5, c6, t0, t2, t7, t9, t10, lc, hi2, hg, x0, x1, lb, ob, Nat.mul_one]
        refine syDraw.go0 (by kernel_rfl) ?_
        simp (maxSteps := 1000000) -dsimp (disch := (repeat first | rw [nxn] | rw [nxp]); try omega) only [go_sem, c5, c6, t0, t2, t7, t9, t10, lc, hi2, hg, x0, x1, lb, ob, Nat.mul_one]
        have W1 := W.fr ((Fr.refl g).more _ (by omega) : Fr g { tr := g.tr, nx := g.nx + 12 })
        refine callK_of (wk_any hS hN hd L W1 (x2.fr ((Fr.refl g).more _ (by omega))) x3 (by omega)) ?_
        rintro r h6 ⟨⟨e, rfl⟩, B1, W6⟩
        by_cases c7 : ((D.length : Nat) : Int) = 0
        · simp (maxSteps := 1000000) -dsimp (disch := (repeat first | rw [nxn] | rw [nxp]); try omega) only [go_sem, c5, c6, c7, t0, t2, t7, t9, t10, W6.g, ldv, odv]
          exact ⟨n - (i + 1), by omega, trivial, trivial, trivial, trivial, trivial, B1, i + 1, rfl, W6, by omega, rfl⟩
        · rcases W6.c with ⟨_, h0⟩ | ⟨_, hg6, hid6, hcs6⟩
          · omega
          simp (maxSteps := 1000000) -dsimp (disch := (repeat first | rw [nxn] | rw [nxp]); try omega) only [go_sem, c5, c6, c7, t0, t2, t7, t9, t10, W6.g, ldv, odv]
          refine syDraw.go0 (by kernel_rfl) ?_
          simp (maxSteps := 1000000) -dsimp (disch := (repeat first | rw [nxn] | rw [nxp]); try omega) only [go_sem, c5, c6, c7, t0, t2, t7, t9, t10, W6.g, ldv, odv, sdv, hi2, hg6, x0, Nat.mul_one]
          have W7 := W6.fr ((Fr.refl h6).more _ (by omega) : Fr h6 { tr := h6.tr, nx := h6.nx + 10 })
          refine callK_of (pickM hS (m := D.length) (by omega) (by omega)) ?_
          rintro r g7 ⟨⟨q, rfl, hq⟩, e7⟩
          rw [← e7] at W7
          clear e7
          have hql := L.lt hq
          simp (maxSteps := 1000000) -dsimp (disch := (repeat first | rw [nxn] | rw [nxp]); try omega) only [go_sem, t0, t2, t7, t9, t10, W7.g, odm]
          refine callK_of (wk_at hN L W7 hq) ?_
          rintro r h8 ⟨rfl, W8⟩
          obtain ⟨x, sx, bx⟩ := wk_slice W8 hql
          simp (maxSteps := 1000000) -dsimp (disch := (repeat first | rw [nxn] | rw [nxp]); try omega) only [go_sem, t0, t2, t7, t9, t10, sx]
          refine callK_of (wk_put hS hN hd L W8 hq bx) ?_
          rintro r h9 ⟨rfl, W9⟩
          simp (maxSteps := 1000000) -dsimp (disch := (repeat first | rw [nxn] | rw [nxp]); try omega) only [go_sem, t0, t2, t7, t9, t10]
          refine callK_of (wk_has hS W9) ?_
          rintro r h10 ⟨rfl, W10⟩
          have e10 : (putB B1 (q : Nat) (stre l s q) (q : Nat)).isSome = true := by unfold putB; rw [if_pos rfl]; rfl
          simp (maxSteps := 1000000) -dsimp (disch := (repeat first | rw [nxn] | rw [nxp]); try omega) only [go_sem, t0, t2, t7, t9, t10, e10]
          exact ⟨n - (i + 1), by omega, trivial, trivial, trivial, trivial, trivial, _, i + 1, rfl, W10, by omega, rfl⟩
      · simp (maxSteps := 1000000) -dsimp (disch := (repeat first | rw [nxn] | rw [nxp]); try omega) only [go_sem, c5, t0, t2, t7, t9, t10, lc]
        exact .inl ⟨trivial, trivial, trivial, trivial, trivial, B, W⟩
    · simp (maxSteps := 1000000) -dsimp (disch := (repeat first | rw [nxn] | rw [nxp]); try omega) only [go_sem]
      exact ⟨trivial, trivial, trivial, trivial, trivial, _, 0, rfl, W0, Nat.zero_le _, rfl⟩
    · rintro ex ⟨t, g, d⟩ (⟨rfl, e2, t0, t7, t9, B, W⟩ | ⟨rfl, e2, t6⟩)
      · dsimp only at e2 t0 t7 t9 W
        subst e2
        simp (maxSteps := 1000000) -dsimp (disch := (repeat first | rw [nxn] | rw [nxp]); try omega) only [go_sem, t0, t7, t9]
        refine loopK_of (RnL.rounds (Q := fun ex t => ex = .exit 2 ∧ t.d = [] ∧ t.t.get 0 = some v ∧ t.t.get 9 = some (.ptr p 0) ∧ ∃ B, Wk a p m n id v cv dv cs ks bs ls l s D t.h B ∧ ∀ j : Nat, j < D.length → B j = some (stre l s j))
          (fun mm t => t.d = [] ∧ t.t.get 0 = some v ∧ t.t.get 7 = some (.ptr a 0) ∧ t.t.get 9 = some (.ptr p 0) ∧ ∃ (B : Int → Option (List Nat)) (i : Nat), t.t.get 15 = some (.int .i64 (i : Nat)) ∧ Wk a p m n id v cv dv cs ks bs ls l s D t.h B ∧ (∀ j : Nat, j < i → B j = some (stre l s j)) ∧ i ≤ D.length ∧ mm = D.length - i) ?_ D.length ?_) ?_
        · rintro mm ⟨t, g, d⟩ ⟨e2, t0, t7, t9, B, i, t15, W, hB, hi, rfl⟩
          dsimp only at e2 t0 t7 t9 t15 W
          subst e2
          by_cases c5 : (i : Int) < (D.length : Nat)
          · have hi2 : i < D.length := by omega
            have hql := L.lt hi2
            simp (maxSteps := 1000000) -dsimp (disch := (repeat first | rw [nxn] | rw [nxp]); try omega) only [go_sem, c5, t0, t7, t9, t15, W.g, ldv, odv, odm]
            refine callK_of (wk_at hN L W hi2) ?_
            rintro r h8 ⟨rfl, W8⟩
            obtain ⟨x, sx, bx⟩ := wk_slice W8 hql
            simp (maxSteps := 1000000) -dsimp (disch := (repeat first | rw [nxn] | rw [nxp]); try omega) only [go_sem, t0, t7, t9, t15, sx]
            refine callK_of (wk_put hS hN hd L W8 hi2 bx) ?_
            rintro r h9 ⟨rfl, W9⟩
            simp (maxSteps := 1000000) -dsimp (disch := (repeat first | rw [nxn] | rw [nxp]); try omega) only [go_sem, t0, t7, t9, t15]
            refine ⟨D.length - (i + 1), by omega, trivial, trivial, trivial, trivial, _, i + 1, rfl, W9, fun j hj => ?_, by omega, rfl⟩
            unfold putB
            by_cases hji : (j : Int) = (i : Int)
            · rw [if_pos hji]
              have : j = i := by omega
              rw [this]
            · rw [if_neg hji]
              exact hB j (by omega)
          · have : i = D.length := by omega
            subst this
            simp (maxSteps := 1000000) -dsimp (disch := (repeat first | rw [nxn] | rw [nxp]); try omega) only [go_sem, c5, t0, t7, t9, t15, W.g, ldv, odv]
            exact ⟨trivial, trivial, trivial, trivial, B, W, hB⟩
        · simp (maxSteps := 1000000) -dsimp (disch := (repeat first | rw [nxn] | rw [nxp]); try omega) only [go_sem, t0, t7, t9]
          exact ⟨trivial, trivial, trivial, trivial, B, 0, rfl, W, fun j hj => absurd hj (by omega), Nat.zero_le _, rfl⟩
        · rintro ex ⟨t, g, d⟩ ⟨rfl, e2, t0, t9, B, W, hB⟩
          dsimp only at e2 t0 t9 W
          subst e2
          simp (maxSteps := 1000000) -dsimp (disch := (repeat first | rw [nxn] | rw [nxp]); try omega) only [go_sem, t0, t9]
          refine callK_of (wk_bytes hS L W hB) ?_
          rintro r h6 ⟨⟨x, rfl, bx⟩, W6⟩
          obtain ⟨lx, ox⟩ := conv_len bx
          simp (maxSteps := 1000000) -dsimp (disch := (repeat first | rw [nxn] | rw [nxp]); try omega) only [go_sem, t0, t9, ox, ov]
          refine callK_of (eq14 hS bx W6.v hl) ?_
          rintro r g8 ⟨rfl, hg8⟩
          obtain rfl : g8 = h6 := hg8
          simp (maxSteps := 1000000) -dsimp (disch := (repeat first | rw [nxn] | rw [nxp]); try omega) only [go_sem, t0, t9, ox, ov]
          refine callK_of (wk_left hS L W6 hB) ?_
          rintro r h7 ⟨ll, f7⟩
          simp (maxSteps := 1000000) -dsimp (disch := (repeat first | rw [nxn] | rw [nxp]); try omega) only [go_sem, t0, t9, ox, ov, ll]
          refine callK_of (newC hP.toSt (10000 : Int)) ?_
          rintro r g9 ⟨f9, hr⟩
          rw [if_pos (by omega)] at hr
          obtain ⟨rfl, n9, hT0⟩ := hr
          have hk0 : ∀ j, j < h7.nx → (fun j => if j = h7.nx + 2 then 1 else if j = h7.nx then 2 else if j = h7.nx + 1 then 3 else 0) j = 0 := fun j hj => (if_neg (by omega)).trans ((if_neg (by omega)).trans (if_neg (by omega)))
          have xz : Bz _ g9 x l := Bz.of (bx.fr f7) f9 hk0
          generalize (fun j => if j = h7.nx + 2 then 1 else if j = h7.nx then 2 else if j = h7.nx + 1 then 3 else 0) = K0 at hT0 xz
          generalize h7.nx + 2 = pt at hT0
          simp (maxSteps := 1000000) -dsimp (disch := (repeat first | rw [nxn] | rw [nxp]); try omega) only [go_sem, t0, t9, ox, ov, faB]
          refine callK_of (layC hP.toTw hT0 (Bm.new _) (by decide) (by decide) (s := pfa) xz hl (by omega)) ?_
          rw [t1 Ln]
          rintro r h10 ⟨rfl, K1, nm1, sm1, ch1, ρ1, hT1, gr1⟩
          have xz1 := xz.gr gr1
          simp (maxSteps := 1000000) -dsimp (disch := (repeat first | rw [nxn] | rw [nxp]); try omega) only [go_sem, t0, t9, ox, ov]
          refine callK_of (readC hP.toSt hT1 qfa) ?_
          have oq : okP qfa = true := by unfold okP; rw [faT, Bool.or_true]
          rw [oq, r1]
          rintro r h11 ⟨⟨y, rfl, by1, idy⟩, hT11, gr11⟩
          have xz2 := xz1.gr gr11
          obtain ⟨ly, oy⟩ := conv_len by1
          have yz : Bz K1 h11 y l := ⟨by1, fun id off n z c hh => hT1.top _ (idy _ _ _ _ _ hh)⟩
          simp (maxSteps := 1000000) -dsimp (disch := (repeat first | rw [nxn] | rw [nxp]); try omega) only [go_sem, t0, t9, ox, ov, oy]
          refine callK_of (cleanC hP hT11 (n := 2) (c := 2) ⟨by simp [T1], by simp [T1], by simp [T1]⟩ (by decide) (by decide) (by
            intro s hs
            have : s = qfa := by
              have h1 := sortS_mem hs
              simpa [T1] using h1
            rw [this]; exact faT)) ?_
          rw [c1e]
          rintro r h12 ⟨rfl, K2, nm2, sm2, ch2, ρ2, hT12, gr12⟩
          have xz3 := xz2.gr gr12
          have yz3 := yz.gr gr12
          simp (maxSteps := 1000000) -dsimp (disch := (repeat first | rw [nxn] | rw [nxp]); try omega) only [go_sem, t0, t9, ox, ov, oy]
          refine callK_of (RnC.sum (hM _) (Q := fun v h' => v = .bool true ∧ h' = h12) ⟨rfl, rfl⟩) ?_
          rintro r h13 ⟨rfl, e13⟩
          obtain rfl : h12 = h13 := e13.symm
          simp (maxSteps := 1000000) -dsimp (disch := (repeat first | rw [nxn] | rw [nxp]); try omega) only [go_sem, t0, t9, ox, ov, oy]
          refine callK_of (eq14 hS xz3.1 yz3.1 hl) ?_
          rintro r h14 ⟨rfl, e14⟩
          obtain rfl : h14 = h12 := e14
          simp (maxSteps := 1000000) -dsimp (disch := (repeat first | rw [nxn] | rw [nxp]); try omega) only [go_sem, t0, t9, ox, ov, oy]
          have nilAll : ∀ s ∈ sortS ((T2 l).now.map (·.1)), tempedS s = true := fun s hs => by simp [T2, sortS] at hs
          refine callK_of (allC hP hT12 (by simp [T2]) nilAll) ?_
          rintro r h15 ⟨hs15, f15⟩
          have hl15 := (ssLn hs15).1
          have hl15' : ∀ g, evLen Tryz.prog g #[55] r = some (.int .i64 ((0 : Nat) : Int)) := hl15
          have o15 := (ssLn hs15).2.2
          simp (maxSteps := 1000000) -dsimp (disch := (repeat first | rw [nxn] | rw [nxp]); try omega) only [go_sem, t0, t9, hl15', o15]
          refine callK_of (crashE hP.toSt (hT12.fr f15) ⟨by simp [T2], by simp [T2], by simp [T2], by simp [T2]⟩ (by simp [T2]) 0 (v := .nilsl) (ps := []) (.inl ⟨rfl, rfl⟩) (by simp [T2, keepT, doAll]) (c2e l)) ?_
          rintro r h16 ⟨rfl, K3, nm3, sm3, ch3, ρ3, hT16, gr16⟩
          simp (maxSteps := 1000000) -dsimp (disch := (repeat first | rw [nxn] | rw [nxp]); try omega) only [go_sem, t0, t9]
          refine callK_of (allC hP hT16 (by simp) (fun s hs => by simp [sortS] at hs)) ?_
          rintro r h17 ⟨hs17, f17⟩
          have hl17' : ∀ g, evLen Tryz.prog g #[55] r = some (.int .i64 ((0 : Nat) : Int)) := (ssLn hs17).1
          have o17 := (ssLn hs17).2.2
          simp (maxSteps := 1000000) -dsimp (disch := (repeat first | rw [nxn] | rw [nxp]); try omega) only [go_sem, hl17', o17]
      · dsimp only at e2 t6
        subst e2
        simp (maxSteps := 1000000) -dsimp (disch := (repeat first | rw [nxn] | rw [nxp]); try omega) only [go_sem, t6]
  · rw [if_neg c1] at hr
    subst hr
    by_cases c2 : (300 : Int) < (l.length : Nat)
    · simp (maxSteps := 1000000) -dsimp (disch := (repeat first | rw [nxn] | rw [nxp]); try omega) only [go_sem, c2, lv, lc]
    by_cases c3 : (40 : Int) < (n : Nat)
    · simp (maxSteps := 1000000) -dsimp (disch := (repeat first | rw [nxn] | rw [nxp]); try omega) only [go_sem, c2, c3, lv, lc]
    · simp (maxSteps := 1000000) -dsimp (disch := (repeat first | rw [nxn] | rw [nxp]); try omega) only [go_sem, c2, c3, lv, lc]
end
end Go.Proofs.YtfhcnoancepgcaaGreatDoor.tre
