/- The program's tree: all paths; all temporary files, cleaned. Conditions: those of its summaries. -/
import Derived.Test.YtfhcnoancepgcaaGreatDoorTWa
import Derived.Test.YtfhcnoancepgcaaGreatDoorAb7
namespace Go.Proofs.YtfhcnoancepgcaaGreatDoor.tre
open Go Go.Abs Go.Abs.Wal Go.Proofs
set_option maxRecDepth 100000
set_option linter.unusedVariables false
set_option linter.unusedSimpArgs false

theorem ssLn {n0 : Nat} {h : AH} {v : AV} {l : List Pth} (hb : Ss n0 h v l) : (∀ g, evLen Tryz.prog g #[55] v = some (.int .i64 (l.length : Nat))) ∧ sameAV 20 v v = true ∧ oneA v = true := by
  rcases hb with ⟨rfl, rfl⟩ | ⟨id, rfl, _⟩
  · exact ⟨fun g => by simp [evLen, Tryz.underlying55], rfl, rfl⟩
  · exact ⟨fun g => by simp [evLen, Tryz.underlying55], by simp [sameAV], rfl⟩
section
variable {S : Sums}
structure Pw (S : Sums) : Prop extends Tw S where
  np : ∀ f args h, f ∈ [48, 47, 77, 78, 76] → S f args h = none
theorem hasC (hS : Pw S) {h : AH} {s : Pth} : RnC Tryz.prog S 78 [.str s, .str []] h fun r h' => r = .bool true ∧ h' = h := by
  refine RnC.enter' Tryz.f78 _ 8 [.tmp 4] (hS.np _ _ _ (by simp)) bd78 Tryz.func78 rfl rfl rfl ?_
  simp (maxSteps := 1000000) -dsimp (disch := (repeat first | rw [nxn] | rw [nxp]); try omega) only [go_sem, evLen]
  refine callK_of (preC hS.toSp) ?_
  rintro r h2 ⟨rfl, rfl⟩
  simp (maxSteps := 1000000) -dsimp (disch := (repeat first | rw [nxn] | rw [nxp]); try omega) only [go_sem, evLen]
  exact ⟨by simp [preS], trivial⟩
theorem keepC1 (hS : Pw S) {h : AH} {s : Pth} {c : Nat} (hc : h.get c = some (.cells [.str []] true false)) : RnC Tryz.prog S 77 [.str s, .ptr c 0] h fun r h' => r = .bool false ∧ h' = h := by
  refine RnC.enter' Tryz.f77 _ 8 [.tmp 3] (hS.np _ _ _ (by simp)) bd77 Tryz.func77 rfl rfl rfl ?_
  simp (maxSteps := 1000000) -dsimp (disch := (repeat first | rw [nxn] | rw [nxp]); try omega) only [go_sem, evLen, hc]
  refine callK_of (hasC hS) ?_
  rintro r h2 ⟨rfl, rfl⟩
  simp (maxSteps := 1000000) -dsimp (disch := (repeat first | rw [nxn] | rw [nxp]); try omega) only [go_sem, evLen]
  exact ⟨trivial, trivial⟩
set_option maxHeartbeats 8000000 in
theorem idxFC (hS : Pw S) {n0 : Nat} {h : AH} {v : AV} {l : List Pth} {c : Nat} (hv : Ss n0 h v l) (hl : l.length ≤ 16384) (hc : h.get c = some (.cells [.str []] true false)) : RnC Tryz.prog S 76 [v, .func (.func 77) [] [.ptr c 0]] h fun r h' => r = .int .i64 (-1) ∧ h' = h := by
  refine RnC.enter' Tryz.f76 _ 19 [.tmp 4] (hS.np _ _ _ (by simp)) bd76 Tryz.func76 rfl rfl rfl ?_
  obtain ⟨ln, sl, ol⟩ := ssLn hv
  simp (maxSteps := 1000000) -dsimp (disch := (repeat first | rw [nxn] | rw [nxp]); try omega) only [go_sem, ln, ol]
  refine loopK_of (RnL.rounds (Q := fun ex u => ex = .exit 0 ∧ u.d = [] ∧ u.h = h)
    (fun m u => u.d = [] ∧ u.h = h ∧ u.t.get 0 = some v ∧ u.t.get 1 = some (.func (.func 77) [] [.ptr c 0]) ∧ u.t.get 7 = some (.int .i64 (l.length : Nat)) ∧ ∃ i : Nat, u.t.get 8 = some (.int .i64 (i : Nat)) ∧ i ≤ l.length ∧ m = l.length - i) ?_ l.length ?_) ?_
  · rintro m ⟨t, g, d⟩ ⟨e2, e1, g0, g1, g7, i, g8, hi, rfl⟩
    dsimp only at e1 e2 g0 g1 g7 g8
    subst e1 e2
    by_cases c4 : (i : Int) < (l.length : Nat)
    · have hil : i < l.length := by omega
      obtain ⟨a, ha⟩ : ∃ a, l[i]? = some a := ⟨_, List.getElem?_eq_getElem hil⟩
      rcases hv with ⟨_, rfl⟩ | ⟨id, rfl, hg, hid, _⟩
      · simp at hil
      have hcs : (l.map AV.str)[i]? = some (.str a) := by simp [ha]
      simp (maxSteps := 1000000) -dsimp (disch := (repeat first | rw [nxn] | rw [nxp]); try omega) only [go_sem, c4, hil, hg, hcs, bd77, Nat.mul_one, g0, g1, g7, g8]
      refine callK_of (keepC1 hS hc) ?_
      rintro r h2 ⟨rfl, rfl⟩
      simp (maxSteps := 1000000) -dsimp (disch := (repeat first | rw [nxn] | rw [nxp]); try omega) only [go_sem, c4, hil, hg, hcs, bd77, Nat.mul_one, g0, g1, g7, g8]
      exact ⟨l.length - (i + 1), by omega, trivial, trivial, trivial, trivial, trivial, i + 1, rfl, by omega, rfl⟩
    · simp (maxSteps := 1000000) -dsimp (disch := (repeat first | rw [nxn] | rw [nxp]); try omega) only [go_sem, c4, g0, g1, g7, g8]
      exact ⟨trivial, trivial, trivial⟩
  · simp (maxSteps := 1000000) -dsimp (disch := (repeat first | rw [nxn] | rw [nxp]); try omega) only [go_sem]
    exact ⟨trivial, trivial, trivial, trivial, trivial, 0, rfl, Nat.zero_le _, rfl⟩
  · rintro ex ⟨t, g, d⟩ ⟨rfl, rfl, e1⟩
    dsimp only at e1
    subst e1
    simp (maxSteps := 1000000) -dsimp (disch := (repeat first | rw [nxn] | rw [nxp]); try omega) only [go_sem]
    exact ⟨trivial, trivial⟩
theorem delC (hS : Pw S) {n0 : Nat} {h : AH} {v : AV} {l : List Pth} {c : Nat} (hv : Ss n0 h v l) (hl : l.length ≤ 16384) (hc : h.get c = some (.cells [.str []] true false)) : RnC Tryz.prog S 47 [v, .func (.func 77) [] [.ptr c 0]] h fun r h' => r = v ∧ h' = h := by
  refine RnC.enter' Tryz.f47 _ 42 [.tmp 4] (hS.np _ _ _ (by simp)) bd47 Tryz.func47 rfl rfl rfl ?_
  obtain ⟨ln, sl, ol⟩ := ssLn hv
  simp (maxSteps := 1000000) -dsimp (disch := (repeat first | rw [nxn] | rw [nxp]); try omega) only [go_sem, ln, ol]
  refine callK_of (idxFC hS hv hl hc) ?_
  rintro r h2 ⟨rfl, rfl⟩
  simp (maxSteps := 1000000) -dsimp (disch := (repeat first | rw [nxn] | rw [nxp]); try omega) only [go_sem, ol]
  exact ⟨trivial, trivial⟩
theorem pathsC (hS : Pw S) {K p nm sm chv ρ h T} (hT : Tr K p nm sm chv ρ h T) (hm : T.now.length ≤ 16384) : RnC Tryz.prog S 48 [.ptr p 0, .str []] h fun r h' => Ss h.nx h' r (sortS (T.now.map (·.1))) ∧ Fr h h' := by
  refine RnC.enter' Tryz.f48 _ 16 [.tmp 4] (hS.np _ _ _ (by simp)) bd48 Tryz.func48 rfl rfl rfl ?_
  have hT2 := hT.fr (Fr.new h (.cells [.str []] true false))
  have hp2 := hT2.pp
  simp (maxSteps := 1000000) -dsimp (disch := (repeat first | rw [nxn] | rw [nxp]); try omega) only [go_sem]
  refine callK_of (hT2.made hS.toSt) ?_
  rintro r h2 ⟨rfl, h2e⟩
  rw [← h2e] at hT2 hp2
  have hc2 : h2.get h.nx = some (.cells [.str []] true false) := by rw [h2e]; exact AH.get_new_eq rfl
  have n2 : h2.nx = h.nx + 1 := by rw [h2e]; rfl
  have f2 : Fr h h2 := by rw [h2e]; exact Fr.new _ _
  try simp (maxSteps := 1000000) -dsimp (disch := (repeat first | rw [nxn] | rw [nxp]); try omega) only [go_sem, hp2]
  refine callK_of (keysC hS.toSt) ?_
  rintro r h3 ⟨rfl, h3e⟩
  have f3 : Fr h2 h3 := by rw [h3e]; exact Fr.new _ _
  have hT3 := hT2.fr f3
  refine callK_of (sortedC hS.toSt (b := h2.nx) (by rw [h3e]; exact AH.get_new_eq rfl) hT3.now hT3.wf.now hm) ?_
  rintro r h4 ⟨hss, f4⟩
  obtain ⟨ln, sl, ol⟩ := ssLn hss
  have hc4 : h4.get h.nx = some (.cells [.str []] true false) := ((f3.trans f4).get _ (by omega)).trans hc2
  try simp (maxSteps := 1000000) -dsimp (disch := (repeat first | rw [nxn] | rw [nxp]); try omega) only [go_sem, ol]
  refine callK_of (delC hS hss (by rw [sortS_len, List.length_map]; exact hm) hc4) ?_
  rintro r h5 ⟨rfl, rfl⟩
  try simp (maxSteps := 1000000) -dsimp (disch := (repeat first | rw [nxn] | rw [nxp]); try omega) only [go_sem, ol]
  exact ⟨hss.low (by have := f3.nx; omega), (f2.trans f3).trans f4⟩
theorem txGr {K K' : Nat → Nat} {h h' : AH} {v : AV} {l : List (List Nat)} (hb : Tx K h v l) (g : Gr K h K' h') : Tx K' h' v l := by
  obtain ⟨hb, hk⟩ := hb
  rcases hb with h1 | ⟨id, off, c, cs, o, t, h1, h2, h3, h4⟩
  · exact ⟨.inl h1, fun id off n z c hh => by rw [h1.1] at hh; cases hh⟩
  · have hk0 := hk _ _ _ _ _ h1
    refine ⟨.inr ⟨id, off, c, cs, o, t, h1, (g.get id h3 hk0).1.trans h2, Nat.lt_of_lt_of_le h3 g.nx, h4⟩, fun id' off' n z c' hh => ?_⟩
    rw [h1] at hh
    cases hh
    exact (g.get _ h3 hk0).2
theorem all1C (hS : Pw S) {h : AH} {s : Pth} : RnC Tryz.prog S 49 [.str s] h fun r h' => r = .bool (!tempedS s) ∧ Fr h h' := by
  refine RnC.enter' Tryz.f49 _ 12 [.tmp 2] (hS.nx _ _ _ (by simp)) bd49 Tryz.func49 rfl rfl rfl ?_
  simp (maxSteps := 1000000) -dsimp (disch := (repeat first | rw [nxn] | rw [nxp]); try omega) only [go_sem, evLen]
  refine callK_of (tempedC hS.toSp) ?_
  rintro r h2 ⟨⟨x, rfl⟩, f2⟩
  simp (maxSteps := 1000000) -dsimp (disch := (repeat first | rw [nxn] | rw [nxp]); try omega) only [go_sem, evLen]
  exact ⟨trivial, f2⟩
set_option maxHeartbeats 8000000 in
theorem idxF2 (hS : Pw S) {n0 : Nat} {h : AH} {v : AV} {l : List Pth} (hv : Ss n0 h v l) (hl : l.length ≤ 16384) (ht : ∀ s ∈ l, tempedS s = true) : RnC Tryz.prog S 76 [v, .func (.func 49) [] []] h fun r h' => r = .int .i64 (-1) ∧ Fr h h' := by
  refine RnC.enter' Tryz.f76 _ 19 [.tmp 4] (hS.np _ _ _ (by simp)) bd76 Tryz.func76 rfl rfl rfl ?_
  obtain ⟨ln, sl, ol⟩ := ssLn hv
  simp (maxSteps := 1000000) -dsimp (disch := (repeat first | rw [nxn] | rw [nxp]); try omega) only [go_sem, ln, ol]
  refine loopK_of (RnL.rounds (Q := fun ex u => ex = .exit 0 ∧ u.d = [] ∧ Fr h u.h)
    (fun m u => u.d = [] ∧ Fr h u.h ∧ u.t.get 0 = some v ∧ u.t.get 1 = some (.func (.func 49) [] []) ∧ u.t.get 7 = some (.int .i64 (l.length : Nat)) ∧ ∃ i : Nat, u.t.get 8 = some (.int .i64 (i : Nat)) ∧ i ≤ l.length ∧ m = l.length - i) ?_ l.length ?_) ?_
  · rintro m ⟨t, g, d⟩ ⟨e2, e1, g0, g1, g7, i, g8, hi, rfl⟩
    dsimp only at e1 e2 g0 g1 g7 g8
    subst e2
    by_cases c4 : (i : Int) < (l.length : Nat)
    · have hil : i < l.length := by omega
      obtain ⟨a, ha⟩ : ∃ a, l[i]? = some a := ⟨_, List.getElem?_eq_getElem hil⟩
      have hta := ht a (List.mem_iff_getElem?.2 ⟨i, ha⟩)
      rcases hv with ⟨_, rfl⟩ | ⟨id, rfl, hg, hid, _⟩
      · simp at hil
      have hcs : (l.map AV.str)[i]? = some (.str a) := by simp [ha]
      have hg1 : g.get id = some (.cells (l.map .str) true false) := (e1.get id hid).trans hg
      simp (maxSteps := 1000000) -dsimp (disch := (repeat first | rw [nxn] | rw [nxp]); try omega) only [go_sem, c4, hil, hg1, hcs, bd49, Nat.mul_one, g0, g1, g7, g8]
      refine callK_of (all1C hS) ?_
      rintro r h2 ⟨rfl, f2⟩
      rw [hta]
      simp (maxSteps := 1000000) -dsimp (disch := (repeat first | rw [nxn] | rw [nxp]); try omega) only [go_sem, c4, hil, hcs, Nat.mul_one, g0, g1, g7, g8]
      exact ⟨l.length - (i + 1), by omega, trivial, e1.trans f2, trivial, trivial, trivial, i + 1, rfl, by omega, rfl⟩
    · simp (maxSteps := 1000000) -dsimp (disch := (repeat first | rw [nxn] | rw [nxp]); try omega) only [go_sem, c4, g0, g1, g7, g8]
      exact ⟨trivial, trivial, e1⟩
  · simp (maxSteps := 1000000) -dsimp (disch := (repeat first | rw [nxn] | rw [nxp]); try omega) only [go_sem]
    exact ⟨trivial, Fr.refl _, trivial, trivial, trivial, 0, rfl, Nat.zero_le _, rfl⟩
  · rintro ex ⟨t, g, d⟩ ⟨rfl, rfl, e1⟩
    dsimp only at e1
    simp (maxSteps := 1000000) -dsimp (disch := (repeat first | rw [nxn] | rw [nxp]); try omega) only [go_sem]
    exact ⟨trivial, e1⟩
theorem delF2 (hS : Pw S) {n0 : Nat} {h : AH} {v : AV} {l : List Pth} (hv : Ss n0 h v l) (hl : l.length ≤ 16384) (ht : ∀ s ∈ l, tempedS s = true) : RnC Tryz.prog S 47 [v, .func (.func 49) [] []] h fun r h' => r = v ∧ Fr h h' := by
  refine RnC.enter' Tryz.f47 _ 42 [.tmp 4] (hS.np _ _ _ (by simp)) bd47 Tryz.func47 rfl rfl rfl ?_
  obtain ⟨ln, sl, ol⟩ := ssLn hv
  simp (maxSteps := 1000000) -dsimp (disch := (repeat first | rw [nxn] | rw [nxp]); try omega) only [go_sem, ln, ol]
  refine callK_of (idxF2 hS hv hl ht) ?_
  rintro r h2 ⟨rfl, f2⟩
  simp (maxSteps := 1000000) -dsimp (disch := (repeat first | rw [nxn] | rw [nxp]); try omega) only [go_sem, ol]
  exact ⟨trivial, f2⟩
/-- All temporary files, where there are none else. -/
theorem allC (hS : Pw S) {K p nm sm chv ρ h T} (hT : Tr K p nm sm chv ρ h T) (hm : T.now.length ≤ 16384) (ht : ∀ s ∈ sortS (T.now.map (·.1)), tempedS s = true) : RnC Tryz.prog S 19 [.ptr p 0] h fun r h' => Ss h.nx h' r (sortS (T.now.map (·.1))) ∧ Fr h h' := by
  refine RnC.enter' Tryz.f19 _ 8 [.tmp 2] (hS.nx _ _ _ (by simp)) bd19 Tryz.func19 rfl rfl rfl ?_
  have b0 : bytesOf { data := #[] } = [] := rfl
  simp (maxSteps := 1000000) -dsimp (disch := (repeat first | rw [nxn] | rw [nxp]); try omega) only [go_sem, eqTn, b0]
  refine callK_of (pathsC hS hT hm) ?_
  rintro r h2 ⟨hs, f2⟩
  obtain ⟨ln, sl, ol⟩ := ssLn hs
  try simp (maxSteps := 1000000) -dsimp (disch := (repeat first | rw [nxn] | rw [nxp]); try omega) only [go_sem, ol]
  refine callK_of (delF2 hS hs (by rw [tre.sortS_len, List.length_map]; exact hm) ht) ?_
  rintro r h3 ⟨rfl, f3⟩
  try simp (maxSteps := 1000000) -dsimp (disch := (repeat first | rw [nxn] | rw [nxp]); try omega) only [go_sem, ol]
  exact ⟨hs.fr f3, f2.trans f3⟩
/-- All taken away. -/
def rmL (l : List Pth) (T : TT) : Nat × TT := stepsT (l.map fun q T => rmT T true q) T
def cleanT (T : TT) : (Nat × Nat) × TT :=
  if (rmL (sortS (T.now.map (·.1))) T).1 ≠ 0 then ((0, (rmL (sortS (T.now.map (·.1))) T).1), (rmL (sortS (T.now.map (·.1))) T).2) else
  if T.now.length = 0 then ((0, 0), (rmL (sortS (T.now.map (·.1))) T).2) else
  if (syncPT (rmL (sortS (T.now.map (·.1))) T).2).1 ≠ 0 then ((0, (syncPT (rmL (sortS (T.now.map (·.1))) T).2).1), (syncPT (rmL (sortS (T.now.map (·.1))) T).2).2) else
  ((T.now.length, 0), (syncPT (rmL (sortS (T.now.map (·.1))) T).2).2)
set_option maxHeartbeats 8000000 in
theorem cleanC (hS : Pw S) {K p nm sm chv ρ h T} (hT : Tr K p nm sm chv ρ h T) {n c : Nat} (hb : Bm n c T) (hn : n ≤ 1000) (hc : c < 1152921504606000000) (ht : ∀ s ∈ sortS (T.now.map (·.1)), tempedS s = true) :
    RnC Tryz.prog S 17 [.ptr p 0] h fun r h' => r = .tup [.int .i64 ((cleanT T).1.1 : Nat), .int .i64 ((cleanT T).1.2 : Nat)] ∧ Res K p h h' (cleanT T).2 := by
  refine RnC.enter' Tryz.f17 _ 36 [.tmp 2, .tmp 3] (hS.nx _ _ _ (by simp)) bd17 Tryz.func17 rfl rfl rfl ?_
  have hpl : p < h.nx := hT.lt (by rw [hT.kp]; decide)
  have hnow := hb.now
  simp (maxSteps := 1000000) -dsimp (disch := (repeat first | rw [nxn] | rw [nxp]); try omega) only [go_sem, eqTn]
  refine callK_of (allC hS hT (by omega) ht) ?_
  rintro r h2 ⟨hs, f2⟩
  obtain ⟨ln, sl, ol⟩ := ssLn hs
  have hT2 := hT.fr f2
  have hlen : (sortS (T.now.map (·.1))).length = T.now.length := by rw [tre.sortS_len, List.length_map]
  have tx2 : Tx K h2 r (sortS (T.now.map (·.1))) := Tx.of hs fun j hj => hT.top j hj
  unfold cleanT
  rw [← hlen]
  generalize sortS (T.now.map (·.1)) = l at ht hs ln hlen tx2 ⊢
  simp (maxSteps := 1000000) -dsimp (disch := (repeat first | rw [nxn] | rw [nxp]); try omega) only [go_sem, ol, ln]
  refine loopK_of (RnL.rounds (Q := fun ex u => u.d = [] ∧ Res K p h2 u.h (rmL l T).2 ∧ u.t.get 0 = some (.ptr p 0) ∧ u.t.get 4 = some r ∧ (ex = .exit 0 ∧ (rmL l T).1 = 0 ∨ ex = .ret ∧ (rmL l T).1 ≠ 0 ∧ u.t.get 2 = some (.int .i64 0) ∧ u.t.get 3 = some (.int .i64 ((rmL l T).1 : Nat))))
    (fun m u => u.d = [] ∧ u.t.get 0 = some (.ptr p 0) ∧ u.t.get 4 = some r ∧ u.t.get 13 = some r ∧ u.t.get 14 = some (.int .i64 (l.length : Nat)) ∧ ∃ (i : Nat) (Ti : TT), u.t.get 15 = some (.int .i64 (i : Nat)) ∧ Res K p h2 u.h Ti ∧ Bm (n + i) (c + i) Ti ∧ rmL l T = rmL (l.drop i) Ti ∧ i ≤ l.length ∧ m = l.length - i) ?_ l.length ?_) ?_
  · rintro m ⟨t, g, d⟩ ⟨e2, g0, g4, g13, g14, i, Ti, g15, hr, hbi, he, hi, rfl⟩
    dsimp only at e2 g0 g4 g13 g14 g15 hr
    subst e2
    by_cases c1 : (i : Int) < (l.length : Nat)
    · have hil : i < l.length := by omega
      obtain ⟨q, hq⟩ : ∃ q, l[i]? = some q := ⟨_, List.getElem?_eq_getElem hil⟩
      have htq := ht q (List.mem_iff_getElem?.2 ⟨i, hq⟩)
      have oq : okP q = true := by unfold okP; rw [htq, Bool.or_true]
      have hdr : l.drop i = q :: l.drop (i + 1) := by rw [List.drop_eq_getElem_cons hil, (List.getElem?_eq_some_iff.1 hq).2]
      obtain ⟨K', nm', sm', chv', ρ', hT', gr'⟩ := hr
      have txg : Tx K' g r l := txGr tx2 gr'
      obtain ⟨id, off, cp, cs, o, tx, rfl, hg, hid, hcs⟩ := Tx.get txg hq
      have he2 : rmL (q :: l.drop (i + 1)) Ti = if (rmT Ti true q).1 ≠ 0 then rmT Ti true q else rmL (l.drop (i + 1)) (rmT Ti true q).2 := rfl
      rw [hdr, he2] at he
      simp (maxSteps := 1000000) -dsimp (disch := (repeat first | rw [nxn] | rw [nxp]); try omega) only [go_sem, c1, g0, g4, g13, g14, g15, hil, hg, hcs, Nat.mul_one]
      refine callK_of (rmC hS.toSt hT' (Bm.sm hbi (by omega) (by omega)) q) ?_
      rw [oq]
      rintro r2 h4 ⟨rfl, hr4⟩
      have hr5 := resTr gr' hr4
      have hb4 := hbi.rm true q
      by_cases c2 : (((rmT Ti true q).1 : Nat) : Int) = 0
      · rw [if_neg (by omega)] at he
        simp (maxSteps := 1000000) -dsimp (disch := (repeat first | rw [nxn] | rw [nxp]); try omega) only [go_sem, c1, c2, g0, g4, g13, g14, g15]
        exact ⟨l.length - (i + 1), by omega, trivial, trivial, trivial, trivial, trivial, i + 1, _, rfl, hr5, hb4, he, by omega, rfl⟩
      · rw [if_pos (by omega)] at he
        simp (maxSteps := 1000000) -dsimp (disch := (repeat first | rw [nxn] | rw [nxp]); try omega) only [go_sem, c1, c2, g0, g4, g13, g14, g15]
        rw [he]
        exact ⟨trivial, hr5, trivial, trivial, .inr ⟨trivial, by omega, trivial, rfl⟩⟩
    · have : i = l.length := by omega
      subst this
      rw [List.drop_length] at he
      simp (maxSteps := 1000000) -dsimp (disch := (repeat first | rw [nxn] | rw [nxp]); try omega) only [go_sem, c1, g0, g4, g13, g14, g15]
      rw [he]
      exact ⟨trivial, hr, trivial, trivial, .inl ⟨trivial, rfl⟩⟩
  · simp (maxSteps := 1000000) -dsimp (disch := (repeat first | rw [nxn] | rw [nxp]); try omega) only [go_sem]
    exact ⟨trivial, trivial, trivial, trivial, trivial, 0, T, rfl, ⟨K, nm, sm, chv, ρ, hT2, Gr.refl _ _⟩, hb, rfl, Nat.zero_le _, rfl⟩
  · have hbl : Bm (n + l.length) (c + l.length) (rmL l T).2 := by
      have := steps_bm (l.map fun q T => rmT T true q) (n := n) (c := c) (T := T) (fun f hf n c T hb => by
        obtain ⟨q, _, rfl⟩ := List.mem_map.1 hf
        exact hb.rm _ _) hb
      rw [List.length_map] at this
      exact this
    rintro ex ⟨t, g, d⟩ ⟨rfl, hr, g0, g4, ⟨rfl, e0⟩ | ⟨rfl, e0, g2, g3⟩⟩
    · dsimp only at hr g0 g4
      rw [if_neg (by omega)]
      by_cases c3 : l.length = 0
      · have c3' : ¬ (0 : Int) < ((l.length : Nat) : Int) := by omega
        rw [if_pos c3]
        simp (maxSteps := 1000000) -dsimp (disch := (repeat first | rw [nxn] | rw [nxp]); try omega) only [go_sem, g0, g4, ln, c3']
        exact ⟨by rw [c3]; rfl, resTr (frGr f2 K) hr⟩
      · have c3' : (0 : Int) < ((l.length : Nat) : Int) := by omega
        rw [if_neg c3]
        simp (maxSteps := 1000000) -dsimp (disch := (repeat first | rw [nxn] | rw [nxp]); try omega) only [go_sem, g0, g4, ln, c3']
        obtain ⟨K', nm', sm', chv', ρ', hT', gr'⟩ := hr
        refine callK_of (syncPC hS.toSt hT' (Bm.sm hbl (by omega) (by omega))) ?_
        rintro r2 h4 ⟨rfl, hr4⟩
        have hr5 := resTr (frGr f2 K) (resTr gr' hr4)
        by_cases c5 : (((syncPT (rmL l T).2).1 : Nat) : Int) = 0
        · rw [if_neg (by omega)]
          simp (maxSteps := 1000000) -dsimp (disch := (repeat first | rw [nxn] | rw [nxp]); try omega) only [go_sem, c5, g0, g4, ln]
          exact ⟨by first | trivial | rfl, hr5⟩
        · rw [if_pos (by omega)]
          simp (maxSteps := 1000000) -dsimp (disch := (repeat first | rw [nxn] | rw [nxp]); try omega) only [go_sem, c5, g0, g4, ln]
          exact ⟨by first | trivial | rfl, hr5⟩
    · dsimp only at hr g2 g3
      rw [if_pos e0]
      simp (maxSteps := 1000000) -dsimp (disch := (repeat first | rw [nxn] | rw [nxp]); try omega) only [go_sem, g2, g3]
      exact ⟨by first | trivial | rfl, resTr (frGr f2 K) hr⟩
end
end Go.Proofs.YtfhcnoancepgcaaGreatDoor.tre
