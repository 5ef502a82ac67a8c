/- The program's tree: all paths; all temporary files, cleaned. Conditions: those of its summaries. -/
import Derived.Test.YthkdhdcbhpknnaaGreatDoorTWa
import Derived.Test.YthkdhdcbhpknnaaGreatDoorAb7
namespace Go.Proofs.YthkdhdcbhpknnaaGreatDoor.tre
open Go Go.Abs Go.Abs.Wal Go.Proofs
set_option maxRecDepth 100000
set_option linter.unusedVariables false
set_option linter.unusedSimpArgs false

theorem ssLn {n0 : Nat} {h : AH} {v : AV} {l : List Pth} (hb : Ss n0 h v l) : (∀ g, evLen Tryz.prog g #[55] v = some (.int .i64 (l.length : Nat))) ∧ sameAV 20 v v = true ∧ oneA v = true := by
 rcases hb with ⟨rfl, rfl⟩ | ⟨id, rfl, _⟩
 ·exact ⟨fun g => by simp [evLen, Tryz.underlying55], rfl, rfl⟩
 ·exact ⟨fun g => by simp [evLen, Tryz.underlying55], by simp [sameAV], rfl⟩
theorem neSt2 (h : AH) (a : List Nat) : binA Tryz.prog h .neq 9 (.str a) (.str a) = some (.bool false) := by
 have : eqL a a = true := by rw [eqL_eq]; simp
 simp [binA, strA, this]
section
variable {S : Sums}
structure Pw (S : Sums) : Prop extends Tw S where
 np : ∀ f args h, f ∈ [35, 64, 89, 90, 105] → S f args h = none
theorem hasC (hS : Pw S) {h : AH} {s : Pth} : RnC Tryz.prog S 90 [.str s, .str []] h fun r h' => r = .bool true ∧ h' = h := by
 refine RnC.enter' Tryz.f90 _ 8 [.tmp 4] (hS.np _ _ _ (by simp)) bd90 Tryz.func90 rfl rfl rfl ?_
 simp (maxSteps := 1000000) -dsimp (disch := (repeat first | rw [nxn] | rw [nxp]); try omega) only [go_sem, evLen]
 refine callK_of (preC hS.toSp) ?_
 rintro r h2 ⟨rfl, rfl⟩
 simp (maxSteps := 1000000) -dsimp (disch := (repeat first | rw [nxn] | rw [nxp]); try omega) only [go_sem, evLen]
 exact ⟨by simp [preS], trivial⟩
theorem keepC1 (hS : Pw S) {h : AH} {s : Pth} {c : Nat} (hc : h.get c = some (.cells [.str []] true false)) : RnC Tryz.prog S 89 [.str s, .ptr c 0] h fun r h' => r = .bool false ∧ h' = h := by
 refine RnC.enter' Tryz.f89 _ 8 [.tmp 3] (hS.np _ _ _ (by simp)) bd89 Tryz.func89 rfl rfl rfl ?_
 simp (maxSteps := 1000000) -dsimp (disch := (repeat first | rw [nxn] | rw [nxp]); try omega) only [go_sem, evLen, hc]
 refine callK_of (hasC hS) ?_
 rintro r h2 ⟨rfl, rfl⟩
 simp (maxSteps := 1000000) -dsimp (disch := (repeat first | rw [nxn] | rw [nxp]); try omega) only [go_sem, evLen]
 exact ⟨trivial, trivial⟩
set_option maxHeartbeats 8000000 in
theorem idxFC (hS : Pw S) {n0 : Nat} {h : AH} {v : AV} {l : List Pth} {c : Nat} (hv : Ss n0 h v l) (hl : l.length ≤ 16384) (hc : h.get c = some (.cells [.str []] true false)) : RnC Tryz.prog S 105 [v, .func (.func 89) [] [.ptr c 0]] h fun r h' => r = .int .i64 (-1) ∧ h' = h := by
 refine RnC.enter' Tryz.f105 _ 19 [.tmp 4] (hS.np _ _ _ (by simp)) bd105 Tryz.func105 rfl rfl rfl ?_
 obtain ⟨ln, sl, ol⟩ := ssLn hv
 simp (maxSteps := 1000000) -dsimp (disch := (repeat first | rw [nxn] | rw [nxp]); try omega) only [go_sem, ln, ol]
 refine loopK_of (RnL.rounds (Q := fun ex u => ex = .exit 0 ∧ u.d = [] ∧ u.h = h)
  (fun m u => u.d = [] ∧ u.h = h ∧ u.t.get 0 = some v ∧ u.t.get 1 = some (.func (.func 89) [] [.ptr c 0]) ∧ u.t.get 7 = some (.int .i64 (l.length : Nat)) ∧ ∃ i : Nat, u.t.get 8 = some (.int .i64 (i : Nat)) ∧ i ≤ l.length ∧ m = l.length - i) ?_ l.length ?_) ?_
 ·rintro m ⟨t, g, d⟩ ⟨e2, e1, g0, g1, g7, i, g8, hi, rfl⟩
  dsimp only at e1 e2 g0 g1 g7 g8
  subst e1 e2
  by_cases c4 : (i : Int) < (l.length : Nat)
  ·have hil : i < l.length := by omega
   obtain ⟨a, ha⟩ : ∃ a, l[i]? = some a := ⟨_, List.getElem?_eq_getElem hil⟩
   rcases hv with ⟨_, rfl⟩ | ⟨id, rfl, hg, hid, _⟩
   ·simp at hil
   have hcs : (l.map AV.str)[i]? = some (.str a) := by simp [ha]
   simp (maxSteps := 1000000) -dsimp (disch := (repeat first | rw [nxn] | rw [nxp]); try omega) only [go_sem, c4, hil, hg, hcs, bd89, Nat.mul_one, g0, g1, g7, g8]
   refine callK_of (keepC1 hS hc) ?_
   rintro r h2 ⟨rfl, rfl⟩
   simp (maxSteps := 1000000) -dsimp (disch := (repeat first | rw [nxn] | rw [nxp]); try omega) only [go_sem, c4, hil, hg, hcs, bd89, Nat.mul_one, g0, g1, g7, g8]
   exact ⟨l.length - (i + 1), by omega, trivial, trivial, trivial, trivial, trivial, i + 1, rfl, by omega, rfl⟩
  ·simp (maxSteps := 1000000) -dsimp (disch := (repeat first | rw [nxn] | rw [nxp]); try omega) only [go_sem, c4, g0, g1, g7, g8]
   exact ⟨trivial, trivial, trivial⟩
 ·simp (maxSteps := 1000000) -dsimp (disch := (repeat first | rw [nxn] | rw [nxp]); try omega) only [go_sem]
  exact ⟨trivial, trivial, trivial, trivial, trivial, 0, rfl, Nat.zero_le _, rfl⟩
 ·rintro ex ⟨t, g, d⟩ ⟨rfl, rfl, e1⟩
  dsimp only at e1
  subst e1
  simp (maxSteps := 1000000) -dsimp (disch := (repeat first | rw [nxn] | rw [nxp]); try omega) only [go_sem]
  exact ⟨trivial, trivial⟩
theorem delC (hS : Pw S) {n0 : Nat} {h : AH} {v : AV} {l : List Pth} {c : Nat} (hv : Ss n0 h v l) (hl : l.length ≤ 16384) (hc : h.get c = some (.cells [.str []] true false)) : RnC Tryz.prog S 64 [v, .func (.func 89) [] [.ptr c 0]] h fun r h' => r = v ∧ h' = h := by
 refine RnC.enter' Tryz.f64 _ 42 [.tmp 4] (hS.np _ _ _ (by simp)) bd64 Tryz.func64 rfl rfl rfl ?_
 obtain ⟨ln, sl, ol⟩ := ssLn hv
 simp (maxSteps := 1000000) -dsimp (disch := (repeat first | rw [nxn] | rw [nxp]); try omega) only [go_sem, ln, ol]
 refine callK_of (idxFC hS hv hl hc) ?_
 rintro r h2 ⟨rfl, rfl⟩
 simp (maxSteps := 1000000) -dsimp (disch := (repeat first | rw [nxn] | rw [nxp]); try omega) only [go_sem, ol]
 exact ⟨trivial, trivial⟩
theorem pathsC (hS : Pw S) {K p nm sm chv ρ h T} (hT : Tr K p nm sm chv ρ h T) (hm : T.now.length ≤ 16384) : RnC Tryz.prog S 35 [.ptr p 0, .str []] h fun r h' => Ss h.nx h' r (sortS (T.now.map (·.1))) ∧ Fr h h' := by
 refine RnC.enter' Tryz.f35 _ 16 [.tmp 4] (hS.np _ _ _ (by simp)) bd35 Tryz.func35 rfl rfl rfl ?_
 have hT2 := hT.fr (Fr.new h (.cells [.str []] true false))
 have hp2 := hT2.pp
 simp (maxSteps := 1000000) -dsimp (disch := (repeat first | rw [nxn] | rw [nxp]); try omega) only [go_sem]
 refine callK_of (hT2.made hS.toSt) ?_
 rintro r h2 ⟨rfl, h2e⟩
 rw [← h2e] at hT2 hp2
 have hc2 : h2.get h.nx = some (.cells [.str []] true false) := by rw [h2e]; exact AH.get_new_eq rfl
 have n2 : h2.nx = h.nx + 1 := by rw [h2e]; rfl
 have f2 : Fr h h2 := by rw [h2e]; exact Fr.new _ _
 try simp (maxSteps := 1000000) -dsimp (disch := (repeat first | rw [nxn] | rw [nxp]); try omega) only [go_sem, hp2]
 refine callK_of (keysC hS.toSt) ?_
 rintro r h3 ⟨rfl, h3e⟩
 have f3 : Fr h2 h3 := by rw [h3e]; exact Fr.new _ _
 have hT3 := hT2.fr f3
 refine callK_of (sortedC hS.toSt (b := h2.nx) (by rw [h3e]; exact AH.get_new_eq rfl) hT3.now hT3.wf.now hm) ?_
 rintro r h4 ⟨hss, f4⟩
 obtain ⟨ln, sl, ol⟩ := ssLn hss
 have hc4 : h4.get h.nx = some (.cells [.str []] true false) := ((f3.trans f4).get _ (by omega)).trans hc2
 try simp (maxSteps := 1000000) -dsimp (disch := (repeat first | rw [nxn] | rw [nxp]); try omega) only [go_sem, ol]
 refine callK_of (delC hS hss (by rw [sortS_len, List.length_map]; exact hm) hc4) ?_
 rintro r h5 ⟨rfl, rfl⟩
 try simp (maxSteps := 1000000) -dsimp (disch := (repeat first | rw [nxn] | rw [nxp]); try omega) only [go_sem, ol]
 exact ⟨hss.low (by have := f3.nx; omega), (f2.trans f3).trans f4⟩
theorem txGr {K K' : Nat → Nat} {h h' : AH} {v : AV} {l : List (List Nat)} (hb : Tx K h v l) (g : Gr K h K' h') : Tx K' h' v l := by
 obtain ⟨hb, hk⟩ := hb
 rcases hb with h1 | ⟨id, off, c, cs, o, t, h1, h2, h3, h4⟩
 ·exact ⟨.inl h1, fun id off n z c hh => by rw [h1.1] at hh; cases hh⟩
 ·have hk0 := hk _ _ _ _ _ h1
  refine ⟨.inr ⟨id, off, c, cs, o, t, h1, (g.get id h3 hk0).1.trans h2, Nat.lt_of_lt_of_le h3 g.nx, h4⟩, fun id' off' n z c' hh => ?_⟩
  rw [h1] at hh
  cases hh
  exact (g.get _ h3 hk0).2
theorem all1C (hS : Pw S) {h : AH} {s : Pth} : RnC Tryz.prog S 65 [.str s] h fun r h' => r = .bool (!tempedS s) ∧ Fr h h' := by
 refine RnC.enter' Tryz.f65 _ 12 [.tmp 2] (hS.nx _ _ _ (by simp)) bd65 Tryz.func65 rfl rfl rfl ?_
 simp (maxSteps := 1000000) -dsimp (disch := (repeat first | rw [nxn] | rw [nxp]); try omega) only [go_sem, evLen]
 refine callK_of (tempedC hS.toSp) ?_
 rintro r h2 ⟨⟨x, rfl⟩, f2⟩
 simp (maxSteps := 1000000) -dsimp (disch := (repeat first | rw [nxn] | rw [nxp]); try omega) only [go_sem, evLen]
 exact ⟨trivial, f2⟩
set_option maxHeartbeats 8000000 in
theorem idxF2 (hS : Pw S) {n0 : Nat} {h : AH} {v : AV} {l : List Pth} (hv : Ss n0 h v l) (hl : l.length ≤ 16384) (ht : ∀ s ∈ l, tempedS s = true) : RnC Tryz.prog S 105 [v, .func (.func 65) [] []] h fun r h' => r = .int .i64 (-1) ∧ Fr h h' := by
 refine RnC.enter' Tryz.f105 _ 19 [.tmp 4] (hS.np _ _ _ (by simp)) bd105 Tryz.func105 rfl rfl rfl ?_
 obtain ⟨ln, sl, ol⟩ := ssLn hv
 simp (maxSteps := 1000000) -dsimp (disch := (repeat first | rw [nxn] | rw [nxp]); try omega) only [go_sem, ln, ol]
 refine loopK_of (RnL.rounds (Q := fun ex u => ex = .exit 0 ∧ u.d = [] ∧ Fr h u.h)
  (fun m u => u.d = [] ∧ Fr h u.h ∧ u.t.get 0 = some v ∧ u.t.get 1 = some (.func (.func 65) [] []) ∧ u.t.get 7 = some (.int .i64 (l.length : Nat)) ∧ ∃ i : Nat, u.t.get 8 = some (.int .i64 (i : Nat)) ∧ i ≤ l.length ∧ m = l.length - i) ?_ l.length ?_) ?_
 ·rintro m ⟨t, g, d⟩ ⟨e2, e1, g0, g1, g7, i, g8, hi, rfl⟩
  dsimp only at e1 e2 g0 g1 g7 g8
  subst e2
  by_cases c4 : (i : Int) < (l.length : Nat)
  ·have hil : i < l.length := by omega
   obtain ⟨a, ha⟩ : ∃ a, l[i]? = some a := ⟨_, List.getElem?_eq_getElem hil⟩
   have hta := ht a (List.mem_iff_getElem?.2 ⟨i, ha⟩)
   rcases hv with ⟨_, rfl⟩ | ⟨id, rfl, hg, hid, _⟩
   ·simp at hil
   have hcs : (l.map AV.str)[i]? = some (.str a) := by simp [ha]
   have hg1 : g.get id = some (.cells (l.map .str) true false) := (e1.get id hid).trans hg
   simp (maxSteps := 1000000) -dsimp (disch := (repeat first | rw [nxn] | rw [nxp]); try omega) only [go_sem, c4, hil, hg1, hcs, bd65, Nat.mul_one, g0, g1, g7, g8]
   refine callK_of (all1C hS) ?_
   rintro r h2 ⟨rfl, f2⟩
   rw [hta]
   simp (maxSteps := 1000000) -dsimp (disch := (repeat first | rw [nxn] | rw [nxp]); try omega) only [go_sem, c4, hil, hcs, Nat.mul_one, g0, g1, g7, g8]
   exact ⟨l.length - (i + 1), by omega, trivial, e1.trans f2, trivial, trivial, trivial, i + 1, rfl, by omega, rfl⟩
  ·simp (maxSteps := 1000000) -dsimp (disch := (repeat first | rw [nxn] | rw [nxp]); try omega) only [go_sem, c4, g0, g1, g7, g8]
   exact ⟨trivial, trivial, e1⟩
 ·simp (maxSteps := 1000000) -dsimp (disch := (repeat first | rw [nxn] | rw [nxp]); try omega) only [go_sem]
  exact ⟨trivial, Fr.refl _, trivial, trivial, trivial, 0, rfl, Nat.zero_le _, rfl⟩
 ·rintro ex ⟨t, g, d⟩ ⟨rfl, rfl, e1⟩
  dsimp only at e1
  simp (maxSteps := 1000000) -dsimp (disch := (repeat first | rw [nxn] | rw [nxp]); try omega) only [go_sem]
  exact ⟨trivial, e1⟩
/-- All taken away. -/
def rmL (l : List Pth) (T : TT) : Nat × TT := stepsT (l.map fun q T => rmT T true q) T
def cleanT (T : TT) : (Nat × Nat) × TT :=
 if (rmL (sortS (T.now.map (·.1))) T).1 ≠ 0 then ((0, (rmL (sortS (T.now.map (·.1))) T).1), (rmL (sortS (T.now.map (·.1))) T).2) else
 if T.now.length = 0 then ((0, 0), (rmL (sortS (T.now.map (·.1))) T).2) else
 if (syncPT (rmL (sortS (T.now.map (·.1))) T).2).1 ≠ 0 then ((0, (syncPT (rmL (sortS (T.now.map (·.1))) T).2).1), (syncPT (rmL (sortS (T.now.map (·.1))) T).2).2) else
 ((T.now.length, 0), (syncPT (rmL (sortS (T.now.map (·.1))) T).2).2)
end
end Go.Proofs.YthkdhdcbhpknnaaGreatDoor.tre
