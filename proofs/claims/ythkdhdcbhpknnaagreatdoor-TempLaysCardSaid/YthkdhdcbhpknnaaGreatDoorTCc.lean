/- The program's tree: how an operation begins. Conditions: those of its summaries. -/
import Derived.Test.YthkdhdcbhpknnaaGreatDoorTCb
namespace Go.Proofs.YthkdhdcbhpknnaaGreatDoor.tre
open Go Go.Abs Go.Proofs
set_option maxRecDepth 100000
set_option linter.unusedVariables false
set_option linter.unusedSimpArgs false

/-- A slice of texts. -/
def Av (h : AH) (v : AV) (l : List Pth) : Prop := (v = .nilsl ∧ l = []) ∨ ∃ id c o t, v = .sl id 0 l.length 1 c ∧ h.get id = some (.cells (l.map .str) o t) ∧ id < h.nx
theorem Av.ln {h : AH} {v : AV} {l : List Pth} (hb : Av h v l) : ∀ g, evLen Tryz.prog g #[55] v = some (.int .i64 (l.length : Nat)) := by
 rcases hb with ⟨rfl, rfl⟩ | ⟨id, c, o, t, rfl, _⟩
 ·exact fun g => by simp [evLen, Tryz.underlying55]
 ·exact fun g => by simp [evLen, Tryz.underlying55]
theorem Av.sh {h : AH} {v : AV} {l : List Pth} (hb : Av h v l) : sameAV 20 v v = true ∧ oneA v = true := by
 rcases hb with ⟨rfl, rfl⟩ | ⟨id, c, o, t, rfl, _⟩
 ·exact ⟨rfl, rfl⟩
 ·exact ⟨by simp [sameAV], rfl⟩
section
variable {S : Sums}
set_option maxHeartbeats 8000000 in
theorem opC (hS : St S) {K p nm sm chv ρ h T} (hT : Tr K p nm sm chv ρ h T) {v : AV} {l : List Pth} (hl : Av h v l) (hn : l.length ≤ 1024) :
  RnC Tryz.prog S 60 [.ptr p 0, v] h fun r h' => r = .int .i64 ((opT T (l.all okP)).1 : Nat) ∧ Tr K p nm sm chv ρ h' (opT T (l.all okP)).2 ∧ h.nx ≤ h'.nx ∧ ∀ j, j < h.nx → j ≠ p → h'.get j = h.get j := by
 refine RnC.enter' Tryz.f60 _ 61 [.tmp 4] (hS.nt _ _ _ (by simp)) bd60 Tryz.func60 rfl rfl rfl ?_
 have hpl : p < h.nx := hT.lt (by rw [hT.kp]; decide)
 have ln := hl.ln
 simp (maxSteps := 1000000) -dsimp (disch := (repeat first | rw [nxn] | rw [nxp]); try omega) only [go_sem]
 refine callK_of (hT.made hS) ?_
 rintro r h2 ⟨rfl, rfl⟩
 simp (maxSteps := 1000000) -dsimp (disch := (repeat first | rw [nxn] | rw [nxp]); try omega) only [go_sem, ln]
 refine loopK_of (RnL.rounds (Q := fun ex u => u.d = [] ∧ Fr h2 u.h ∧ u.t.get 0 = some (.ptr p 0) ∧ (ex = .exit 0 ∧ l.all okP = true ∨ ex = .ret ∧ l.all okP = false ∧ u.t.get 4 = some (.int .i64 2)))
  (fun m u => u.d = [] ∧ Fr h2 u.h ∧ u.t.get 0 = some (.ptr p 0) ∧ u.t.get 12 = some v ∧ u.t.get 13 = some (.int .i64 (l.length : Nat)) ∧ ∃ i : Nat, u.t.get 14 = some (.int .i64 (i : Nat)) ∧ i ≤ l.length ∧ (l.take i).all okP = true ∧ m = l.length - i) ?_ l.length ?_) ?_
 ·rintro m ⟨t, h1, d⟩ ⟨e2, e1, g0, g12, g13, i, g14, hi, hall, rfl⟩
  dsimp only at e1 e2 g0 g12 g13 g14
  subst e2
  by_cases c4 : (i : Int) < (l.length : Nat)
  ·have hil : i < l.length := by omega
   obtain ⟨a, ha⟩ : ∃ a, l[i]? = some a := ⟨_, List.getElem?_eq_getElem hil⟩
   rcases hl with ⟨_, rfl⟩ | ⟨id, c, o, tx, rfl, hg, hid⟩
   ·simp at hil
   have hcs : (l.map AV.str)[i]? = some (.str a) := by simp [ha]
   have hg1 : h1.get id = some (.cells (l.map .str) o tx) := (e1.get id hid).trans hg
   have htk : l.take (i + 1) = l.take i ++ [a] := by rw [List.take_add_one, ha]; rfl
   have hno : okP a = false → l.all okP = false := fun hc => by
    rw [List.all_eq_false]
    exact ⟨a, List.mem_iff_getElem?.2 ⟨i, ha⟩, by simp [hc]⟩
   simp (maxSteps := 1000000) -dsimp (disch := (repeat first | rw [nxn] | rw [nxp]); try omega) only [go_sem, c4, hg1, hcs, hil, Nat.mul_one, g0, g12, g13, g14]
   refine callK_of (tempedC hS.toSp) ?_
   rintro r h3 ⟨⟨x, rfl⟩, hf3⟩
   simp (maxSteps := 1000000) -dsimp (disch := (repeat first | rw [nxn] | rw [nxp]); try omega) only [go_sem, c4, hg1, hcs, hil, Nat.mul_one, g0, g12, g13, g14]
   refine callK_of (checkC hS.toSp) ?_
   rintro r h4 ⟨rfl, hf4⟩
   have f4 := (e1.trans hf3).trans hf4
   by_cases c5 : ((checkS a : Nat) : Int) = 0
   ·have c5' : checkS a = 0 := by omega
    simp (maxSteps := 1000000) -dsimp (disch := (repeat first | rw [nxn] | rw [nxp]); try omega) only [go_sem, c4, c5, hg1, hcs, hil, Nat.mul_one, g0, g12, g13, g14]
    exact ⟨l.length - (i + 1), by omega, trivial, f4, trivial, trivial, trivial, i + 1, rfl, by omega, by rw [htk, List.all_append, hall]; simp [okP, c5'], rfl⟩
   ·have c5' : ¬ checkS a = 0 := by omega
    cases ht : tempedS a
    ·simp (maxSteps := 1000000) -dsimp (disch := (repeat first | rw [nxn] | rw [nxp]); try omega) only [go_sem, c4, c5, ht, hg1, hcs, hil, Nat.mul_one, g0, g12, g13, g14]
     exact ⟨trivial, f4, trivial, .inr ⟨trivial, hno (by simp [okP, c5', ht]), trivial⟩⟩
    ·simp (maxSteps := 1000000) -dsimp (disch := (repeat first | rw [nxn] | rw [nxp]); try omega) only [go_sem, c4, c5, ht, hg1, hcs, hil, Nat.mul_one, g0, g12, g13, g14]
     exact ⟨l.length - (i + 1), by omega, trivial, f4, trivial, trivial, trivial, i + 1, rfl, by omega, by rw [htk, List.all_append, hall]; simp [okP, ht], rfl⟩
  ·have : i = l.length := by omega
   subst this
   rw [List.take_length] at hall
   simp (maxSteps := 1000000) -dsimp (disch := (repeat first | rw [nxn] | rw [nxp]); try omega) only [go_sem, c4, g0, g12, g13, g14]
   exact ⟨trivial, e1, trivial, .inl ⟨trivial, hall⟩⟩
 ·simp (maxSteps := 1000000) -dsimp (disch := (repeat first | rw [nxn] | rw [nxp]); try omega) only [go_sem, ln]
  exact ⟨trivial, Fr.refl _, trivial, trivial, trivial, 0, rfl, Nat.zero_le _, by simp, rfl⟩
 ·rintro ex ⟨t, h1, d⟩ ⟨e2, e1, g0, ⟨rfl, hh⟩ | ⟨rfl, hh, g4⟩⟩
  ·dsimp only at e1 e2 g0
   subst e2
   have hT1 := hT.fr e1
   have hp1 := hT1.pp
   rw [hh]
   have w := hT.wf
   have e2 : h2.nx ≤ h1.nx := e1.nx
   unfold opT
   have hfu := hT.wf.fuse
   cases ho : T.off
   ·rw [ho] at hp1
    by_cases c1 : T.fuse = 0
    ·simp (maxSteps := 1000000) -dsimp (disch := (repeat first | rw [nxn] | rw [nxp]); try omega) only [go_sem, hp1, g0, c1]
     exact ⟨trivial, hT1.setp (fun j _ hj => (AH.get_put_ne hj).trans (AH.get_put_ne hj)) (Nat.le_refl _) ⟨w.1, w.2, w.3, ⟨Int.le_refl _, by show (-1 : Int) ≤ _; decide⟩, w.5, w.6⟩ rfl rfl rfl rfl (AH.get_put_eq rfl), e2, fun j hj hjp => ((AH.get_put_ne hjp).trans (AH.get_put_ne hjp)).trans (e1.get j hj)⟩
    ·by_cases c2 : 0 < T.fuse
     ·simp (maxSteps := 1000000) -dsimp (disch := (repeat first | rw [nxn] | rw [nxp]); try omega) only [go_sem, hp1, g0, c1, c2]
      exact ⟨trivial, hT1.setp (fun j _ hj => AH.get_put_ne hj) (Nat.le_refl _) ⟨w.1, w.2, w.3, ⟨by show (-1 : Int) ≤ T.fuse - 1; omega, by show T.fuse - 1 ≤ _; omega⟩, w.5, w.6⟩ rfl rfl rfl rfl (AH.get_put_eq rfl), e2, fun j hj hjp => (AH.get_put_ne hjp).trans (e1.get j hj)⟩
     ·simp (maxSteps := 1000000) -dsimp (disch := (repeat first | rw [nxn] | rw [nxp]); try omega) only [go_sem, hp1, g0, c1, c2]
      exact ⟨trivial, hT1, e2, fun j hj hjp => e1.get j hj⟩
   ·rw [ho] at hp1
    simp (maxSteps := 1000000) -dsimp (disch := (repeat first | rw [nxn] | rw [nxp]); try omega) only [go_sem, hp1, g0]
    exact ⟨trivial, hT1, e2, fun j hj hjp => e1.get j hj⟩
  ·dsimp only at e1 e2 g4
   subst e2
   simp (maxSteps := 1000000) -dsimp (disch := (repeat first | rw [nxn] | rw [nxp]); try omega) only [go_sem, g4]
   rw [hh]
   exact ⟨rfl, hT.fr e1, e1.nx, fun j hj hjp => e1.get j hj⟩
end
end Go.Proofs.YthkdhdcbhpknnaaGreatDoor.tre
