/- The program's tree: what is read of it. Conditions: those of its summaries. -/
import Derived.Test.YthkdhdcbhpknnaaGreatDoorTCg
namespace Go.Proofs.YthkdhdcbhpknnaaGreatDoor.tre
open Go Go.Abs Go.Proofs
set_option maxRecDepth 100000
set_option linter.unusedVariables false
set_option linter.unusedSimpArgs false

section
variable {S : Sums}
set_option maxHeartbeats 8000000 in
theorem statC (hS : St S) {K p nm sm chv ρ h T} (hT : Tr K p nm sm chv ρ h T) (s : Pth) :
  RnC Tryz.prog S 53 [.ptr p 0, .str s] h fun r h' => r = .tup [.int .i64 ((statT T s).1 : Nat), .int .u64 ((statT T s).2.1 : Nat), .bool (statT T s).2.2] ∧ Fr h h' := by
 refine RnC.enter' Tryz.f53 _ 38 [.tmp 4, .tmp 5, .tmp 6] (hS.nt _ _ _ (by simp)) bd53 Tryz.func53 rfl rfl rfl ?_
 have hp := hT.pp
 simp (maxSteps := 1000000) -dsimp (disch := (repeat first | rw [nxn] | rw [nxp]); try omega) only [go_sem, evLen]
 refine callK_of (hT.made hS) ?_
 rintro r h2 ⟨rfl, rfl⟩
 have lk : ∀ n, _ := fun n => lookN (h := { tr := h2.tr, nx := n }) hT.now s
 have lk0 := lookN hT.now s
 unfold statT
 cases hvs : valS T.now s with
 | none =>
  rw [hvs] at lk0
  simp (maxSteps := 1000000) -dsimp (disch := (repeat first | rw [nxn] | rw [nxp]); try omega) only [go_sem, evLen, hp, lk0, nilP]
  exact ⟨trivial, Fr.refl _⟩
 | some i =>
  rw [hvs] at lk lk0
  have hi : i < T.files.length := (hT.wf.now.2 s i hvs).1
  obtain ⟨bv, sv, q1, q2, q3, q4⟩ := hT.fl i hi
  obtain ⟨lb, _, ob⟩ := bsLn q2.bs
  simp (maxSteps := 1000000) -dsimp (disch := (repeat first | rw [nxn] | rw [nxp]); try omega) only [go_sem, hp, lk0, nilQ]
  refine syDraw.go0 (by kernel_rfl) ?_
  simp (maxSteps := 1000000) -dsimp (disch := (repeat first | rw [nxn] | rw [nxp]); try omega) only [go_sem, hp, lk, nilQ, q1, lb, ob]
  exact ⟨trivial, (Fr.refl _).more _ (by omega)⟩
theorem fuseC (hS : St S) {K p nm sm chv ρ h T} (hT : Tr K p nm sm chv ρ h T) (n : Int) (hn : n ≤ 9223372036854775807) :
  RnC Tryz.prog S 28 [.ptr p 0, .int .i64 n] h fun r h' => r = .int .i64 0 ∧ Tr K p nm sm chv ρ h' { T with fuse := max (-1) n } ∧ Gr K h K h' := by
 refine RnC.enter' Tryz.f28 _ 13 [.tmp 4] (hS.nt _ _ _ (by simp)) bd28 Tryz.func28 rfl rfl rfl ?_
 have hp := hT.pp
 simp (maxSteps := 1000000) -dsimp (disch := (repeat first | rw [nxn] | rw [nxp]); try omega) only [go_sem, evLen]
 refine callK_of (hT.made hS) ?_
 rintro r h2 ⟨rfl, rfl⟩
 simp (maxSteps := 1000000) -dsimp (disch := (repeat first | rw [nxn] | rw [nxp]); try omega) only [go_sem, evLen, hp]
 have w := hT.wf
 exact ⟨trivial, hT.setp (fun j _ hj => AH.get_put_ne hj) (Nat.le_refl _) ⟨w.1, w.2, w.3, ⟨by show (-1 : Int) ≤ max (-1) n; omega, by show max (-1) n ≤ _; omega⟩, w.5, w.6⟩ rfl rfl rfl rfl (AH.get_put_eq rfl), Nat.le_refl _, fun j hj hk => ⟨AH.get_put_ne (fun hh => by rw [hh, hT.kp] at hk; cases hk), hk⟩⟩
theorem bld60 (room : Int) (a b : Nat) : evBuild Tryz.prog 100 [(0, .bool true), (1, .int .i64 room), (2, .map a), (3, .map b), (7, .int .i64 (-1))] = some (.agg [.bool true, .int .i64 room, .map a, .map b, .nilsl, .int .u64 0, .bool false, .int .i64 (-1)]) := by kernel_rfl
theorem newC (hS : St S) {h : AH} (room : Int) : RnC Tryz.prog S 15 [.int .i64 room] h fun r h' => Fr h h' ∧ if 0 ≤ room ∧ room ≤ 67108864 then r = .tup [.ptr (h.nx + 2) 0, .int .i64 0] ∧ h'.nx = h.nx + 3 ∧ Tr (fun j => if j = h.nx + 2 then 1 else if j = h.nx then 2 else if j = h.nx + 1 then 3 else 0) (h.nx + 2) h.nx (h.nx + 1) .nilsl (fun _ => 0) h' (newT room) else r = .tup [.nilptr, .int .i64 2] := by
 refine RnC.enter' Tryz.f15 _ 15 [.tmp 2, .tmp 3] (hS.nt _ _ _ (by simp)) bd15 Tryz.func15 rfl rfl rfl ?_
 by_cases c1 : room < 0
 ·simp (maxSteps := 1000000) -dsimp (disch := (repeat first | rw [nxn] | rw [nxp]); try omega) only [go_sem, evLen, c1]
  refine ⟨Fr.refl _, ?_⟩
  rw [if_neg (by omega)]
  trivial
 ·by_cases c2 : 67108864 < room
  ·simp (maxSteps := 1000000) -dsimp (disch := (repeat first | rw [nxn] | rw [nxp]); try omega) only [go_sem, evLen, c1, c2]
   refine ⟨Fr.refl _, ?_⟩
   rw [if_neg (by omega)]
   trivial
  ·simp (maxSteps := 1000000) -dsimp (disch := (repeat first | rw [nxn] | rw [nxp]); try omega) only [go_sem, evLen, c1, c2, bld60]
   refine ⟨((Fr.new _ _).news _).news _, ?_⟩
   rw [if_pos (by omega)]
   refine ⟨trivial, trivial, ⟨AH.get_new_eq rfl, ⟨[], 0, ?_⟩, ⟨[], 0, ?_⟩, .inl ⟨rfl, rfl⟩, fun i hi => by simp [newT] at hi, fun i j hi => by simp [newT] at hi, if_pos rfl, ?_, ?_, fun j hj => ?_, Wf.new (by omega)⟩⟩
   ·exact (AH.get_new_ne (by simp; omega)).trans ((AH.get_new_ne (by simp)).trans (AH.get_new_eq rfl))
   ·exact (AH.get_new_ne (by simp)).trans (AH.get_new_eq rfl)
   ·rw [if_neg (by omega), if_pos rfl]
   ·rw [if_neg (by omega), if_neg (by omega), if_pos rfl]
   ·have hj' : h.nx + 3 ≤ j := by simpa using hj
    rw [if_neg (by omega), if_neg (by omega), if_neg (by omega)]
end
end Go.Proofs.YthkdhdcbhpknnaaGreatDoor.tre
