/- The program's tree: what is read of it. Conditions: those of its summaries. -/
import Derived.Test.YtfhcnoancepgcaaGreatDoorTCg
namespace Go.Proofs.YtfhcnoancepgcaaGreatDoor.tre
open Go Go.Abs Go.Proofs
set_option maxRecDepth 100000
set_option linter.unusedVariables false
set_option linter.unusedSimpArgs false

section
variable {S : Sums}
set_option maxHeartbeats 8000000 in
theorem readC (hS : St S) {K p nm sm chv ρ h T} (hT : Tr K p nm sm chv ρ h T) (s : Pth) :
    RnC Tryz.prog S 16 [.ptr p 0, .str s] h fun r h' => (∃ v, r = .tup [v, .int .i64 ((readT T (okP s) s).2.1 : Nat)] ∧ Bs h' v (readT T (okP s) s).1 ∧ ∀ id off n z c, v = .sl id off n z c → h.nx ≤ id) ∧ Tr K p nm sm chv ρ h' (readT T (okP s) s).2.2 ∧ Gr K h K h' := by
  refine RnC.enter' Tryz.f16 _ 28 [.tmp 4, .tmp 5] (hS.nt _ _ _ (by simp)) bd16 Tryz.func16 rfl rfl rfl ?_
  have hpl : p < h.nx := hT.lt (by rw [hT.kp]; decide)
  simp (maxSteps := 1000000) -dsimp (disch := (repeat first | rw [nxn] | rw [nxp]); try omega) only [go_sem, evLen]
  refine callK_of (opC hS (hT.fr (Fr.new h (.cells [.str s] true false))) (l := [s]) (avOne s (AH.get_new_eq rfl) (Nat.lt_succ_self _)) (by simp)) ?_
  have eall : [s].all okP = okP s := by simp
  rw [eall]
  rintro r h2 ⟨rfl, hT2, hn2, ho2⟩
  have hn2' : h.nx + 1 ≤ h2.nx := hn2
  have ho2' : ∀ j, j < h.nx → j ≠ p → h2.get j = h.get j := fun j hj hjp => (ho2 j (by simp; omega) hjp).trans (AH.get_new_ne (by omega))
  have gr2 : Gr K h K h2 := ⟨by omega, fun j hj hk => ⟨ho2' j hj (fun hh => by rw [hh, hT.kp] at hk; cases hk), hk⟩⟩
  unfold readT
  dsimp only
  by_cases c1 : (((opT T (okP s)).1 : Nat) : Int) = 0
  · have c1n : ¬ ((opT T (okP s)).1 ≠ 0) := by omega
    rw [if_neg c1n]
    have hp2 := hT2.pp
    have lk := lookN hT2.now s
    cases hvs : valS (opT T (okP s)).2.now s with
    | none =>
      rw [hvs] at lk
      simp (maxSteps := 1000000) -dsimp (disch := (repeat first | rw [nxn] | rw [nxp]); try omega) only [go_sem, evLen, c1, hp2, lk, nilP]
      exact ⟨⟨_, rfl, .inl ⟨rfl, rfl⟩, fun _ _ _ _ _ hh => by cases hh⟩, hT2, gr2⟩
    | some i =>
      rw [hvs] at lk
      have hi : i < (opT T (okP s)).2.files.length := (hT2.wf.now.2 s i hvs).1
      obtain ⟨bv, sv, q1, q2, q3, q4⟩ := hT2.fl i hi
      have fo := fil_ok hT2.wf i
      simp (maxSteps := 1000000) -dsimp (disch := (repeat first | rw [nxn] | rw [nxp]); try omega) only [go_sem, evLen, c1, hp2, lk, nilQ, q1]
      refine callK_of (cloneC hS q2.bs (by have := fo.2.2.1; omega)) ?_
      rintro r h3 ⟨hbn, hf3⟩
      have hb := hbn.bs
      have hid : ∀ id off n z c, r = .sl id off n z c → h.nx ≤ id := fun id off n z c hh => by
        rcases hbn with ⟨h1, _⟩ | ⟨id', c', cs, tx, h1, h2', h3', h4, h5⟩
        · rw [h1] at hh; cases hh
        · rw [h1] at hh; cases hh; omega
      exact ⟨⟨_, rfl, hb, hid⟩, hT2.fr hf3, gr2.trans (frGr hf3 K)⟩
  · have c1n : (opT T (okP s)).1 ≠ 0 := by omega
    rw [if_pos c1n]
    simp (maxSteps := 1000000) -dsimp (disch := (repeat first | rw [nxn] | rw [nxp]); try omega) only [go_sem, evLen, c1]
    exact ⟨⟨_, rfl, .inl ⟨rfl, rfl⟩, fun _ _ _ _ _ hh => by cases hh⟩, hT2, gr2⟩
set_option maxHeartbeats 8000000 in
theorem statC (hS : St S) {K p nm sm chv ρ h T} (hT : Tr K p nm sm chv ρ h T) (s : Pth) :
    RnC Tryz.prog S 34 [.ptr p 0, .str s] h fun r h' => r = .tup [.int .i64 ((statT T s).1 : Nat), .int .u64 ((statT T s).2.1 : Nat), .bool (statT T s).2.2] ∧ Fr h h' := by
  refine RnC.enter' Tryz.f34 _ 38 [.tmp 4, .tmp 5, .tmp 6] (hS.nt _ _ _ (by simp)) bd34 Tryz.func34 rfl rfl rfl ?_
  have hp := hT.pp
  simp (maxSteps := 1000000) -dsimp (disch := (repeat first | rw [nxn] | rw [nxp]); try omega) only [go_sem, evLen]
  refine callK_of (hT.made hS) ?_
  rintro r h2 ⟨rfl, rfl⟩
  have lk : ∀ n, _ := fun n => lookN (h := { tr := h2.tr, nx := n }) hT.now s
  have lk0 := lookN hT.now s
  unfold statT
  cases hvs : valS T.now s with
  | none =>
    rw [hvs] at lk0
    simp (maxSteps := 1000000) -dsimp (disch := (repeat first | rw [nxn] | rw [nxp]); try omega) only [go_sem, evLen, hp, lk0, nilP]
    exact ⟨trivial, Fr.refl _⟩
  | some i =>
    rw [hvs] at lk lk0
    have hi : i < T.files.length := (hT.wf.now.2 s i hvs).1
    obtain ⟨bv, sv, q1, q2, q3, q4⟩ := hT.fl i hi
    obtain ⟨lb, _, ob⟩ := bsLn q2.bs
    simp (maxSteps := 1000000) -dsimp (disch := (repeat first | rw [nxn] | rw [nxp]); try omega) only [go_sem, hp, lk0, nilQ]
    refine syDraw.go0 (by kernel_rfl) ?_
    simp (maxSteps := 1000000) -dsimp (disch := (repeat first | rw [nxn] | rw [nxp]); try omega) only [go_sem, hp, lk, nilQ, q1, lb, ob]
    exact ⟨trivial, (Fr.refl _).more _ (by omega)⟩
theorem bld60 (room : Int) (a b : Nat) : evBuild Tryz.prog 81 [(0, .bool true), (1, .int .i64 room), (2, .map a), (3, .map b), (7, .int .i64 (-1))] = some (.agg [.bool true, .int .i64 room, .map a, .map b, .nilsl, .int .u64 0, .bool false, .int .i64 (-1)]) := by kernel_rfl
theorem newC (hS : St S) {h : AH} (room : Int) : RnC Tryz.prog S 14 [.int .i64 room] h fun r h' => Fr h h' ∧ if 0 ≤ room ∧ room ≤ 67108864 then r = .tup [.ptr (h.nx + 2) 0, .int .i64 0] ∧ h'.nx = h.nx + 3 ∧ Tr (fun j => if j = h.nx + 2 then 1 else if j = h.nx then 2 else if j = h.nx + 1 then 3 else 0) (h.nx + 2) h.nx (h.nx + 1) .nilsl (fun _ => 0) h' (newT room) else r = .tup [.nilptr, .int .i64 2] := by
  refine RnC.enter' Tryz.f14 _ 15 [.tmp 2, .tmp 3] (hS.nt _ _ _ (by simp)) bd14 Tryz.func14 rfl rfl rfl ?_
  by_cases c1 : room < 0
  · simp (maxSteps := 1000000) -dsimp (disch := (repeat first | rw [nxn] | rw [nxp]); try omega) only [go_sem, evLen, c1]
    refine ⟨Fr.refl _, ?_⟩
    rw [if_neg (by omega)]
    trivial
  · by_cases c2 : 67108864 < room
    · simp (maxSteps := 1000000) -dsimp (disch := (repeat first | rw [nxn] | rw [nxp]); try omega) only [go_sem, evLen, c1, c2]
      refine ⟨Fr.refl _, ?_⟩
      rw [if_neg (by omega)]
      trivial
    · simp (maxSteps := 1000000) -dsimp (disch := (repeat first | rw [nxn] | rw [nxp]); try omega) only [go_sem, evLen, c1, c2, bld60]
      refine ⟨((Fr.new _ _).news _).news _, ?_⟩
      rw [if_pos (by omega)]
      refine ⟨trivial, trivial, ⟨AH.get_new_eq rfl, ⟨[], 0, ?_⟩, ⟨[], 0, ?_⟩, .inl ⟨rfl, rfl⟩, fun i hi => by simp [newT] at hi, fun i j hi => by simp [newT] at hi, if_pos rfl, ?_, ?_, fun j hj => ?_, Wf.new (by omega)⟩⟩
      · exact (AH.get_new_ne (by simp; omega)).trans ((AH.get_new_ne (by simp)).trans (AH.get_new_eq rfl))
      · exact (AH.get_new_ne (by simp)).trans (AH.get_new_eq rfl)
      · rw [if_neg (by omega), if_pos rfl]
      · rw [if_neg (by omega), if_neg (by omega), if_pos rfl]
      · have hj' : h.nx + 3 ≤ j := by simpa using hj
        rw [if_neg (by omega), if_neg (by omega), if_neg (by omega)]
end
end Go.Proofs.YtfhcnoancepgcaaGreatDoor.tre
