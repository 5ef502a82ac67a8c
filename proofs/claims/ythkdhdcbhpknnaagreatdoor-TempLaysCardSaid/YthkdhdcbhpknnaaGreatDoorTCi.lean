/- The program's tree: what a crash leaves of a file; maps cloned, keys in order. Conditions: those of its summaries. -/
import Derived.Test.YthkdhdcbhpknnaaGreatDoorTCh
namespace Go.Proofs.YthkdhdcbhpknnaaGreatDoor.tre
open Go Go.Abs Go.Proofs
set_option maxRecDepth 100000
set_option linter.unusedVariables false
set_option linter.unusedSimpArgs false

theorem tmodN {a : Int} {n : Nat} (ha : 0 ≤ a) (hn : 0 < n) : a.tmod (n : Int) = ((a.toNat % n : Nat) : Int) := by
 obtain ⟨m, rfl⟩ := Int.eq_ofNat_of_zero_le ha
 rw [Int.tmod_eq_emod_of_nonneg (by omega)]
 simp
theorem nilM (h : AH) (a : Nat) : binA Tryz.prog h .eql 96 (.map a) .nilmap = some (.bool false) := by kernel_rfl
section
variable {S : Sums}
set_option maxHeartbeats 8000000 in
theorem leftFC (hS : St S) {K : Nat → Nat} {h : AH} {id : Nat} {f : Fil} (hf : FilA K h id f) (hid : id < h.nx) (fo : FilOK f) (part : Int) : RnC Tryz.prog S 73 [.ptr id 0, .int .i64 part] h fun r h' => Bs h' r (leftF f part) ∧ Fr h h' := by
 refine RnC.enter' Tryz.f73 _ 47 [.tmp 4] (hS.nt _ _ _ (by simp)) bd73 Tryz.func73 rfl rfl rfl ?_
 obtain ⟨bv, sv, q1, q2, q3, q4⟩ := hf
 obtain ⟨lb, sb, ob⟩ := bsLn q2.bs
 obtain ⟨ls, ss, os⟩ := bsLn q3.bs
 have f1 : Fr h { tr := h.tr, nx := h.nx + 10 } := (Fr.refl h).more _ (by omega)
 simp (maxSteps := 1000000) -dsimp (disch := (repeat first | rw [nxn] | rw [nxp]); try omega) only [go_sem]
 refine syDraw.keep (fun j => j < h.nx) (by kernel_rfl) (by kernel_rfl) ?_
 simp (maxSteps := 1000000) -dsimp (disch := (repeat first | rw [nxn] | rw [nxp]); try omega) only [go_sem, q1, hid, lb, ls, ob, os, sb, ss, true_and, implies_true, sv_int, sv_bool]
 refine callK_of (bprefC hS (q2.bs.fr f1) (q3.bs.fr f1) fo.1 fo.2.1) ?_
 rintro r h2 ⟨rfl, rfl⟩
 refine ⟨fun id _ => rfl, ?_⟩
 have lbl := fo.2.2.1
 have lsl := fo.2.2.2
 unfold leftF
 by_cases c : f.b.take f.s.length = f.s
 ·have cd : decide (f.b.take f.s.length = f.s) = true := by simpa using c
  have hle : f.s.length ≤ f.b.length := by
   have := congrArg List.length c
   rw [List.length_take] at this
   omega
  rw [if_pos c]
  have e0 : (max 0 part) = (((max 0 part).toNat : Nat) : Int) := by omega
  have em : (max 0 part).tmod ((((f.b.length : Nat) : Int) - ((f.s.length : Nat) : Int)) + 1) = (((max 0 part).toNat % (f.b.length - f.s.length + 1) : Nat) : Int) := by
   rw [show (((f.b.length : Nat) : Int) - ((f.s.length : Nat) : Int)) + 1 = ((f.b.length - f.s.length + 1 : Nat) : Int) by omega]
   exact tmodN (by omega) (by omega)
  have hlt : (max 0 part).toNat % (f.b.length - f.s.length + 1) < f.b.length - f.s.length + 1 := Nat.mod_lt _ (by omega)
  generalize hx : (max 0 part).toNat % (f.b.length - f.s.length + 1) = x at em hlt
  have cz : ¬ (((f.b.length : Nat) : Int) - ((f.s.length : Nat) : Int)) + 1 = 0 := by omega
  obtain ⟨w, t1, hw, _, ow⟩ := q2.bs.slice_to (hi := f.s.length + x) Tryz.underlying22 tz5 (by omega)
  have et : ((f.s.length : Nat) : Int) + ((x : Nat) : Int) = ((f.s.length + x : Nat) : Int) := by omega
  simp (maxSteps := 1000000) -dsimp (disch := (repeat first | rw [nxn] | rw [nxp]); try omega) only [go_sem, cd, q1, hid, lb, ls, ob, os, sb, ss, true_and, implies_true, sv_int, sv_bool]
  refine syDraw.go0 (by kernel_rfl) ?_
  simp (maxSteps := 1000000) -dsimp (disch := (repeat first | rw [nxn] | rw [nxp]); try omega) only [go_sem, cd, q1, hid, lb, ls, ob, os, sb, ss, true_and, implies_true, sv_int, sv_bool]
  refine syDraw.go0 (by kernel_rfl) ?_
  simp (maxSteps := 1000000) -dsimp (disch := (repeat first | rw [nxn] | rw [nxp]); try omega) only [go_sem, cd, q1, hid, lb, ls, ob, os, sb, ss, em, cz, et, t1, ow, true_and, implies_true, sv_int, sv_bool]
  have f9 : Fr h { tr := h.tr, nx := h.nx + 10 + 12 + 17 } := (Fr.refl h).more _ (by omega)
  exact ⟨hw.fr f9, f9⟩
 ·have cd : decide (f.b.take f.s.length = f.s) = false := by simpa using c
  rw [if_neg c]
  simp (maxSteps := 1000000) -dsimp (disch := (repeat first | rw [nxn] | rw [nxp]); try omega) only [go_sem, cd, q1, hid, lb, ls, ob, os, sb, ss, true_and, implies_true, sv_int, sv_bool]
  exact ⟨q3.bs.fr f1, f1⟩
theorem cloneMC (hS : St S) {h : AH} {m : Nat} {es : List (AV × AV)} {bs : List Nat} {ck : Nat} (hm : h.get m = some (.map es bs ck)) : RnC Tryz.prog S 68 [.map m] h fun r h' => r = .map h.nx ∧ h' = h.new (.map es bs ck) := by
 refine RnC.enter' Tryz.f68 _ 9 [.tmp 2] (hS.nt _ _ _ (by simp)) bd68 Tryz.func68 rfl rfl rfl ?_
 simp (maxSteps := 1000000) -dsimp (disch := (repeat first | rw [nxn] | rw [nxp]); try omega) only [go_sem, evLen, nilM]
 refine callK_of (RnC.sum (Q := fun r h' => r = .iface 96 (.map h.nx) ∧ h' = h.new (.map es bs ck)) (v := .iface 96 (.map h.nx)) (h' := h.new (.map es bs ck)) (by rw [hS.clone]; simp only [sumClone, hm]) ⟨rfl, rfl⟩) ?_
 rintro r h2 ⟨rfl, rfl⟩
 simp (maxSteps := 1000000) -dsimp (disch := (repeat first | rw [nxn] | rw [nxp]); try omega) only [go_sem, evLen]
 exact ⟨trivial, trivial⟩
theorem keysC (hS : St S) {h : AH} {m : Nat} : RnC Tryz.prog S 72 [.map m] h fun r h' => r = .func (.func 110) [] [.ptr h.nx 0] ∧ h' = h.new (.cells [.map m] true false) := by
 refine RnC.enter' Tryz.f72 _ 4 [.tmp 2] (hS.nt _ _ _ (by simp)) bd72 Tryz.func72 rfl rfl rfl ?_
 simp (maxSteps := 1000000) -dsimp (disch := (repeat first | rw [nxn] | rw [nxp]); try omega) only [go_sem, evLen]
 exact ⟨trivial, trivial⟩
/-- A slice of texts that lies at a place not below n0. -/
theorem sortedC (hS : St S) {h : AH} {m b n : Nat} {ρ : Nat → Nat} {E : Ixs} (hb : h.get b = some (.cells [.map m] true false)) (hm : ∃ bs ck, h.get m = some (.map (enS (mapS (fpt ρ) E)) bs ck)) (hE : IxOK n E) (hl : E.length ≤ 16384) :
  RnC Tryz.prog S 71 [.func (.func 110) [] [.ptr b 0]] h fun r h' => Ss h.nx h' r (sortS (E.map (·.1))) ∧ Fr h h' := by
 obtain ⟨bs, ck, hm⟩ := hm
 have hk := keysN (ρ := ρ) hE
 have hlen : (enS (mapS (fpt ρ) E)).length = E.length := by simp [enS, mapS]
 have key : ∀ l, sortS (E.map (·.1)) = l → RnC Tryz.prog S 71 [.func (.func 110) [] [.ptr b 0]] h fun r h' => Ss h.nx h' r l ∧ Fr h h' := fun l hs => by
  cases l with
  | nil =>
   refine RnC.sum (v := .nilsl) (h' := h) ?_ ⟨.inl ⟨rfl, rfl⟩, Fr.refl _⟩
   rw [hS.sorted]
   simp only [sumSorted, hb, hm, hk, hs, hlen, if_pos (show E.length ≤ 1099511627776 by omega), show Nat.beq 110 110 = true from rfl, if_true]
  | cons a r =>
   refine RnC.sum (v := .sl h.nx 0 (a :: r).length 1 none) (h' := h.new (.cells ((a :: r).map .str) true false)) ?_ ⟨.inr ⟨h.nx, rfl, AH.get_new_eq rfl, Nat.lt_succ_self _, Nat.le_refl _⟩, Fr.new _ _⟩
   rw [hS.sorted]
   simp only [sumSorted, hb, hm, hk, hs, hlen, if_pos (show E.length ≤ 1099511627776 by omega), show Nat.beq 110 110 = true from rfl, if_true]
 exact key _ rfl
end
end Go.Proofs.YthkdhdcbhpknnaaGreatDoor.tre
