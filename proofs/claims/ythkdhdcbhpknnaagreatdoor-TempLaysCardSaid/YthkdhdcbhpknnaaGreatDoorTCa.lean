/- Slices of bytes: copied, compared, put behind one another. Conditions: none. -/
import Derived.Test.YthkdhdcbhpknnaaGreatDoorTPb
import Derived.Test.YthkdhdcbhpknnaaGreatDoorAb7
namespace Go.Proofs.YthkdhdcbhpknnaaGreatDoor.tre
open Go Go.Abs Go.Proofs
set_option maxRecDepth 100000
set_option linter.unusedVariables false
set_option linter.unusedSimpArgs false

theorem ai5 : appI Tryz.prog 5 = some (1, 1) := by kernel_rfl
def Bn (n0 : Nat) (h : AH) (v : AV) (l : List Nat) : Prop := (v = .nilsl ∧ l = []) ∨ Bo n0 h v l
theorem Bn.bs {n0 : Nat} {h : AH} {v : AV} {l : List Nat} (hb : Bn n0 h v l) : Bs h v l := by
 rcases hb with h1 | h1
 ·exact .inl h1
 ·exact h1.bs
theorem Bn.shape {n0 : Nat} {h : AH} {v : AV} {l : List Nat} (hb : Bn n0 h v l) : v = .nilsl ∨ ∃ a n c, v = .sl a 0 n 1 c := by
 rcases hb with h1 | ⟨id, c, cs, tx, h1, _⟩
 ·exact .inl h1.1
 ·exact .inr ⟨_, _, _, h1⟩
theorem Bn.fr {n0 : Nat} {h h' : AH} {v : AV} {l : List Nat} (hb : Bn n0 h v l) (hf : Fr h h') : Bn n0 h' v l := by
 rcases hb with h1 | h1
 ·exact .inl h1
 ·exact .inr (h1.fr hf)
theorem Bn.app {h0 h : AH} {v x : AV} {l m : List Nat} (hb : Bn h0.nx h v l) (hx : Bs h x m) (hf : Fr h0 h) (hl : l.length + m.length ≤ 1073741824) :
  ∃ v' h', evAppend Tryz.prog h #[22, 22] v x = some (.val v' h') ∧ Fr h0 h' ∧ Bn h0.nx h' v' (l ++ m) := by
 rcases hb with ⟨rfl, rfl⟩ | hb
 ·obtain ⟨hn, hnew⟩ := hx.first
  rw [evAppend_eq (len := 0) (old := []) Tryz.underlying22 Tryz.underlying22 rfl ai5 hn hnew rfl rfl (byC_all m) (by omega) (by omega) rfl]
  by_cases hm : m.length = 0
  ·rw [if_pos hm]
   have : m = [] := List.length_eq_zero_iff.1 hm
   subst this
   exact ⟨_, _, rfl, hf, .inl ⟨rfl, rfl⟩⟩
  ·rw [if_neg hm]
   exact ⟨_, _, rfl, hf.news _, .inr ⟨h.nx, none, byC m, false, by simp, AH.get_new_eq rfl, Nat.lt_succ_self _, hf.nx, by rw [List.nil_append, ← byC_length m, List.take_length], by rw [List.nil_append, byC_length]; exact Nat.le_refl _, .inl rfl⟩⟩
 ·obtain ⟨v', h', h1, h2, h3⟩ := Bo.app Tryz.underlying22 ai5 hb hx hf (by omega)
  exact ⟨v', h', h1, h2, .inr h3⟩
theorem bsLn {h : AH} {v : AV} {l : List Nat} (hb : Bs h v l) : (∀ g, evLen Tryz.prog g #[22] v = some (.int .i64 (l.length : Nat))) ∧ sameAV 20 v v = true ∧ oneA v = true := by
 rcases hb with ⟨rfl, rfl⟩ | ⟨id, off, c, cs, o, t, rfl, _⟩
 ·exact ⟨fun g => by simp [evLen, Tryz.underlying22], rfl, rfl⟩
 ·exact ⟨fun g => by simp [evLen, Tryz.underlying22], by simp [sameAV], rfl⟩
theorem bsCells {h : AH} {v : AV} {l : List Nat} (hb : Bs h v l) : cellsA v = some [v] := by
 rcases hb with ⟨rfl, rfl⟩ | ⟨id, off, c, cs, o, t, rfl, _⟩ <;> rfl
theorem eqNs (h : AH) : binA Tryz.prog h .eql 22 .nilsl .nilsl = some (.bool true) := by kernel_rfl
theorem eqSs (h : AH) (i o n z : Nat) (c : Option Nat) : binA Tryz.prog h .eql 22 (.sl i o n z c) .nilsl = some (.bool false) := by kernel_rfl
theorem rep_all5 (n : Nat) : (repCells [AV.int .u8 0] n).all oneA = true := by
 induction n with
 | zero => rfl
 | succ n ih => simp [repCells, ih, oneA]
theorem grow {h : AH} {n : Nat} (hn : n ≤ 274877906944) (h0 : n ≠ 0) : evAppend Tryz.prog h #[22, 3] .nilsl (.int .i64 (n : Nat)) = some (.val (.sl h.nx 0 n 1 none) (h.new (.cells (repCells [.int .u8 0] n) true false))) := by
 have hi : ∃ i z, Tryz.prog.info? 5 = some i ∧ i.zero = some z ∧ cellsA (toAV z) = some [.int .u8 0] ∧ i.size = 1 ∧ i.bytes = 1 := by
  have hk : (match Tryz.prog.info? 5 with | some i => (match i.zero with | some (.int .u8 0) => true | _ => false) && (Nat.beq i.size 1 && Nat.beq i.bytes 1) | none => false) = true := by kernel_rfl
  split at hk
  ·rename_i i hi
   rw [Bool.and_eq_true, Bool.and_eq_true] at hk
   obtain ⟨k1, k2, k3⟩ := hk
   split at k1
   ·rename_i hz
    exact ⟨i, _, hi, hz, rfl, Nat.eq_of_beq_eq_true k2, Nat.eq_of_beq_eq_true k3⟩
   ·cases k1
  ·cases hk
 obtain ⟨i, z, h1, h2, h3, h4, h5⟩ := hi
 have hcast : ((n : Nat) : Int) = Int.ofNat n := rfl
 rw [hcast]
 unfold evAppend
 simp only [List.getElem?_toArray, List.getElem?_cons_zero, List.getElem?_cons_succ, Option.bind_eq_bind, Option.bind_some, Tryz.underlying22, h1, h2, h3, h4, h5]
 rw [if_neg (by simp)]
 have hap : appendedA Tryz.prog h i [.int .u8 0] 3 (.int .i64 (Int.ofNat n)) = some (n, repCells [.int .u8 0] n) := by
  unfold appendedA
  simp only [Tryz.underlying3, Option.bind_eq_bind, Option.bind_some, h5]
  rw [if_pos (by simp; omega)]
 simp only [hap, Option.bind_some, lenA, firstA]
 simp only [if_true, Option.bind_some]
 rw [if_neg h0, if_neg (by simp [rep_all5]), if_neg (by simp; omega)]
 rfl


section
variable {S : Sums}
/-- Functions of the tree that are no summaries. -/
structure St (S : Sums) : Prop extends Sp S where
 nt : ∀ f args h, f ∈ [48, 74, 111, 120, 136, 15, 26, 57, 59, 61, 21, 53, 28, 60, 70, 80, 81, 101, 102, 69, 67, 68, 72, 73, 17, 31, 88] → S f args h = none
 used : ∀ args h, S 125 args h = sumUsed args h
 clone : ∀ args h, S 107 args h = sumClone args h
 sorted : ∀ args h, S 71 args h = sumSorted 110 args h
theorem cloneC (hS : St S) {h : AH} {v : AV} {l : List Nat} (hb : Bs h v l) (hl : l.length ≤ 1073741824) : RnC Tryz.prog S 48 [v] h fun r h' => Bn h.nx h' r l ∧ Fr h h' := by
 refine RnC.enter' Tryz.f48 _ 8 [.tmp 2] (hS.nt _ _ _ (by simp)) bd48 Tryz.func48 rfl rfl rfl ?_
 have hb0 := hb
 rcases hb with ⟨rfl, rfl⟩ | ⟨id, off, c, cs, o, t, rfl, h2, h3, h4⟩
 ·simp (maxSteps := 1000000) -dsimp (disch := (repeat first | rw [nxn] | rw [nxp]); try omega) only [go_sem, evLen, eqNs, eqSs]
  exact ⟨.inl ⟨rfl, rfl⟩, Fr.refl _⟩
 ·obtain ⟨v2, h2, ha, hf, hb2⟩ := Bo.app (h0 := h) (h := h.new (.cells [] true true)) (v := .sl h.nx 0 0 1 (some 0)) (l := []) Tryz.underlying22 ai5 ⟨h.nx, some 0, [], true, rfl, AH.get_new_eq rfl, Nat.lt_succ_self _, Nat.le_refl _, rfl, Nat.le_refl _, .inr rfl⟩ (hb0.fr (Fr.new _ _)) (Fr.new _ _) (by simp; omega)
  simp (maxSteps := 1000000) -dsimp (disch := (repeat first | rw [nxn] | rw [nxp]); try omega) only [go_sem, evLen, ha, eqNs, eqSs]
  exact ⟨.inr (by simpa using hb2), hf⟩
theorem equalC (hS : St S) {h : AH} {v w : AV} {l m : List Nat} (hv : Bs h v l) (hw : Bs h w m) (hl : ∀ b ∈ l, b < 256) (hm : ∀ b ∈ m, b < 256) : RnC Tryz.prog S 74 [v, w] h fun r h' => r = .bool (decide (l = m)) ∧ h' = h := by
 refine RnC.enter' Tryz.f74 _ 10 [.tmp 4] (hS.nt _ _ _ (by simp)) bd74 Tryz.func74 rfl rfl rfl ?_
 have t1 := hv.text Tryz.underlying22 Tryz.underlying5 Tryz.underlying9 hl
 have t2 := hw.text Tryz.underlying22 Tryz.underlying5 Tryz.underlying9 hm
 simp (maxSteps := 1000000) -dsimp (disch := (repeat first | rw [nxn] | rw [nxp]); try omega) only [go_sem, evLen, t1, t2, eqS]
 exact ⟨trivial, trivial⟩
theorem bprefC (hS : St S) {h : AH} {v w : AV} {l m : List Nat} (hv : Bs h v l) (hw : Bs h w m) (hl : ∀ b ∈ l, b < 256) (hm : ∀ b ∈ m, b < 256) : RnC Tryz.prog S 111 [v, w] h fun r h' => r = .bool (decide (l.take m.length = m)) ∧ h' = h := by
 refine RnC.enter' Tryz.f111 _ 18 [.tmp 4] (hS.nt _ _ _ (by simp)) bd111 Tryz.func111 rfl rfl rfl ?_
 obtain ⟨lv, _, ov⟩ := bsLn hv
 obtain ⟨lw, _, ow⟩ := bsLn hw
 by_cases c : ((m.length : Nat) : Int) ≤ ((l.length : Nat) : Int)
 ·obtain ⟨x, t1, hx, _, ox⟩ := hv.slice_to (hi := m.length) Tryz.underlying22 tz5 (by omega)
  simp (maxSteps := 1000000) -dsimp (disch := (repeat first | rw [nxn] | rw [nxp]); try omega) only [go_sem, c, lv, lw, ov, ow, t1, ox]
  refine callK_of (equalC hS hx hw (fun b hb => hl b (List.mem_of_mem_take hb)) hm) ?_
  rintro r h2 ⟨rfl, rfl⟩
  simp (maxSteps := 1000000) -dsimp (disch := (repeat first | rw [nxn] | rw [nxp]); try omega) only [go_sem]
  exact ⟨trivial, trivial⟩
 ·simp (maxSteps := 1000000) -dsimp (disch := (repeat first | rw [nxn] | rw [nxp]); try omega) only [go_sem, c, lv, lw, ov, ow]
  have : ¬ l.take m.length = m := fun hh => by
   have := congrArg List.length hh
   rw [List.length_take] at this
   omega
  simp [this]
end
end Go.Proofs.YthkdhdcbhpknnaaGreatDoor.tre
