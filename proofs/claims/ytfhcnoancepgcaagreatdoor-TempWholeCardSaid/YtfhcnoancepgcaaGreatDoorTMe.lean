/- The program's temp: made, New, Has, Put. Conditions: the digest's constants are summaries; none else. -/
import Derived.Test.YtfhcnoancepgcaaGreatDoorTMd
namespace Go.Proofs.YtfhcnoancepgcaaGreatDoor.dig
open Go Go.Abs Go.Proofs
set_option maxRecDepth 100000
set_option linter.unusedVariables false
set_option linter.unusedSimpArgs false

theorem sv_map (m : Nat) : sameAV 20 (.map m) (.map m) = true := by simp [sameAV]
theorem neP (h : AH) (p : Nat) : binA Tryz.prog h .neq 32 (.ptr p 0) .nilptr = some (.bool true) := by kernel_rfl
theorem neM (h : AH) (m : Nat) : binA Tryz.prog h .neq 66 (.map m) .nilmap = some (.bool true) := by kernel_rfl

theorem bld62a (s ln : Int) (m : Nat) : evBuild Tryz.prog 68 [(0, .agg [.int .i64 s, .int .i64 ln, .nilsl]), (1, .map m)] = some (.agg [.int .i64 s, .int .i64 ln, .nilsl, .map m]) := by kernel_rfl
theorem bld62b (s ln : Int) (m k n : Nat) (c : Option Nat) : evBuild Tryz.prog 68 [(0, .agg [.int .i64 s, .int .i64 ln, .sl k 0 n 32 c]), (1, .map m)] = some (.agg [.int .i64 s, .int .i64 ln, .sl k 0 n 32 c, .map m]) := by kernel_rfl

theorem Ds.at {h h' : AH} {k o n z : Nat} {c : Option Nat} {D : List (List Nat)} (hb : Ds h (.sl k o n z c) D) (hk : h'.get k = h.get k) (hn : h.nx ≤ h'.nx) : Ds h' (.sl k o n z c) D := by
  rcases hb with ⟨h1, _⟩ | ⟨id, off, c, cs, ow, t, h1, h2, h3, h4⟩
  · cases h1
  · cases h1
    exact .inr ⟨k, o, c, cs, ow, t, rfl, hk.trans h2, Nat.lt_of_lt_of_le h3 hn, h4⟩
theorem Ds.id_lt {h : AH} {k o n z : Nat} {c : Option Nat} {D : List (List Nat)} (hb : Ds h (.sl k o n z c) D) : k < h.nx := by
  rcases hb with ⟨h1, _⟩ | ⟨id, off, c, cs, ow, t, h1, h2, h3, h4⟩
  · cases h1
  · cases h1
    exact h3
theorem pt_new {h h3 : AH} {s ln : Int} {dv : AV} {D : List (List Nat)} {o : AO} (hn : h.nx + 1 ≤ h3.nx) (fr : Fr h h3) (ov : oneA dv = true)
    (hv : Ds (((h3.put h.nx o).new (.map [] [] 0)).new (.cells [.int .i64 s, .int .i64 ln, dv, .map h3.nx] true false)) dv D) :
    Fr h (((h3.put h.nx o).new (.map [] [] 0)).new (.cells [.int .i64 s, .int .i64 ln, dv, .map h3.nx] true false)) ∧
    Pt (h3.nx + 1) h3.nx (((h3.put h.nx o).new (.map [] [] 0)).new (.cells [.int .i64 s, .int .i64 ln, dv, .map h3.nx] true false)) s ln D fun _ => none := by
  refine ⟨⟨by simp; omega, fun j hj => ?_⟩, ⟨dv, [], [], 0, ?_, ?_, hv, ov, fun k => rfl⟩, ?_, ?_⟩
  · rw [AH.get_new, if_neg (by simp; omega), AH.get_new, if_neg (by simp; omega), AH.get_put, if_neg (by omega)]
    exact fr.get j hj
  · rw [AH.get_new, if_pos (by simp)]
  · rw [AH.get_new, if_neg (by simp), AH.get_new, if_pos (by simp)]
    rfl
  · simp
  · simp; omega

section
variable {S : Sums}
def Nu (S : Sums) : Prop := ∀ f args h, f ∈ [5, 6, 7, 8, 13, 10, 11, 12, 26, 27, 29, 32, 31, 67, 66] → S f args h = none

theorem made30 (hS : Nu S) {h : AH} {p m : Nat} {s ln : Int} {D : List (List Nat)} {B : Int → Option (List Nat)} (hp : Pt p m h s ln D B) : RnC Tryz.prog S 27 [.ptr p 0] h fun r h' => r = .bool true ∧ Fr h h' := by
  refine RnC.enter' Tryz.f27 _ 12 [.tmp 2] (hS _ _ _ (by simp)) bd27 Tryz.func27 rfl rfl rfl ?_
  obtain ⟨⟨dv, E, bs, ck, h1, h2, h3, h4, h5⟩, h6, h7⟩ := hp
  simp (maxSteps := 1000000) -dsimp (disch := (repeat first | rw [nxn] | rw [nxp]); try omega) only [go_sem, evLen, neP, neM, h1]
  exact ⟨trivial, Fr.refl _⟩

theorem has12 (hS : Nu S) {h : AH} {p m : Nat} {s ln : Int} {D : List (List Nat)} {B : Int → Option (List Nat)} {k : Int} (hp : Pt p m h s ln D B) : RnC Tryz.prog S 10 [.ptr p 0, .int .i64 k] h fun r h' => r = .bool (B k).isSome ∧ Fr h h' := by
  refine RnC.enter' Tryz.f10 _ 20 [.tmp 4] (hS _ _ _ (by simp)) bd10 Tryz.func10 rfl rfl rfl ?_
  simp (maxSteps := 1000000) -dsimp (disch := (repeat first | rw [nxn] | rw [nxp]); try omega) only [go_sem, evLen]
  refine callK_of (made30 hS hp) ?_
  rintro r h2 ⟨rfl, hf2⟩
  obtain ⟨⟨dv, E, bs, ck, h1, h2', h3, h4, h5⟩, h6, h7⟩ := hp.fr hf2
  obtain ⟨l1, l2⟩ := look60 h2' k
  have hv : (val E k).isSome = (B k).isSome := by
    have := h5 k
    revert this
    cases val E k with
    | none => intro hh; have hh2 : B k = none := hh; rw [hh2]; rfl
    | some v => rintro ⟨l, e, _⟩; rw [e]; rfl
  simp (maxSteps := 1000000) -dsimp (disch := (repeat first | rw [nxn] | rw [nxp]); try omega) only [go_sem, evLen, h1, l1, l2]
  exact ⟨by rw [hv], hf2⟩

set_option maxHeartbeats 4000000 in
theorem new8 (hS : Nu S) (hN : Nt S) {h : AH} {s ln : Int} {dv : AV} {D : List (List Nat)} (hD : Ds h dv D) (hD32 : ∀ d ∈ D, d.length = 32) :
    RnC Tryz.prog S 7 [.agg [.int .i64 s, .int .i64 ln, dv]] h fun r h' => Fr h h' ∧ if chk s ln D.length = 0 then ∃ p m, r = .tup [.ptr p 0, .int .i64 0] ∧ h.nx ≤ p ∧ h.nx ≤ m ∧ Pt p m h' s ln D fun _ => none
      else r = .tup [.nilptr, .int .i64 (chk s ln D.length : Nat)] := by
  refine RnC.enter' Tryz.f7 _ 18 [.tmp 2, .tmp 3] (hS _ _ _ (by simp)) bd7 Tryz.func7 rfl rfl rfl ?_
  obtain ⟨ldv, sdv, odv⟩ := hD.len
  simp (maxSteps := 1000000) -dsimp (disch := (repeat first | rw [nxn] | rw [nxp]); try omega) only [go_sem, sv_int, sv_bool, ldv, sdv, odv, Nat.mul_one, true_and, implies_true]
  refine callK_of (check27 (fun f _ _ hf => hN _ _ _ (by rcases hf with h | h <;> simp [h])) (hD.fr (Fr.new _ _))) ?_
  rintro r h2 ⟨rfl, hf2⟩
  have hn2 : h.nx + 1 ≤ h2.nx := hf2.nx
  have hg2 : ∀ j, j < h.nx + 1 → h2.get j = (h.new (.cells [.int .i64 s, .int .i64 ln, dv] true false)).get j := hf2.get
  have fr2 : Fr h h2 := (Fr.new h _).trans hf2
  by_cases c1 : ((chk s ln D.length : Nat) : Int) = 0
  · have c1' : chk s ln D.length = 0 := by omega
    have hl := (chk_0 c1').2.2.2.2.1
    simp (maxSteps := 1000000) -dsimp (disch := (repeat first | rw [nxn] | rw [nxp]); try omega) only [go_sem, c1, hg2, sv_int, sv_bool, ldv, sdv, odv, Nat.mul_one, true_and, implies_true]
    refine callK_of (clone28 (fun _ _ => hS _ _ _ (by simp)) (hD.fr fr2) hD32 (by omega)) ?_
    rintro v h3 ⟨hv, ov, hk, hf3⟩
    have hn3 := hf3.nx
    have hg3 : ∀ j, j < h.nx + 1 → h3.get j = (h.new (.cells [.int .i64 s, .int .i64 ln, dv] true false)).get j := fun j hj => (hf3.get j (by omega)).trans (hg2 j hj)
    rcases hk with rfl | ⟨kk, nn, cc, rfl, hk⟩
    · simp (maxSteps := 1000000) -dsimp (disch := (repeat first | rw [nxn] | rw [nxp]); try omega) only [go_sem, bld62a, bld62b, hg3, ov, sv_int, sv_bool, ldv, sdv, odv, Nat.mul_one, true_and, implies_true]
      have hv2 : D = [] := by
        rcases hv with ⟨_, h9⟩ | ⟨id, off, c, cs, ow, t, h9, _⟩
        · exact h9
        · cases h9
      obtain ⟨q1, q2⟩ := pt_new (s := s) (ln := ln) (o := .cells [.int .i64 s, .int .i64 ln, .nilsl] true false) (h3 := h3) (D := D) (by omega) (fr2.trans hf3) rfl (.inl ⟨rfl, hv2⟩)
      refine ⟨q1, ?_⟩
      rw [if_pos c1']
      exact ⟨_, _, rfl, by omega, by omega, q2⟩
    · simp (maxSteps := 1000000) -dsimp (disch := (repeat first | rw [nxn] | rw [nxp]); try omega) only [go_sem, bld62a, bld62b, hg3, ov, sv_int, sv_bool, ldv, sdv, odv, Nat.mul_one, true_and, implies_true]
      have hki := hv.id_lt
      obtain ⟨q1, q2⟩ := pt_new (s := s) (ln := ln) (o := .cells [.int .i64 s, .int .i64 ln, .sl kk 0 nn 32 cc] true false) (h3 := h3) (D := D) (by omega) (fr2.trans hf3) rfl (hv.at (by rw [AH.get_new, if_neg (by simp; omega), AH.get_new, if_neg (by simp; omega), AH.get_put, if_neg (by omega)]) (by simp; omega))
      refine ⟨q1, ?_⟩
      rw [if_pos c1']
      exact ⟨_, _, rfl, by omega, by omega, q2⟩
  · simp (maxSteps := 1000000) -dsimp (disch := (repeat first | rw [nxn] | rw [nxp]); try omega) only [go_sem, c1, hg2, sv_int, sv_bool, ldv, sdv, odv, Nat.mul_one, true_and, implies_true]
    refine ⟨fr2, ?_⟩
    have c2 : ¬ chk s ln D.length = 0 := by omega
    simp only [c2, if_false]

/-- What the temp holds after a block was put. -/
def putB (B : Int → Option (List Nat)) (k : Int) (l : List Nat) : Int → Option (List Nat) := fun j => if j = k then some l else B j
theorem pt_put {h h4 : AH} {p m : Nat} {s ln : Int} {D : List (List Nat)} {B : Int → Option (List Nat)} {k : Int} {l : List Nat} {dv r : AV} {E : List (Int × AV)} {bs bs5 : List Nat} {ck ck5 : Nat} (fr : Fr h h4) (hpm : ¬ p = m)
    (k1 : h4.get p = some (.cells [.int .i64 s, .int .i64 ln, dv, .map m] true false)) (k2 : h4.get m = some (.map (ens E) bs ck)) (k3 : Ds h4 dv D) (k4 : oneA dv = true) (k5 : Hld h4 E B) (k6 : p < h4.nx) (k7 : m < h4.nx) (hb : Bs h4 r l) :
    Fx m h (h4.put m (.map (ens (upd E k r)) bs5 ck5)) ∧ Pt p m (h4.put m (.map (ens (upd E k r)) bs5 ck5)) s ln D (putB B k l) := by
  have fx : Fx m h4 (h4.put m (.map (ens (upd E k r)) bs5 ck5)) := ⟨Nat.le_refl _, fun j _ hj => by rw [AH.get_put, if_neg hj]⟩
  have hm4 : ∀ cs o t, h4.get m ≠ some (.cells cs o t) := fun cs o t hh => by rw [hh] at k2; cases k2
  refine ⟨Fx.trans (Fr.fx fr m) fx, ⟨dv, upd E k r, bs5, ck5, by rw [AH.get_put, if_neg hpm]; exact k1, by rw [AH.get_put, if_pos rfl], k3.fx fx hm4, k4, fun j => ?_⟩, k6, k7⟩
  rw [val_upd]
  unfold putB
  by_cases hj : j = k
  · rw [if_pos hj, if_pos hj]
    exact ⟨l, rfl, Bs.fx hb fx hm4⟩
  · rw [if_neg hj, if_neg hj]
    have := k5 j
    revert this
    cases val E j with
    | none => exact id
    | some v => exact fun ⟨l', e1, e2⟩ => ⟨l', e1, Bs.fx e2 fx hm4⟩
set_option maxHeartbeats 4000000 in
theorem put10 (hS : Nu S) (hN : Nt S) (hd : Dg S) {h : AH} {p m : Nat} {s ln : Int} {D : List (List Nat)} {B : Int → Option (List Nat)} {k : Int} {bv : AV} {l : List Nat} (hp : Pt p m h s ln D B) (hD32 : ∀ d ∈ D, d.length = 32)
    (hb : Bs h bv l) (hl : ∀ b ∈ l, b < 256) (hln : l.length ≤ 137438953472) :
    RnC Tryz.prog S 8 [.ptr p 0, .int .i64 k, bv] h fun r h' => r = .int .i64 (fit s ln D k l : Nat) ∧ if fit s ln D k l = 0 then Fx m h h' ∧ Pt p m h' s ln D (putB B k l) else Fr h h' := by
  refine RnC.enter' Tryz.f8 _ 28 [.tmp 6] (hS _ _ _ (by simp)) bd8 Tryz.func8 rfl rfl rfl ?_
  simp (maxSteps := 1000000) -dsimp (disch := (repeat first | rw [nxn] | rw [nxp]); try omega) only [go_sem, evLen]
  refine callK_of (made30 hS hp) ?_
  rintro r h2 ⟨rfl, hf2⟩
  obtain ⟨⟨dv, E, bs, ck, h1, h2', h3, h4, h5⟩, h6, h7⟩ := hp.fr hf2
  simp (maxSteps := 1000000) -dsimp (disch := (repeat first | rw [nxn] | rw [nxp]); try omega) only [go_sem, evLen, h1, h4]
  refine callK_of (fits31 hN hd h3 hD32 (hb.fr hf2) hl hln) ?_
  rintro r h3' ⟨rfl, hf3⟩
  have fr3 : Fr h h3' := hf2.trans hf3
  obtain ⟨⟨dv', E', bs', ck', g1, g2, g3, g4, g5⟩, g6, g7⟩ := hp.fr fr3
  by_cases c : ((fit s ln D k l : Nat) : Int) = 0
  · have c' : fit s ln D k l = 0 := by omega
    simp (maxSteps := 1000000) -dsimp (disch := (repeat first | rw [nxn] | rw [nxp]); try omega) only [go_sem, evLen, c]
    refine syDraw.keep (fun id => id = p) (by kernel_rfl) (by kernel_rfl) ?_
    simp (maxSteps := 1000000) -dsimp (disch := (repeat first | rw [nxn] | rw [nxp]); try omega) only [go_sem, g1, sv_map, true_and, implies_true, sv_int, sv_bool]
    refine callK_of (clone32 (fun _ _ => hS _ _ _ (by simp)) (hb.fr (fr3.more (h3'.nx + 8) (by omega))) hln) ?_
    rintro r h4 ⟨hr, hf4⟩
    have fr4 : Fr h h4 := (fr3.more (h3'.nx + 8) (by omega)).trans hf4
    have hp4 : h4.get p = h3'.get p := hf4.get p (by show p < h3'.nx + 8; omega)
    obtain ⟨⟨dv4, E4, bs4, ck4, k1, k2, k3, k4, k5⟩, k6, k7⟩ := hp.fr fr4
    have hpm : ¬ p = m := fun hh => by rw [hh, k2] at k1; cases k1
    obtain ⟨bs5, ck5, hu⟩ := set60 k2 k r
    refine ⟨fun id hid => by rw [hid]; exact hp4, ?_⟩
    have hbr : Bs h4 r l := by
      rcases hr with ⟨rfl, rfl⟩ | ⟨_, hr⟩
      · rcases hb with ⟨_, h9⟩ | ⟨id, off, c, cs, ow, t, h9, _⟩
        · exact .inl ⟨rfl, h9⟩
        · cases h9
      · exact hr.bs
    have hm4 : ∀ cs o t, h4.get m ≠ some (.cells cs o t) := fun cs o t hh => by rw [hh] at k2; cases k2
    rcases (show r = .nilsl ∨ ∃ a b n z c, r = .sl a b n z c from by
      rcases hbr with ⟨h9, _⟩ | ⟨id, off, c, cs, ow, t, h9, _⟩
      · exact .inl h9
      · exact .inr ⟨_, _, _, _, _, h9⟩) with rfl | ⟨ra, rb, rn, rz, rc, rfl⟩
    · simp (maxSteps := 1000000) -dsimp (disch := (repeat first | rw [nxn] | rw [nxp]); try omega) only [go_sem, hu, hpm, sv_map, true_and, implies_true, sv_int, sv_bool]
      refine ⟨fun id hid => by rw [AH.get_put, if_neg (by omega)], by rw [c']; rfl, ?_⟩
      rw [if_pos c']
      exact pt_put fr4 hpm k1 k2 k3 k4 k5 k6 k7 hbr
    · simp (maxSteps := 1000000) -dsimp (disch := (repeat first | rw [nxn] | rw [nxp]); try omega) only [go_sem, hu, hpm, sv_map, true_and, implies_true, sv_int, sv_bool]
      refine ⟨fun id hid => by rw [AH.get_put, if_neg (by omega)], by rw [c']; rfl, ?_⟩
      rw [if_pos c']
      exact pt_put fr4 hpm k1 k2 k3 k4 k5 k6 k7 hbr
  · have c' : ¬ fit s ln D k l = 0 := by omega
    simp (maxSteps := 1000000) -dsimp (disch := (repeat first | rw [nxn] | rw [nxp]); try omega) only [go_sem, evLen, c, c']
    exact ⟨trivial, fr3⟩
end
end Go.Proofs.YtfhcnoancepgcaaGreatDoor.dig
