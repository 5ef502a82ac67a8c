/- The law TreeKeeps holds: called with whatever arguments in whatever memory, the Go function returns true and turns nothing that lay before. Conditions: the two listed tables of unicode/utf8 hold what the text lays (the card ties them); none else. -/
import Derived.Test.YtjcidnbgbdibaaaDoorTKb
import Derived.Test.YtjcidnbgbdibaaaDoorTLb
import Derived.Test.YtjcidnbgbdibaaaDoorSeat
import Derived.Test.YtjcidnbgbdibaaaDoorCards
import Derived.Test.YtjcidnbgbdibaaaDoorTie
import Derived.WalkKit
import Derived.ProofKit
import Derived.OpenShut
import Derived.LaidMore
import Derived.Lay
import Derived.SevenTiedAt
import Derived.Stop.Joined
namespace Go.Proofs.YtjcidnbgbdibaaaDoor.treeKeeps
open Go.ChangeShapes Go.WideShapes Go.ChangeAt Go.RowKit Go Go.Abs Go.Proofs.YtjcidnbgbdibaaaDoor.tre
set_option linter.unusedVariables false

set_option maxRecDepth 100000 in
theorem livesRun : isTrue ((evN Tryd.prog sums 300).call 6 [] { tr := .nil, nx := 0 }) = true := by rw [← fN_eq]; kernel_rfl

noncomputable def sumsL : Sums := fun f args h => cond (Nat.beq f 6) (match args with | [] => some (.bool true, h) | _ => none) (sums f args h)

theorem sumsL_ok : SumsOK Tryd.prog sumsL := by
  intro K ρ h w f args cargs v h' hR hv hs
  unfold sumsL at hs
  rw [nat_beq_dec] at hs
  by_cases h8 : f = 6
  · subst h8
    simp only [decide_true, cond_true] at hs
    split at hs
    · cases hs
      obtain ⟨h0, hc⟩ := isTrue_eq livesRun
      exact sumClosed_ok sums_ok hc (fun ρ ρ' cv hx => by cases hx; exact .bool _) hR hv
    · cases hs
  · simp only [h8, decide_false, cond_false] at hs
    exact sums_ok K ρ h w f args cargs v h' hR hv hs
theorem sumsL_lives (h : AH) : sumsL 6 [] h = some (.bool true, h) := rfl
theorem sumsL_none (f : FuncId) (args : List AV) (h : AH) (hf : f ∉ ([6, 95, 102, 52, 38, 49] : List Nat)) : sumsL f args h = none := by
  simp only [List.mem_cons, not_or, List.not_mem_nil, not_false_eq_true, and_true] at hf
  obtain ⟨h1, h2, h3, h4, h5, h6⟩ := hf
  simp only [sumsL, sums, nbeq, h1, h2, h3, h4, h5, h6, decide_false, cond_false]
theorem nin {l m : List Nat} (hd : ∀ x ∈ l, x ∉ m) {f : Nat} (hf : f ∈ l) : f ∉ m := hd f hf
theorem sumsL_st : St sumsL where
  nu f args h hf := sumsL_none f args h (nin (by decide) hf)
  cnt args h := rfl
  idx args h := rfl
  nt f args h hf := sumsL_none f args h (nin (by decide) hf)
  used args h := rfl
  clone args h := rfl
  sorted args h := rfl
theorem ownKnobs : ownKnob Tryd.prog.godebug = none := by kernel_rfl
theorem laidOut : laidOutB Tryd.prog = true := by kernel_rfl

theorem notst {f : FuncId} {args : List AV} {h : AH} (hf : f = 3 ∨ f = 16) : sumsL f args h = none := sumsL_none f args h (by rcases hf with rfl | rfl <;> decide)
set_option maxRecDepth 100000 in
theorem walk {H : Type} {enc : TypeId × Value → H} {W : World} {a0 a1 a2 a4 : Option Addr} {n0 n1 n2 n4 c0 c1 c2 c4 : Nat} {x : Int} {d0 d1 d2 d4 : DataW H} {p0 p1 p2 p4 : List MemPlace} (hd : ∃ (b : Nat) (c : Array Value) (e : TypeId) (fr : Nat × Nat), W.heap[b]? = some (Obj.cells c e fr))
    (hv0 : DataW.Trod enc Tryd.prog W 0 (fun _ => true) true 22 (.slice a0 n0 c0) d0 p0) (hv1 : DataW.Trod enc Tryd.prog W 0 (fun _ => true) true 22 (.slice a1 n1 c1) d1 p1) (hv2 : DataW.Trod enc Tryd.prog W 0 (fun _ => true) true 22 (.slice a2 n2 c2) d2 p2) (hv4 : DataW.Trod enc Tryd.prog W 0 (fun _ => true) true 23 (.slice a4 n4 c4) d4 p4) :
    Calls Tryd.prog 3 #[.slice a0 n0 c0, .slice a1 n1 c1, .slice a2 n2 c2, .int .i64 x, .slice a4 n4 c4] W fun e w' => e = .returned (.bool true) ∧ Below W.heap.size W w' := by
  have u22 := Tryd.underlying22
  have u5 := Tryd.underlying5
  have ns : ∀ fs, Tryd.prog.underlying 5 ≠ some (.struct fs) := fun fs hh => by rw [u5] at hh; cases hh
  have na : ∀ n e, Tryd.prog.underlying 5 ≠ some (.array n e) := fun n e hh => by rw [u5] at hh; cases hh
  obtain ⟨ρ0, h0, s0, g0⟩ := got_arg (k := 8) hd (by kernel_rfl) hv0 (rel_empty W)
  obtain ⟨x0, y0, rfl, hx0, hxa0, hxl0, hxe0⟩ := g0.ty.sl1 u22 (by kernel_rfl) ns na (rel_lt g0.rel)
  have r0 : VR ρ0 x0 (.slice a0 n0 c0) := by cases g0.vr with | cons h _ => exact h
  obtain ⟨l0, rfl, hb0, hl0, _⟩ := hx0.bs hxe0 u5
  obtain ⟨ρ1, h1, s1, g1⟩ := got_arg (k := 8) hd (by kernel_rfl) hv1 g0.rel
  obtain ⟨x1, y1, rfl, hx1, hxa1, hxl1, hxe1⟩ := g1.ty.sl1 u22 (by kernel_rfl) ns na (rel_lt g1.rel)
  have r1 : VR ρ1 x1 (.slice a1 n1 c1) := by cases g1.vr with | cons h _ => exact h
  obtain ⟨l1, rfl, hb1, hl1, _⟩ := hx1.bs hxe1 u5
  obtain ⟨ρ2, h2, s2, g2⟩ := got_arg (k := 8) hd (by kernel_rfl) hv2 g1.rel
  obtain ⟨x2, y2, rfl, hx2, hxa2, hxl2, hxe2⟩ := g2.ty.sl1 u22 (by kernel_rfl) ns na (rel_lt g2.rel)
  have r2 : VR ρ2 x2 (.slice a2 n2 c2) := by cases g2.vr with | cons h _ => exact h
  obtain ⟨l2, rfl, hb2, hl2, _⟩ := hx2.bs hxe2 u5
  obtain ⟨ρ4, h4, s4, g4⟩ := got_arg (k := 8) hd (by kernel_rfl) hv4 g2.rel
  obtain ⟨x4, y4, rfl, hx4, hxa4, hxl4, hxe4⟩ := g4.ty.sl1 Tryd.underlying23 (by kernel_rfl) (fun fs hh => by rw [Tryd.underlying3] at hh; cases hh) (fun n e hh => by rw [Tryd.underlying3] at hh; cases hh) (rel_lt g4.rel)
  have r4 : VR ρ4 x4 (.slice a4 n4 c4) := by cases g4.vr with | cons h _ => exact h
  obtain ⟨l4, hb4, _⟩ := Sl1.iv hx4 hxe4 Tryd.underlying3
  have b2 := bs_le hb2 g4.le g4.ext.nx
  have b1 := bs_le (bs_le hb1 g2.le g2.ext.nx) g4.le g4.ext.nx
  have b0 := bs_le (bs_le (bs_le hb0 g1.le g1.ext.nx) g2.le g2.ext.nx) g4.le g4.ext.nx
  exact walk_of_run sumsL_ok (by kernel_rfl) g4.rel (avs := [x0, x1, x2, .int .i64 x, x4]) (.cons (((r0.mono g1.ext.le).mono g2.ext.le).mono g4.ext.le) (.cons ((r1.mono g2.ext.le).mono g4.ext.le) (.cons (r2.mono g4.ext.le) (.cons (.int _ _) (.cons r4 .nil)))))
    (keeps3 sumsL_st (fun f args h hf => notst hf) sumsL_lives b0 b1 b2 hb4 hl0 hl1 hl2)


abbrev laid : List (String × DataW Unit) := Rows.treeKeepsRow.laid

set_option maxRecDepth 100000 in
set_option maxHeartbeats 10000000 in
theorem lifted (os : Os) (started : os.Started) (H : Type) (enc : TypeId × Value → H) :
    ReturnsInHanded {} Tryd.checked os 3 .any (fun w args => (Rows.treeKeepsSpec.pre enc Tryd.prog Tryd.f3 Rows.treeKeepsRow.domain false w args ∧ laidMetH Tryd.prog laid w) ∧ sizedMet enc Tryd.prog Tryd.f3 (OpenSpec.ofChange Rows.treeKeepsSpec) false w args)
      (Rows.treeKeepsSpec.post enc Tryd.prog Tryd.f3 false true false false) := by
  refine returnsInHanded_of_change_and (C := Tryd.checked) (X := fun w _ => laidMetH Tryd.prog laid w) (fun _ _ _ hh h => h.of_heap hh) ownKnobs started (by kernel_rfl) Tryd.func3
    (ChangeSpec.witness_shaped (enc := enc) (C := Tryd.checked) (os := os) (X := fun w _ => laidMetH Tryd.prog laid w) false (World.laidAll Tryd.prog os laid) #[.slice none 0 0, .slice none 0 0, .slice none 0 0, .int .i64 0, .slice none 0 0] 8 (World.laidAll_os _ _ _)
      (World.shaped_of_ZipB (by kernel_rfl) (by kernel_rfl)) (by kernel_rfl) (by kernel_rfl) (by kernel_rfl)
      (by rw [MakeChecks.laidMetH_plain _ _ _ (by kernel_rfl)]; exact laidMet_laidAll _ (by kernel_rfl) (by kernel_rfl))) ?_
  intro W base args ds gs before hval0 hW hc _ hL _
  have hW' := hW
  obtain ⟨p, q, hA0, hV, rfl, _, _⟩ := hW
  have hA : DataW.TrodAll enc Tryd.prog W 0 (fun _ => true) true Tryd.f3.params.toList args.toList ds p := hA0
  have hval : ∀ (j : Nat) t v, Tryd.f3.params[j]? = some t → args[j]? = some v → Value.okWide Tryd.prog W .any base t v := hval0
  rw [Tryd.params3] at hA
  obtain ⟨v0, v1, v2, v3, v4, d0, d1, d2, d3, d4, p0, p1, p2, p3, p4, rfl, rfl, rfl, hv0, hv1, hv2, hv3, hv4⟩ := trodAll_five hA
  obtain ⟨a0, n0, c0, rfl⟩ := okWide_slice Tryd.underlying22 (hval 0 22 _ rfl rfl)
  obtain ⟨a1, n1, c1, rfl⟩ := okWide_slice Tryd.underlying22 (hval 1 22 _ rfl rfl)
  obtain ⟨a2, n2, c2, rfl⟩ := okWide_slice Tryd.underlying22 (hval 2 22 _ rfl rfl)
  obtain ⟨x, rfl⟩ := okWide_int (k := .i64) Tryd.underlying3 (hval 3 3 _ rfl rfl)
  obtain ⟨a4, n4, c4, rfl⟩ := okWide_slice Tryd.underlying23 (hval 4 23 _ rfl rfl)
  obtain ⟨rfl, rfl⟩ := trodVars_none hV
  simp only [List.append_nil] at hW'
  have hd := cells_of_laid _ _ _ hL (by kernel_rfl) rfl
  refine (walk hd hv0 hv1 hv2 hv4).mono fun e W' ⟨he, bel⟩ => ?_
  subst he
  exact ⟨_, rfl, _, _, _, [], _, [], hW', trodAll_mk1 (shut_bool Tryd.underlying4 _), trodAll_mk5 (trod_below laidOut (by kernel_rfl) (of_decide_eq_true (by kernel_rfl)) hv0 bel) (trod_below laidOut (by kernel_rfl) (of_decide_eq_true (by kernel_rfl)) hv1 bel) (trod_below laidOut (by kernel_rfl) (of_decide_eq_true (by kernel_rfl)) hv2 bel) (trod_below laidOut (by kernel_rfl) (of_decide_eq_true (by kernel_rfl)) hv3 bel) (trod_below laidOut (by kernel_rfl) (of_decide_eq_true (by kernel_rfl)) hv4 bel), rfl, bel.frame _, fun h => by cases h⟩

theorem both {a b : Bool} (ha : a = true) (hb : b = true) : (a && b) = true := by rw [ha, hb]; rfl

set_option maxRecDepth 100000 in
set_option maxHeartbeats 10000000 in
theorem closed : joinedFacts Tryd.prog 3 Tryd.f3 Rows.treeKeepsSpec Rows.treeKeepsRow = true := by
  unfold joinedFacts
  repeat' (with_reducible refine both ?_ ?_)
  all_goals (as_aux_lemma => kernel_rfl)

set_option maxRecDepth 100000 in
set_option maxHeartbeats 10000000 in
theorem holds : Rows.TreeKeepsSaid :=
  OpenClaim.holds_of_wide 3 Tryd.f3 rfl rfl rfl rfl rfl rfl rfl ⟨rfl, rfl, rfl, rfl, rfl⟩ rfl rfl rfl rfl rfl (by as_aux_lemma => kernel_rfl) Tryd.func3
    closed
    (of_decide_eq_true (by as_aux_lemma => kernel_rfl)) (by unfold Func.isWrapper; first | (rw [if_pos (by decide +kernel)]; kernel_rfl) | (rw [if_neg (by decide +kernel)]; exact ⟨rfl, rfl⟩))
    (fun os started H enc _ => lifted os started H enc)

set_option maxRecDepth 100000 in
set_option maxHeartbeats 10000000 in
theorem proved : Rows.TreeKeepsCardSaid :=
  Claim7.holds_tied_plain_at .later [] [.data, .pinned] true (true, "fb8e0f6da6493ccaffd43b9f13f2eb46b05b7b9a4565b40c1df1ab12601fd0d7") true holds (fun _ h => by cases h) (by as_aux_lemma => kernel_rfl) (fun _ h => by cases h) treeKeeps_row_tie rfl ⟨rfl, rfl⟩ (by as_aux_lemma => kernel_rfl) rfl
    (fun f fn hf hfn => by
      obtain rfl : f = 3 := Option.some.inj ((show Tryd.prog.funcNamed "packtrain/packtrainlaw04.TreeKeeps" = some 3 by as_aux_lemma => kernel_rfl).symm.trans hf) |>.symm
      obtain rfl : fn = Tryd.f3 := (Option.some.inj (Tryd.func3.symm.trans hfn)).symm
      refine ⟨by as_aux_lemma => kernel_rfl, fun j t ht => ?_⟩
      rw [Tryd.params3] at ht
      match j with
      | 0 =>
        obtain rfl : t = 22 := by simpa using ht.symm
        show Tryd.prog.wantsStandIn 22 = false
        kernel_rfl
      | 1 =>
        obtain rfl : t = 22 := by simpa using ht.symm
        show Tryd.prog.wantsStandIn 22 = false
        kernel_rfl
      | 2 =>
        obtain rfl : t = 22 := by simpa using ht.symm
        show Tryd.prog.wantsStandIn 22 = false
        kernel_rfl
      | 3 =>
        obtain rfl : t = 3 := by simpa using ht.symm
        show Tryd.prog.wantsStandIn 3 = false
        kernel_rfl
      | 4 =>
        obtain rfl : t = 23 := by simpa using ht.symm
        show Tryd.prog.wantsStandIn 23 = false
        kernel_rfl
      | j + 5 => simp at ht)
    (by as_aux_lemma => kernel_rfl)
#print axioms proved
end Go.Proofs.YtjcidnbgbdibaaaDoor.treeKeeps
