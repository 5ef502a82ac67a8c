/- The law WalScans holds: called with whatever arguments in whatever memory, the Go function returns true and turns nothing that lay before. Conditions: the two listed tables of unicode/utf8 hold what the text lays (the card ties them); none else. -/
import Derived.Test.YticccdaomgildaaGreatDoorWSc
import Derived.Test.YticccdaomgildaaGreatDoorSeat
import Derived.Test.YticccdaomgildaaGreatDoorAbs35
import Derived.Test.YticccdaomgildaaGreatDoorCards
import Derived.Test.YticccdaomgildaaGreatDoorTie
import Derived.WalkKit
import Derived.ProofKit
import Derived.OpenShut
import Derived.LaidMore
import Derived.Lay
import Derived.SevenTiedAt
import Derived.Stop.Joined
namespace Go.Proofs.YticccdaomgildaaGreatDoor.walScans
open Go.ChangeShapes Go.WideShapes Go.ChangeAt Go.RowKit Go Go.Abs
set_option linter.unusedVariables false

set_option maxRecDepth 100000 in
theorem livesRun : isTrue ((evN Tryz.prog sums 300).call 4 [] { tr := .nil, nx := 0 }) = true := by rw [← fN_eq]; kernel_rfl

noncomputable def sums1 : Sums := fun f args h => cond (Nat.beq f 4) (match args with | [] => some (.bool true, h) | _ => none) none

theorem sums1_ok : SumsOK Tryz.prog sums1 := by
  intro K ρ h w f args cargs v h' hR hv hs
  unfold sums1 at hs
  rw [nat_beq_dec] at hs
  by_cases h8 : f = 4
  · subst h8
    simp only [decide_true, cond_true] at hs
    split at hs
    · cases hs
      obtain ⟨h0, hc⟩ := isTrue_eq livesRun
      exact sumClosed_ok sums_ok hc (fun ρ ρ' cv hx => by cases hx; exact .bool _) hR hv
    · cases hs
  · simp only [h8, decide_false, cond_false] at hs
    cases hs

theorem ownKnobs : ownKnob Tryz.prog.godebug = none := by kernel_rfl
theorem laidOut : laidOutB Tryz.prog = true := by kernel_rfl
theorem sums1_none (f : FuncId) (args : List AV) (h : AH) (hf : f ≠ 4) : sums1 f args h = none := by
  unfold sums1
  rw [nat_beq_dec]
  simp [hf]
theorem sums1_lives (h : AH) : sums1 4 [] h = some (.bool true, h) := rfl

set_option maxRecDepth 100000 in
theorem walk {H : Type} {enc : TypeId × Value → H} {W : World} {a : Option Addr} {len cap : Nat} {d : DataW H} {ps : List MemPlace} (hd : ∃ (b : Nat) (c : Array Value) (e : TypeId) (fr : Nat × Nat), W.heap[b]? = some (Obj.cells c e fr)) (hv : DataW.Trod enc Tryz.prog W 0 (fun _ => true) true 22 (.slice a len cap) d ps) : Calls Tryz.prog 3 #[.slice a len cap] W fun e w' => e = .returned (.bool true) ∧ Below W.heap.size W w' := by
  obtain ⟨ρ, h, avs, g⟩ := got_arg (k := 8) hd (by kernel_rfl) hv (rel_empty W)
  have hlt := rel_lt g.rel
  obtain ⟨x, cx, rfl, hx, hxa, hxl, hxe⟩ := g.ty.sl1 Tryz.underlying22 (by kernel_rfl) (fun fs hh => by rw [Tryz.underlying5] at hh; cases hh) (fun n e hh => by rw [Tryz.underlying5] at hh; cases hh) hlt
  have hvr : VR ρ x (.slice a len cap) := by cases g.vr with | cons h _ => exact h
  obtain ⟨l, rfl, hb, hl, hlen⟩ := hx.bs hxe Tryz.underlying5
  exact walk_of_run sums1_ok (by kernel_rfl) g.rel (avs := [x]) (.cons hvr .nil) (law sums1_none sums1_lives hb hl (by rw [hlen]; exact hxl))

abbrev laid : List (String × DataW Unit) := Rows.walScansRow.laid

set_option maxRecDepth 100000 in
set_option maxHeartbeats 10000000 in
theorem lifted (os : Os) (started : os.Started) (H : Type) (enc : TypeId × Value → H) :
    ReturnsInHanded {} Tryz.checked os 3 .any (fun w args => (Rows.walScansSpec.pre enc Tryz.prog Tryz.f3 Rows.walScansRow.domain false w args ∧ laidMetH Tryz.prog laid w) ∧ sizedMet enc Tryz.prog Tryz.f3 (OpenSpec.ofChange Rows.walScansSpec) false w args)
      (Rows.walScansSpec.post enc Tryz.prog Tryz.f3 false true false false) := by
  refine returnsInHanded_of_change_and (C := Tryz.checked) (X := fun w _ => laidMetH Tryz.prog laid w) (fun _ _ _ hh h => h.of_heap hh) ownKnobs started (by kernel_rfl) Tryz.func3
    (ChangeSpec.witness_shaped (enc := enc) (C := Tryz.checked) (os := os) (X := fun w _ => laidMetH Tryz.prog laid w) false (World.laidAll Tryz.prog os laid) #[.slice none 0 0] 8 (World.laidAll_os _ _ _)
      (World.shaped_of_ZipB (by kernel_rfl) (by kernel_rfl)) (by kernel_rfl) (by kernel_rfl) (by kernel_rfl)
      (by rw [MakeChecks.laidMetH_plain _ _ _ (by kernel_rfl)]; exact laidMet_laidAll _ (by kernel_rfl) (by kernel_rfl))) ?_
  intro W base args ds gs before hval0 hW hc _ hL _
  have hW' := hW
  obtain ⟨p, q, hA0, hV, rfl, _, _⟩ := hW
  have hA : DataW.TrodAll enc Tryz.prog W 0 (fun _ => true) true Tryz.f3.params.toList args.toList ds p := hA0
  have hval : ∀ (j : Nat) t v, Tryz.f3.params[j]? = some t → args[j]? = some v → Value.okWide Tryz.prog W .any base t v := hval0
  rw [Tryz.params3] at hA
  obtain ⟨v, d, rfl, rfl, hv⟩ := trodAll_one hA
  obtain ⟨a, len, cap, rfl⟩ := okWide_slice Tryz.underlying22 (hval 0 22 _ rfl rfl)
  obtain ⟨rfl, rfl⟩ := trodVars_none hV
  simp only [List.append_nil] at hW'
  have hd := cells_of_laid _ _ _ hL (by kernel_rfl) rfl
  refine (walk hd hv).mono fun e W' ⟨he, bel⟩ => ?_
  subst he
  exact ⟨_, rfl, _, _, _, [], _, [], hW', trodAll_mk1 (shut_bool Tryz.underlying4 _), trodAll_mk1 (trod_below laidOut (by kernel_rfl) (of_decide_eq_true (by kernel_rfl)) hv bel), rfl, bel.frame _, fun h => by cases h⟩

theorem both {a b : Bool} (ha : a = true) (hb : b = true) : (a && b) = true := by rw [ha, hb]; rfl

set_option maxRecDepth 100000 in
set_option maxHeartbeats 10000000 in
theorem closed : joinedFacts Tryz.prog 3 Tryz.f3 Rows.walScansSpec Rows.walScansRow = true := by
  unfold joinedFacts
  repeat' (with_reducible refine both ?_ ?_)
  all_goals (as_aux_lemma => kernel_rfl)

set_option maxRecDepth 100000 in
set_option maxHeartbeats 10000000 in
theorem holds : Rows.WalScansSaid :=
  OpenClaim.holds_of_wide 3 Tryz.f3 rfl rfl rfl rfl rfl rfl rfl ⟨rfl, rfl, rfl, rfl, rfl⟩ rfl rfl rfl rfl rfl (by as_aux_lemma => kernel_rfl) Tryz.func3
    closed
    (of_decide_eq_true (by as_aux_lemma => kernel_rfl)) (by unfold Func.isWrapper; first | (rw [if_pos (by decide +kernel)]; kernel_rfl) | (rw [if_neg (by decide +kernel)]; exact ⟨rfl, rfl⟩))
    (fun os started H enc _ => lifted os started H enc)

set_option maxRecDepth 100000 in
set_option maxHeartbeats 10000000 in
theorem proved : Rows.WalScansCardSaid :=
  Claim7.holds_tied_plain_at .later [] [.data, .pinned] true (true, "709ab3d4001eb0b84f95a28f8088ea32dc386b0c7374f0c80bc39a1f56f187ad") true holds (fun _ h => by cases h) (by as_aux_lemma => kernel_rfl) (fun _ h => by cases h) walScans_row_tie rfl ⟨rfl, rfl⟩ (by as_aux_lemma => kernel_rfl) rfl
    (fun f fn hf hfn => by
      obtain rfl : f = 3 := Option.some.inj ((show Tryz.prog.funcNamed "packtrain/packtrainlaw05.WalScans" = some 3 by as_aux_lemma => kernel_rfl).symm.trans hf) |>.symm
      obtain rfl : fn = Tryz.f3 := (Option.some.inj (Tryz.func3.symm.trans hfn)).symm
      refine ⟨by as_aux_lemma => kernel_rfl, fun j t ht => ?_⟩
      rw [Tryz.params3] at ht
      match j with
      | 0 =>
        obtain rfl : t = 22 := by simpa using ht.symm
        show Tryz.prog.wantsStandIn 22 = false
        kernel_rfl
      | j + 1 => simp at ht)
    (by as_aux_lemma => kernel_rfl)
#print axioms proved
end Go.Proofs.YticccdaomgildaaGreatDoor.walScans
