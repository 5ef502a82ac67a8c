/- The law TempSame holds: called with whatever arguments in whatever memory, the Go function returns true and turns nothing that lay before. Conditions: none beyond the stated premises. -/
import Derived.Test.YtmdkibpieeiadaaTSa
import Derived.Test.YtmdkibpieeiadaaRows
import Derived.Test.YtmdkibpieeiadaaAb6
import Derived.WalkKit
import Derived.ProofKit
import Derived.OpenShut
import Derived.LaidMore
import Derived.Lay
import Derived.SevenTiedAt
import Derived.Stop.Joined
namespace Go.Proofs.Ytmdkibpieeiadaa.tempSame
open Go.ChangeShapes Go.WideShapes Go.ChangeAt Go.RowKit Go Go.Abs
set_option linter.unusedVariables false

theorem ownKnobs : ownKnob Try.prog.godebug = none := by kernel_rfl
theorem laidOut : laidOutB Try.prog = true := by kernel_rfl

set_option maxRecDepth 100000 in
theorem walk {H : Type} {enc : TypeId × Value → H} {W : World} {base : Nat} {a0 : Option Addr} {len0 cap0 : Nat} {d0 : DataW H} {ps0 : List MemPlace} (ok0 : Value.okWide Try.prog W .any base 22 (.slice a0 len0 cap0)) (hv0 : DataW.Trod enc Try.prog W 0 (fun _ => true) true 22 (.slice a0 len0 cap0) d0 ps0) (x1 : Int) {a2 : Option Addr} {len2 cap2 : Nat} {d2 : DataW H} {ps2 : List MemPlace} (ok2 : Value.okWide Try.prog W .any base 22 (.slice a2 len2 cap2)) (hv2 : DataW.Trod enc Try.prog W 0 (fun _ => true) true 22 (.slice a2 len2 cap2) d2 ps2) : Calls Try.prog 3 #[.slice a0 len0 cap0, .int .i64 x1, .slice a2 len2 cap2] W fun e w' => e = .returned (.bool true) ∧ Below W.heap.size W w' := by
  obtain ⟨ρ0, h0, avs0, g0⟩ := got_slice (k := 8) Try.underlying22 ok0 (by kernel_rfl) hv0 (rel_empty W)
  obtain ⟨x0, cx0, rfl, hx0, hxa0, hxl0, hxe0⟩ := g0.ty.sl1 Try.underlying22 (by kernel_rfl) (fun fs hh => by rw [Try.underlying5] at hh; cases hh) (fun n e hh => by rw [Try.underlying5] at hh; cases hh) (rel_lt g0.rel)
  have hvr0 : VR ρ0 x0 (.slice a0 len0 cap0) := by cases g0.vr with | cons h _ => exact h
  obtain ⟨l0, rfl, hb0, hl0, hlen0⟩ := hx0.bs hxe0 Try.underlying5
  obtain ⟨ρ2, h2, avs2, g2⟩ := got_slice (k := 8) Try.underlying22 ok2 (by kernel_rfl) hv2 g0.rel
  obtain ⟨x2, cx2, rfl, hx2, hxa2, hxl2, hxe2⟩ := g2.ty.sl1 Try.underlying22 (by kernel_rfl) (fun fs hh => by rw [Try.underlying5] at hh; cases hh) (fun n e hh => by rw [Try.underlying5] at hh; cases hh) (rel_lt g2.rel)
  have hvr2 : VR ρ2 x2 (.slice a2 len2 cap2) := by cases g2.vr with | cons h _ => exact h
  obtain ⟨l2, rfl, hb2, hl2, hlen2⟩ := hx2.bs hxe2 Try.underlying5
  have hb0 := bs_le hb0 g2.le g2.ext.nx
  have hvr0 := hvr0.mono g2.ext.le
  exact walk_of_run sL_ok (by kernel_rfl) (g2.rel) (avs := [x0, .int .i64 x1, x2]) (.cons hvr0 (.cons (.int _ _) (.cons hvr2 .nil))) (lawR hb0 hl0 hb2 hl2)

set_option maxRecDepth 100000 in
set_option maxHeartbeats 10000000 in
theorem lifted (os : Os) (started : os.Started) (H : Type) (enc : TypeId × Value → H) :
    ReturnsInHanded {} Try.checked os 3 .any (Rows.tempSameSpec.pre6 enc Try.prog Try.f3 Rows.tempSameRow.domain false) (Rows.tempSameSpec.post enc Try.prog Try.f3 false true false false) := by
  refine returnsInHanded_of_change (C := Try.checked) ownKnobs started (by kernel_rfl) Try.func3
    (ChangeSpec.witness6 (enc := enc) (C := Try.checked) false ⟨#[], #[.slice none 0 0, .int .i64 0, .slice none 0 0], []⟩ 8 (by kernel_rfl) (by kernel_rfl) (by kernel_rfl) (by kernel_rfl)) ?_
  intro W base args ds gs before hval0 hW hc _
  have hW' := hW
  obtain ⟨p, q, hA0, hV, rfl, _, _⟩ := hW
  have hA : DataW.TrodAll enc Try.prog W 0 (fun _ => true) true Try.f3.params.toList args.toList ds p := hA0
  have hval : ∀ (j : Nat) t v, Try.f3.params[j]? = some t → args[j]? = some v → Value.okWide Try.prog W .any base t v := hval0
  rw [Try.params3] at hA
  obtain ⟨v, v', v'', d, d', d'', p1, p2, p3, rfl, rfl, rfl, hv, hv', hv''⟩ := trodAll_three hA
  obtain ⟨a0, len0, cap0, rfl⟩ := okWide_slice Try.underlying22 (hval 0 22 _ rfl rfl)
  obtain ⟨x1, rfl⟩ := okWide_int (k := .i64) Try.underlying3 (hval 1 3 _ rfl rfl)
  obtain ⟨a2, len2, cap2, rfl⟩ := okWide_slice Try.underlying22 (hval 2 22 _ rfl rfl)
  obtain ⟨rfl, rfl⟩ := trodVars_none hV
  simp only [List.append_nil] at hW'
  refine (walk (hval 0 22 _ rfl rfl) hv x1 (hval 2 22 _ rfl rfl) hv'').mono fun e W' ⟨he, bel⟩ => ?_
  subst he
  exact ⟨_, rfl, _, _, _, [], _, [], hW', trodAll_mk1 (shut_bool Try.underlying4 _), trodAll_mk3 (trod_below laidOut (by kernel_rfl) (of_decide_eq_true (by kernel_rfl)) hv bel) (trod_below laidOut (by kernel_rfl) (of_decide_eq_true (by kernel_rfl)) hv' bel) (trod_below laidOut (by kernel_rfl) (of_decide_eq_true (by kernel_rfl)) hv'' bel), rfl, bel.frame _, fun h => by cases h⟩

theorem both {a b : Bool} (ha : a = true) (hb : b = true) : (a && b) = true := by rw [ha, hb]; rfl

set_option maxRecDepth 100000 in
set_option maxHeartbeats 10000000 in
theorem closed : joinedFacts Try.prog 3 Try.f3 Rows.tempSameSpec Rows.tempSameRow = true := by
  unfold joinedFacts
  repeat' (with_reducible refine both ?_ ?_)
  all_goals (as_aux_lemma => kernel_rfl)

set_option maxRecDepth 100000 in
set_option maxHeartbeats 10000000 in
theorem proved : Rows.TempSameSaid :=
  OpenClaim.holds_of_wide 3 Try.f3 rfl rfl rfl rfl rfl rfl rfl ⟨rfl, rfl, rfl, rfl, rfl⟩ rfl rfl rfl rfl rfl (by as_aux_lemma => kernel_rfl) Try.func3
    closed
    (of_decide_eq_true (by as_aux_lemma => kernel_rfl)) (by unfold Func.isWrapper; first | (rw [if_pos (by decide +kernel)]; kernel_rfl) | (rw [if_neg (by decide +kernel)]; exact ⟨rfl, rfl⟩))
    (fun os started H enc _ => lifted os started H enc)
#print axioms proved
end Go.Proofs.Ytmdkibpieeiadaa.tempSame
