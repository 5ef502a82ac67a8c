/- The law WalNil holds: called with whatever text and list in whatever memory, the Go function returns true and turns nothing that lay before. Conditions: the two listed tables of unicode/utf8 hold what the text lays (the card ties them); none else. -/
import Derived.Test.YtieobkifoehanaaGreatDoorWalNilA
import Derived.Test.YtieobkifoehanaaGreatDoorAbs35
import Derived.Test.YtieobkifoehanaaGreatDoorCards
import Derived.Test.YtieobkifoehanaaGreatDoorTie
import Derived.WalkKit
import Derived.ProofKit
import Derived.OpenShut
import Derived.LaidMore
import Derived.Lay
import Derived.SevenTiedAt
import Derived.Stop.Joined
namespace Go.Proofs.YtieobkifoehanaaGreatDoor.walNil
open Go.ChangeShapes Go.WideShapes Go.ChangeAt Go.RowKit Go Go.Abs
set_option linter.unusedVariables false

set_option maxRecDepth 100000 in
theorem livesRun : isTrue ((evN Tryz.prog sums 300).call 21 [] { tr := .nil, nx := 0 }) = true := by rw [← fN_eq]; kernel_rfl

noncomputable def sums1 : Sums := fun f args h => cond (Nat.beq f 21) (match args with | [] => some (.bool true, h) | _ => none) none

theorem sums1_ok : SumsOK Tryz.prog sums1 := by
  intro K ρ h w f args cargs v h' hR hv hs
  unfold sums1 at hs
  rw [nat_beq_dec] at hs
  by_cases h8 : f = 21
  · subst h8
    simp only [decide_true, cond_true] at hs
    split at hs
    · cases hs
      cases hc : (evN Tryz.prog sums 300).call 21 [] { tr := .nil, nx := 0 } with
      | none => have := livesRun; rw [hc] at this; cases this
      | some r =>
        obtain ⟨u, h0⟩ := r
        have ht := livesRun
        rw [hc] at ht
        have hu : u = .bool true := by
          cases u <;> first | (cases ht; done) | skip
          rename_i b
          cases b
          · cases ht
          · rfl
        subst hu
        exact sumClosed_ok sums_ok hc (fun ρ ρ' cv hx => by cases hx; exact .bool _) hR hv
    · cases hs
  · simp only [h8, decide_false, cond_false] at hs
    cases hs

theorem ownKnobs : ownKnob Tryz.prog.godebug = none := by kernel_rfl
theorem laidOut : laidOutB Tryz.prog = true := by kernel_rfl

set_option maxRecDepth 100000 in
theorem walk {H : Type} {enc : TypeId × Value → H} {W : World} {s : ByteArray} {a : Option Addr} {len cap : Nat} {d d' : DataW H} {ps ps' : List MemPlace} (hd : ∃ (b : Nat) (c : Array Value) (e : TypeId) (fr : Nat × Nat), W.heap[b]? = some (Obj.cells c e fr))
    (hv : DataW.Trod enc Tryz.prog W 0 (fun _ => true) true 9 (.string s) d ps) (hv' : DataW.Trod enc Tryz.prog W 0 (fun _ => true) true 24 (.slice a len cap) d' ps') : Calls Tryz.prog 6 #[.string s, .slice a len cap] W fun e w' => e = .returned (.bool true) ∧ Below W.heap.size W w' := by
  obtain ⟨ρ, h, avs, g⟩ := got_arg (k := 8) hd (by kernel_rfl) hv (rel_empty W)
  obtain ⟨ρ', h', avs', g'⟩ := got_arg (k := 8) hd (by kernel_rfl) hv' g.rel
  have hlt := rel_lt g'.rel
  obtain ⟨p, rfl, hp⟩ := g.ty.str_inv Tryz.underlying9
  obtain ⟨x, cx, rfl, hx, hxa, hxl, hxe⟩ := g'.ty.sl1 Tryz.underlying24 (by kernel_rfl) (fun fs hh => by rw [Tryz.underlying9] at hh; cases hh) (fun n e hh => by rw [Tryz.underlying9] at hh; cases hh) hlt
  have ho : ∀ {z : AV} {cz : List AV}, Sl1 h' z cz → oneA z = true := fun hz => by rcases hz with ⟨rfl, _⟩ | ⟨id, rfl, _⟩ <;> rfl
  have hb : ∀ s : ByteArray, (bytesOf s).length = s.size := fun s => by simp [bytesOf]
  refine walk_of_run sums1_ok bd6 g'.rel (avs := [.str (bytesOf p), x]) (.cons (VR.mono g'.ext.le (by cases g.vr with | cons h _ => exact h)) (.cons (by cases g'.vr with | cons h _ => exact h) .nil)) ?_
  exact law (fun f args h hne => by unfold sums1; rw [nat_beq_dec]; simp [hne]) (fun h => rfl) hx hxa (fun i c hc => by
    obtain ⟨s, e, hs⟩ := (hxe i c hc).str_inv Tryz.underlying9
    cases e
    exact ⟨_, rfl, by rw [hb]; exact hs⟩) (by rw [hb]; exact hp) hxl (ho hx)

abbrev laid : List (String × DataW Unit) := Rows.walNilRow.laid

set_option maxRecDepth 100000 in
set_option maxHeartbeats 10000000 in
theorem lifted (os : Os) (started : os.Started) (H : Type) (enc : TypeId × Value → H) :
    ReturnsInHanded {} Tryz.checked os 6 .any (fun w args => (Rows.walNilSpec.pre enc Tryz.prog Tryz.f6 Rows.walNilRow.domain false w args ∧ laidMetH Tryz.prog laid w) ∧ sizedMet enc Tryz.prog Tryz.f6 (OpenSpec.ofChange Rows.walNilSpec) false w args)
      (Rows.walNilSpec.post enc Tryz.prog Tryz.f6 false true false false) := by
  refine returnsInHanded_of_change_and (C := Tryz.checked) (X := fun w _ => laidMetH Tryz.prog laid w) (fun _ _ _ hh h => h.of_heap hh) ownKnobs started (by kernel_rfl) Tryz.func6
    (ChangeSpec.witness_shaped (enc := enc) (C := Tryz.checked) (os := os) (X := fun w _ => laidMetH Tryz.prog laid w) false (World.laidAll Tryz.prog os laid) #[.string ⟨#[]⟩, .slice none 0 0] 8 (World.laidAll_os _ _ _)
      (World.shaped_of_ZipB (by kernel_rfl) (by kernel_rfl)) (by kernel_rfl) (by kernel_rfl) (by kernel_rfl)
      (by rw [MakeChecks.laidMetH_plain _ _ _ (by kernel_rfl)]; exact laidMet_laidAll _ (by kernel_rfl) (by kernel_rfl))) ?_
  intro W base args ds gs before hval0 hW hc _ hL _
  have hW' := hW
  obtain ⟨p, q, hA0, hV, rfl, _, _⟩ := hW
  have hA : DataW.TrodAll enc Tryz.prog W 0 (fun _ => true) true Tryz.f6.params.toList args.toList ds p := hA0
  have hval : ∀ (j : Nat) t v, Tryz.f6.params[j]? = some t → args[j]? = some v → Value.okWide Tryz.prog W .any base t v := hval0
  rw [Tryz.params6] at hA
  obtain ⟨v, v', d, d', p1, p2, rfl, rfl, rfl, hv, hv'⟩ := trodAll_two hA
  obtain ⟨s, rfl⟩ := okWide_string Tryz.underlying9 (hval 0 9 _ rfl rfl)
  obtain ⟨a, len, cap, rfl⟩ := okWide_slice Tryz.underlying24 (hval 1 24 _ rfl rfl)
  obtain ⟨rfl, rfl⟩ := trodVars_none hV
  simp only [List.append_nil] at hW'
  have hd := cells_of_laid _ _ _ hL (by kernel_rfl) rfl
  refine (walk hd hv hv').mono fun e W' ⟨he, bel⟩ => ?_
  subst he
  exact ⟨_, rfl, _, _, _, [], _, [], hW', trodAll_mk1 (shut_bool Tryz.underlying4 _), trodAll_mk2 (trod_below laidOut (by kernel_rfl) (of_decide_eq_true (by kernel_rfl)) hv bel) (trod_below laidOut (by kernel_rfl) (of_decide_eq_true (by kernel_rfl)) hv' bel), rfl, bel.frame _, fun h => by cases h⟩

theorem both {a b : Bool} (ha : a = true) (hb : b = true) : (a && b) = true := by rw [ha, hb]; rfl

set_option maxRecDepth 100000 in
set_option maxHeartbeats 10000000 in
theorem closed : joinedFacts Tryz.prog 6 Tryz.f6 Rows.walNilSpec Rows.walNilRow = true := by
  unfold joinedFacts
  repeat' (with_reducible refine both ?_ ?_)
  all_goals (as_aux_lemma => kernel_rfl)

set_option maxRecDepth 100000 in
set_option maxHeartbeats 10000000 in
theorem holds : Rows.WalNilSaid :=
  OpenClaim.holds_of_wide 6 Tryz.f6 rfl rfl rfl rfl rfl rfl rfl ⟨rfl, rfl, rfl, rfl, rfl⟩ rfl rfl rfl rfl rfl (by as_aux_lemma => kernel_rfl) Tryz.func6
    closed
    (of_decide_eq_true (by as_aux_lemma => kernel_rfl)) (by unfold Func.isWrapper; first | (rw [if_pos (by decide +kernel)]; kernel_rfl) | (rw [if_neg (by decide +kernel)]; exact ⟨rfl, rfl⟩))
    (fun os started H enc _ => lifted os started H enc)

set_option maxRecDepth 100000 in
set_option maxHeartbeats 10000000 in
theorem proved : Rows.WalNilCardSaid :=
  Claim7.holds_tied_plain_at .later [] [.data, .pinned] true (true, "16dec8af794787b75041ab5bd40b1d1646dbbd620adaf5c6abd91234cac1a87d") true holds (fun _ h => by cases h) (by as_aux_lemma => kernel_rfl) (fun _ h => by cases h) walNil_row_tie rfl ⟨rfl, rfl⟩ (by as_aux_lemma => kernel_rfl) rfl
    (fun f fn hf hfn => by
      obtain rfl : f = 6 := Option.some.inj ((show Tryz.prog.funcNamed "packtrain/packtrainlaw05.WalNil" = some 6 by as_aux_lemma => kernel_rfl).symm.trans hf) |>.symm
      obtain rfl : fn = Tryz.f6 := (Option.some.inj (Tryz.func6.symm.trans hfn)).symm
      refine ⟨by as_aux_lemma => kernel_rfl, fun j t ht => ?_⟩
      rw [Tryz.params6] at ht
      match j with
      | 0 =>
        obtain rfl : t = 9 := by simpa using ht.symm
        show Tryz.prog.wantsStandIn 9 = false
        kernel_rfl
      | 1 =>
        obtain rfl : t = 24 := by simpa using ht.symm
        show Tryz.prog.wantsStandIn 24 = false
        kernel_rfl
      | j + 2 => simp at ht)
    (by as_aux_lemma => kernel_rfl)
#print axioms proved
end Go.Proofs.YtieobkifoehanaaGreatDoor.walNil
