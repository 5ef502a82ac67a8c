/- The law TreeFuse holds: called with whatever arguments in whatever memory, the Go function returns true and turns nothing that lay before. Conditions: the two listed tables of unicode/utf8 hold what the text lays (the card ties them); none else. -/
import Derived.Test.YtjcidnbgbdibaaaDoorTFc
import Derived.Test.YtjcidnbgbdibaaaDoorTLb
import Derived.Test.YtjcidnbgbdibaaaDoorSeat
import Derived.Test.YtjcidnbgbdibaaaDoorCards
import Derived.Test.YtjcidnbgbdibaaaDoorTie
import Derived.WalkKit
import Derived.ProofKit
import Derived.OpenShut
import Derived.LaidMore
import Derived.Lay
import Derived.SevenTiedAt
import Derived.Stop.Joined
namespace Go.Proofs.YtjcidnbgbdibaaaDoor.treeFuse
open Go.ChangeShapes Go.WideShapes Go.ChangeAt Go.RowKit Go Go.Abs Go.Proofs.YtjcidnbgbdibaaaDoor.tre
set_option linter.unusedVariables false

set_option maxRecDepth 100000 in
theorem livesRun : isTrue ((evN Tryd.prog sums 300).call 6 [] { tr := .nil, nx := 0 }) = true := by rw [← fN_eq]; kernel_rfl

noncomputable def sumsL : Sums := fun f args h => cond (Nat.beq f 6) (match args with | [] => some (.bool true, h) | _ => none) (sums f args h)

theorem sumsL_ok : SumsOK Tryd.prog sumsL := by
  intro K ρ h w f args cargs v h' hR hv hs
  unfold sumsL at hs
  rw [nat_beq_dec] at hs
  by_cases h8 : f = 6
  · subst h8
    simp only [decide_true, cond_true] at hs
    split at hs
    · cases hs
      obtain ⟨h0, hc⟩ := isTrue_eq livesRun
      exact sumClosed_ok sums_ok hc (fun ρ ρ' cv hx => by cases hx; exact .bool _) hR hv
    · cases hs
  · simp only [h8, decide_false, cond_false] at hs
    exact sums_ok K ρ h w f args cargs v h' hR hv hs
theorem sumsL_lives (h : AH) : sumsL 6 [] h = some (.bool true, h) := rfl
theorem sumsL_none (f : FuncId) (args : List AV) (h : AH) (hf : f ∉ ([6, 95, 102, 52, 38, 49] : List Nat)) : sumsL f args h = none := by
  simp only [List.mem_cons, not_or, List.not_mem_nil, not_false_eq_true, and_true] at hf
  obtain ⟨h1, h2, h3, h4, h5, h6⟩ := hf
  simp only [sumsL, sums, nbeq, h1, h2, h3, h4, h5, h6, decide_false, cond_false]
theorem nin {l m : List Nat} (hd : ∀ x ∈ l, x ∉ m) {f : Nat} (hf : f ∈ l) : f ∉ m := hd f hf
theorem sumsL_st : St sumsL where
  nu f args h hf := sumsL_none f args h (nin (by decide) hf)
  cnt args h := rfl
  idx args h := rfl
  nt f args h hf := sumsL_none f args h (nin (by decide) hf)
  used args h := rfl
  clone args h := rfl
  sorted args h := rfl
theorem ownKnobs : ownKnob Tryd.prog.godebug = none := by kernel_rfl
theorem laidOut : laidOutB Tryd.prog = true := by kernel_rfl

theorem notst {f : FuncId} {args : List AV} {h : AH} (hf : f ∈ ([4, 5, 16, 18, 19, 20] : List Nat)) : sumsL f args h = none := sumsL_none f args h (nin (by decide) hf)
theorem sumsL_cl : Cl sumsL := { sumsL_st with nc := fun f args h hf => sumsL_none f args h (nin (by decide) hf) }
theorem sumsL_pa : Pa sumsL := { sumsL_cl with np := fun f args h hf => sumsL_none f args h (nin (by decide) hf) }
theorem c3 : Tryd.prog.cellsOf 3 = 1 := by kernel_rfl
theorem c9 : Tryd.prog.cellsOf 9 = 1 := by kernel_rfl
theorem c22 : Tryd.prog.cellsOf 22 = 1 := by kernel_rfl
theorem c23 : Tryd.prog.cellsOf 23 = 1 := by kernel_rfl
theorem c44 : Tryd.prog.cellsOf 44 = 6 := by kernel_rfl
theorem c5 : Tryd.prog.cellsOf 5 = 1 := by kernel_rfl
set_option maxRecDepth 100000 in
theorem ty_act {h : AH} {avs : List AV} (hx : Ty Tryd.prog h 44 avs) (hlt : ∀ id o, h.get id = some o → id < h.nx) : ∃ a : Ac, AcOK (fun _ => 0) h a ∧ avs = a.cells := by
  obtain ⟨hl, hf⟩ := hx.struct_inv Tryd.underlying44
  have hl6 : avs.length = 6 := hl.trans c44
  match avs, hl6 with
  | [a0, a1, a2, a3, a4, a5], _ =>
    have f0 := hf _ (List.mem_cons_self ..)
    have f1 := hf _ (List.mem_cons_of_mem _ (List.mem_cons_self ..))
    have f2 := hf _ (List.mem_cons_of_mem _ (List.mem_cons_of_mem _ (List.mem_cons_self ..)))
    have f3 := hf _ (List.mem_cons_of_mem _ (List.mem_cons_of_mem _ (List.mem_cons_of_mem _ (List.mem_cons_self ..))))
    have f4 := hf _ (List.mem_cons_of_mem _ (List.mem_cons_of_mem _ (List.mem_cons_of_mem _ (List.mem_cons_of_mem _ (List.mem_cons_self ..)))))
    have f5 := hf _ (List.mem_cons_of_mem _ (List.mem_cons_of_mem _ (List.mem_cons_of_mem _ (List.mem_cons_of_mem _ (List.mem_cons_of_mem _ (List.mem_cons_self ..))))))
    simp only [c3, c9, c22, c23, List.drop_zero, List.drop_succ_cons, List.take_succ_cons, List.take_zero] at f0 f1 f2 f3 f4 f5
    obtain ⟨k, e0, _⟩ := f0.int_inv Tryd.underlying3
    obtain ⟨p, e1, hp⟩ := f1.str_inv Tryd.underlying9
    obtain ⟨q, e2, hq⟩ := f2.str_inv Tryd.underlying9
    obtain ⟨x, cx, e3, hxs, hxa, hxl, hxe⟩ := f3.sl1 Tryd.underlying22 c5 (fun fs hh => by rw [Tryd.underlying5] at hh; cases hh) (fun n e hh => by rw [Tryd.underlying5] at hh; cases hh) hlt
    obtain ⟨n, e4, hn⟩ := f4.int_inv Tryd.underlying3
    obtain ⟨y, cy, e5, hy, hya, hyl, hye⟩ := f5.sl1 Tryd.underlying23 c3 (fun fs hh => by rw [Tryd.underlying3] at hh; cases hh) (fun n e hh => by rw [Tryd.underlying3] at hh; cases hh) hlt
    cases e0; cases e1; cases e2; cases e3; cases e4; cases e5
    obtain ⟨l, rfl, hb, hbl, _⟩ := hxs.bs hxe Tryd.underlying5
    obtain ⟨ps, hps, _⟩ := Sl1.iv hy hye Tryd.underlying3
    exact ⟨⟨k, bytesOf p, bytesOf q, _, l, n, _, ps⟩, ⟨Bz.of hb (Fr.refl _) (fun _ _ => rfl), hbl, hps, hn.2⟩, rfl⟩
set_option maxRecDepth 100000 in
theorem ty_acts {h : AH} {avs : List AV} (hx : Ty Tryd.prog h 40 avs) (hlt : ∀ id o, h.get id = some o → id < h.nx) : ∃ v L, avs = [v] ∧ Acs (fun _ => 0) h v L := by
  rcases hx.slice_inv Tryd.underlying40 with rfl | ⟨id, len, cs, rfl, hg, hl, hcs, hel⟩
  · exact ⟨_, [], rfl, fun a ha => by simp at ha, .inl ⟨rfl, rfl⟩⟩
  · rw [c44] at hcs hel ⊢
    have key : ∀ i, ∃ a : Ac, i < len → AcOK (fun _ => 0) h a ∧ (cs.drop (i * 6)).take 6 = a.cells := fun i => by
      by_cases hi : i < len
      · obtain ⟨a, h1, h2⟩ := ty_act (hel i hi) hlt
        exact ⟨a, fun _ => ⟨h1, h2⟩⟩
      · exact ⟨⟨0, [], [], .nilsl, [], 0, .nilsl, []⟩, fun hh => absurd hh hi⟩
    obtain ⟨F, hF⟩ := Classical.axiomOfChoice key
    refine ⟨_, (List.range len).map F, rfl, fun a ha => ?_, .inr ⟨id, cs, false, false, by simp, hg, hlt _ _ hg, rfl, fun i a hi => ?_⟩⟩
    · obtain ⟨i, hi, rfl⟩ := List.mem_map.1 ha
      exact (hF i (List.mem_range.1 hi)).1
    · rw [List.getElem?_map] at hi
      cases hr : (List.range len)[i]? with
      | none => rw [hr] at hi; cases hi
      | some j =>
        rw [hr] at hi
        obtain ⟨h1, h2⟩ := List.getElem?_eq_some_iff.1 hr
        simp at h1 h2
        subst h2
        cases hi
        exact ⟨by omega, (hF i h1).2⟩
set_option maxRecDepth 100000 in
theorem walk {H : Type} {enc : TypeId × Value → H} {W : World} {a0 : Option Addr} {n0 c0 : Nat} {x : Int} {d0 : DataW H} {p0 : List MemPlace} (hd : ∃ (b : Nat) (c : Array Value) (e : TypeId) (fr : Nat × Nat), W.heap[b]? = some (Obj.cells c e fr))
    (hv0 : DataW.Trod enc Tryd.prog W 0 (fun _ => true) true 40 (.slice a0 n0 c0) d0 p0) :
    Calls Tryd.prog 5 #[.slice a0 n0 c0, .int .i64 x] W fun e w' => e = .returned (.bool true) ∧ Below W.heap.size W w' := by
  obtain ⟨ρ0, h0, s0, g0⟩ := got_arg (k := 8) hd (by kernel_rfl) hv0 (rel_empty W)
  obtain ⟨v, L, rfl, hA⟩ := ty_acts g0.ty (rel_lt g0.rel)
  have r0 : VR ρ0 v (.slice a0 n0 c0) := by cases g0.vr with | cons h _ => exact h
  exact walk_of_run sumsL_ok (by kernel_rfl) g0.rel (avs := [v, .int .i64 x]) (.cons r0 (.cons (.int _ _) .nil))
    (fuse5 sumsL_pa (fun args h => notst (by simp)) sumsL_lives hA)


abbrev laid : List (String × DataW Unit) := Rows.treeFuseRow.laid

set_option maxRecDepth 100000 in
set_option maxHeartbeats 10000000 in
theorem lifted (os : Os) (started : os.Started) (H : Type) (enc : TypeId × Value → H) :
    ReturnsInHanded {} Tryd.checked os 5 .any (fun w args => (Rows.treeFuseSpec.pre enc Tryd.prog Tryd.f5 Rows.treeFuseRow.domain false w args ∧ laidMetH Tryd.prog laid w) ∧ sizedMet enc Tryd.prog Tryd.f5 (OpenSpec.ofChange Rows.treeFuseSpec) false w args)
      (Rows.treeFuseSpec.post enc Tryd.prog Tryd.f5 false true false false) := by
  refine returnsInHanded_of_change_and (C := Tryd.checked) (X := fun w _ => laidMetH Tryd.prog laid w) (fun _ _ _ hh h => h.of_heap hh) ownKnobs started (by kernel_rfl) Tryd.func5
    (ChangeSpec.witness_shaped (enc := enc) (C := Tryd.checked) (os := os) (X := fun w _ => laidMetH Tryd.prog laid w) false (World.laidAll Tryd.prog os laid) #[.slice none 0 0, .int .i64 0] 8 (World.laidAll_os _ _ _)
      (World.shaped_of_ZipB (by kernel_rfl) (by kernel_rfl)) (by kernel_rfl) (by kernel_rfl) (by kernel_rfl)
      (by rw [MakeChecks.laidMetH_plain _ _ _ (by kernel_rfl)]; exact laidMet_laidAll _ (by kernel_rfl) (by kernel_rfl))) ?_
  intro W base args ds gs before hval0 hW hc _ hL _
  have hW' := hW
  obtain ⟨p, q, hA0, hV, rfl, _, _⟩ := hW
  have hA : DataW.TrodAll enc Tryd.prog W 0 (fun _ => true) true Tryd.f5.params.toList args.toList ds p := hA0
  have hval : ∀ (j : Nat) t v, Tryd.f5.params[j]? = some t → args[j]? = some v → Value.okWide Tryd.prog W .any base t v := hval0
  rw [Tryd.params5] at hA
  obtain ⟨v0, v1, d0, d1, p0, p1, rfl, rfl, rfl, hv0, hv1⟩ := trodAll_two hA
  obtain ⟨a0, n0, c0, rfl⟩ := okWide_slice Tryd.underlying40 (hval 0 40 _ rfl rfl)
  obtain ⟨x, rfl⟩ := okWide_int (k := .i64) Tryd.underlying3 (hval 1 3 _ rfl rfl)
  obtain ⟨rfl, rfl⟩ := trodVars_none hV
  simp only [List.append_nil] at hW'
  have hd := cells_of_laid _ _ _ hL (by kernel_rfl) rfl
  refine (walk hd hv0).mono fun e W' ⟨he, bel⟩ => ?_
  subst he
  exact ⟨_, rfl, _, _, _, [], _, [], hW', trodAll_mk1 (shut_bool Tryd.underlying4 _), trodAll_mk2 (trod_below laidOut (by kernel_rfl) (of_decide_eq_true (by kernel_rfl)) hv0 bel) (trod_below laidOut (by kernel_rfl) (of_decide_eq_true (by kernel_rfl)) hv1 bel), rfl, bel.frame _, fun h => by cases h⟩

theorem both {a b : Bool} (ha : a = true) (hb : b = true) : (a && b) = true := by rw [ha, hb]; rfl

set_option maxRecDepth 100000 in
set_option maxHeartbeats 10000000 in
theorem closed : joinedFacts Tryd.prog 5 Tryd.f5 Rows.treeFuseSpec Rows.treeFuseRow = true := by
  unfold joinedFacts
  repeat' (with_reducible refine both ?_ ?_)
  all_goals (as_aux_lemma => kernel_rfl)

set_option maxRecDepth 100000 in
set_option maxHeartbeats 10000000 in
theorem holds : Rows.TreeFuseSaid :=
  OpenClaim.holds_of_wide 5 Tryd.f5 rfl rfl rfl rfl rfl rfl rfl ⟨rfl, rfl, rfl, rfl, rfl⟩ rfl rfl rfl rfl rfl (by as_aux_lemma => kernel_rfl) Tryd.func5
    closed
    (of_decide_eq_true (by as_aux_lemma => kernel_rfl)) (by unfold Func.isWrapper; first | (rw [if_pos (by decide +kernel)]; kernel_rfl) | (rw [if_neg (by decide +kernel)]; exact ⟨rfl, rfl⟩))
    (fun os started H enc _ => lifted os started H enc)

set_option maxRecDepth 100000 in
set_option maxHeartbeats 10000000 in
theorem proved : Rows.TreeFuseCardSaid :=
  Claim7.holds_tied_plain_at .later [] [.data, .pinned] true (true, "fb8e0f6da6493ccaffd43b9f13f2eb46b05b7b9a4565b40c1df1ab12601fd0d7") true holds (fun _ h => by cases h) (by as_aux_lemma => kernel_rfl) (fun _ h => by cases h) treeFuse_row_tie rfl ⟨rfl, rfl⟩ (by as_aux_lemma => kernel_rfl) rfl
    (fun f fn hf hfn => by
      obtain rfl : f = 5 := Option.some.inj ((show Tryd.prog.funcNamed "packtrain/packtrainlaw04.TreeFuse" = some 5 by as_aux_lemma => kernel_rfl).symm.trans hf) |>.symm
      obtain rfl : fn = Tryd.f5 := (Option.some.inj (Tryd.func5.symm.trans hfn)).symm
      refine ⟨by as_aux_lemma => kernel_rfl, fun j t ht => ?_⟩
      rw [Tryd.params5] at ht
      match j with
      | 0 =>
        obtain rfl : t = 40 := by simpa using ht.symm
        show Tryd.prog.wantsStandIn 40 = false
        kernel_rfl
      | 1 =>
        obtain rfl : t = 3 := by simpa using ht.symm
        show Tryd.prog.wantsStandIn 3 = false
        kernel_rfl
      | j + 2 => simp at ht)
    (by as_aux_lemma => kernel_rfl)
#print axioms proved
end Go.Proofs.YtjcidnbgbdibaaaDoor.treeFuse
