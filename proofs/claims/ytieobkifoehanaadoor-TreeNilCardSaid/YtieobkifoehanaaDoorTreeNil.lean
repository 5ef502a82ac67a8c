/- The law TreeNil holds: called with whatever act in whatever memory, the Go function returns true and turns nothing that lay before. Conditions: the two listed tables of unicode/utf8 hold what the text lays (the card ties them); none else. -/
import Derived.Test.YtieobkifoehanaaDoorTreeNilC
import Derived.Test.YtieobkifoehanaaDoorAbs35
import Derived.Test.YtieobkifoehanaaDoorCards
import Derived.Test.YtieobkifoehanaaDoorTie
import Derived.WalkKit
import Derived.ProofKit
import Derived.OpenShut
import Derived.LaidMore
import Derived.Lay
import Derived.SevenTiedAt
import Derived.Stop.Joined
namespace Go.Proofs.YtieobkifoehanaaDoor.treeNil
open Go.ChangeShapes Go.WideShapes Go.ChangeAt Go.RowKit Go Go.Abs
set_option linter.unusedVariables false

set_option maxRecDepth 100000 in
theorem livesRun : isTrue ((evN Tryd.prog sums 300).call 8 [] { tr := .nil, nx := 0 }) = true := by rw [← fN_eq]; kernel_rfl

noncomputable def sums1 : Sums := fun f args h => cond (Nat.beq f 8) (match args with | [] => some (.bool true, h) | _ => none) none

theorem sums1_ok : SumsOK Tryd.prog sums1 := by
  intro K ρ h w f args cargs v h' hR hv hs
  unfold sums1 at hs
  rw [nat_beq_dec] at hs
  by_cases h8 : f = 8
  · subst h8
    simp only [decide_true, cond_true] at hs
    split at hs
    · cases hs
      cases hc : (evN Tryd.prog sums 300).call 8 [] { tr := .nil, nx := 0 } with
      | none => have := livesRun; rw [hc] at this; cases this
      | some r =>
        obtain ⟨u, h0⟩ := r
        have ht := livesRun
        rw [hc] at ht
        have hu : u = .bool true := by
          cases u <;> first | (cases ht; done) | skip
          rename_i b
          cases b
          · cases ht
          · rfl
        subst hu
        exact sumClosed_ok sums_ok hc (fun ρ ρ' cv hx => by cases hx; exact .bool _) hR hv
    · cases hs
  · simp only [h8, decide_false, cond_false] at hs
    cases hs

theorem ownKnobs : ownKnob Tryd.prog.godebug = none := by kernel_rfl
theorem laidOut : laidOutB Tryd.prog = true := by kernel_rfl

set_option maxRecDepth 100000 in
theorem walk {H : Type} {enc : TypeId × Value → H} {W : World} {v : Value} {d : DataW H} {ps : List MemPlace} (hd : ∃ (b : Nat) (c : Array Value) (e : TypeId) (fr : Nat × Nat), W.heap[b]? = some (Obj.cells c e fr))
    (hv : DataW.Trod enc Tryd.prog W 0 (fun _ => true) true 48 v d ps) : Calls Tryd.prog 7 #[v] W fun e w' => e = .returned (.bool true) ∧ Below W.heap.size W w' := by
  obtain ⟨ρ, h, avs, g⟩ := got_arg (k := 8) hd (by kernel_rfl) hv (rel_empty W)
  obtain ⟨hl, hf⟩ := g.ty.struct_inv Tryd.underlying48
  have hl6 : avs.length = 6 := hl.trans (by kernel_rfl)
  match avs, hl6 with
  | [a0, a1, a2, a3, a4, a5], _ =>
    have hlt := rel_lt g.rel
    have c1 : Tryd.prog.cellsOf 3 = 1 := by kernel_rfl
    have c2 : Tryd.prog.cellsOf 9 = 1 := by kernel_rfl
    have c3 : Tryd.prog.cellsOf 22 = 1 := by kernel_rfl
    have c4 : Tryd.prog.cellsOf 23 = 1 := by kernel_rfl
    have f0 := hf _ (List.mem_cons_self ..)
    have f1 := hf _ (List.mem_cons_of_mem _ (List.mem_cons_self ..))
    have f2 := hf _ (List.mem_cons_of_mem _ (List.mem_cons_of_mem _ (List.mem_cons_self ..)))
    have f3 := hf _ (List.mem_cons_of_mem _ (List.mem_cons_of_mem _ (List.mem_cons_of_mem _ (List.mem_cons_self ..))))
    have f4 := hf _ (List.mem_cons_of_mem _ (List.mem_cons_of_mem _ (List.mem_cons_of_mem _ (List.mem_cons_of_mem _ (List.mem_cons_self ..)))))
    have f5 := hf _ (List.mem_cons_of_mem _ (List.mem_cons_of_mem _ (List.mem_cons_of_mem _ (List.mem_cons_of_mem _ (List.mem_cons_of_mem _ (List.mem_cons_self ..))))))
    simp only [c1, c2, c3, c4, List.drop_zero, List.drop_succ_cons, List.take_succ_cons, List.take_zero] at f0 f1 f2 f3 f4 f5
    obtain ⟨k, e0, _⟩ := f0.int_inv Tryd.underlying3
    obtain ⟨p, e1, hp⟩ := f1.str_inv Tryd.underlying9
    obtain ⟨q, e2, hq⟩ := f2.str_inv Tryd.underlying9
    obtain ⟨x, cx, e3, hx, hxa, hxl, _⟩ := f3.sl1 Tryd.underlying22 (by kernel_rfl) (fun fs hh => by rw [Tryd.underlying5] at hh; cases hh) (fun n e hh => by rw [Tryd.underlying5] at hh; cases hh) hlt
    obtain ⟨n, e4, _⟩ := f4.int_inv Tryd.underlying3
    obtain ⟨y, cy, e5, hy, hya, hyl, _⟩ := f5.sl1 Tryd.underlying23 (by kernel_rfl) (fun fs hh => by rw [Tryd.underlying3] at hh; cases hh) (fun n e hh => by rw [Tryd.underlying3] at hh; cases hh) hlt
    cases e0; cases e1; cases e2; cases e3; cases e4; cases e5
    have ho : ∀ {z : AV} {cz : List AV}, Sl1 h z cz → oneA z = true := fun hz => by rcases hz with ⟨rfl, _⟩ | ⟨id, rfl, _⟩ <;> rfl
    have hb : ∀ s : ByteArray, (bytesOf s).length = s.size := fun s => by simp [bytesOf]
    refine walk_of_run sums1_ok bd7 g.rel (avs := [.agg _]) (.cons (vr_agg g.vr (by simp)) .nil) ?_
    exact law (fun f args h hne => by unfold sums1; rw [nat_beq_dec]; simp [hne]) (fun h => rfl) hx hy hxa hya (by rw [hb]; exact hp) (by rw [hb]; exact hq) hxl hyl (ho hx) (ho hy)

abbrev laid : List (String × DataW Unit) := Rows.treeNilRow.laid

set_option maxRecDepth 100000 in
set_option maxHeartbeats 10000000 in
theorem lifted (os : Os) (started : os.Started) (H : Type) (enc : TypeId × Value → H) :
    ReturnsInHanded {} Tryd.checked os 7 .any (fun w args => (Rows.treeNilSpec.pre enc Tryd.prog Tryd.f7 Rows.treeNilRow.domain false w args ∧ laidMetH Tryd.prog laid w) ∧ sizedMet enc Tryd.prog Tryd.f7 (OpenSpec.ofChange Rows.treeNilSpec) false w args)
      (Rows.treeNilSpec.post enc Tryd.prog Tryd.f7 false true false false) := by
  refine returnsInHanded_of_change_and (C := Tryd.checked) (X := fun w _ => laidMetH Tryd.prog laid w) (fun _ _ _ hh h => h.of_heap hh) ownKnobs started (by kernel_rfl) Tryd.func7
    (ChangeSpec.witness_shaped (enc := enc) (C := Tryd.checked) (os := os) (X := fun w _ => laidMetH Tryd.prog laid w) false (World.laidAll Tryd.prog os laid) #[.agg #[.int .i64 0, .string ⟨#[]⟩, .string ⟨#[]⟩, .slice none 0 0, .int .i64 0, .slice none 0 0]] 8 (World.laidAll_os _ _ _)
      (World.shaped_of_ZipB (by kernel_rfl) (by kernel_rfl)) (by kernel_rfl) (by kernel_rfl) (by kernel_rfl)
      (by rw [MakeChecks.laidMetH_plain _ _ _ (by kernel_rfl)]; exact laidMet_laidAll _ (by kernel_rfl) (by kernel_rfl))) ?_
  intro W base args ds gs before hval0 hW hc _ hL _
  have hW' := hW
  obtain ⟨p, q, hA0, hV, rfl, _, _⟩ := hW
  have hA : DataW.TrodAll enc Tryd.prog W 0 (fun _ => true) true Tryd.f7.params.toList args.toList ds p := hA0
  rw [Tryd.params7] at hA
  obtain ⟨v, d, rfl, rfl, hv⟩ := trodAll_one hA
  obtain ⟨rfl, rfl⟩ := trodVars_none hV
  simp only [List.append_nil] at hW'
  have hd := cells_of_laid _ _ _ hL (by kernel_rfl) rfl
  refine (walk hd hv).mono fun e W' ⟨he, bel⟩ => ?_
  subst he
  exact ⟨_, rfl, _, _, _, [], _, [], hW', trodAll_mk1 (shut_bool Tryd.underlying4 _), trodAll_mk1 (trod_below laidOut (by kernel_rfl) (of_decide_eq_true (by kernel_rfl)) hv bel), rfl, bel.frame _, fun h => by cases h⟩

theorem both {a b : Bool} (ha : a = true) (hb : b = true) : (a && b) = true := by rw [ha, hb]; rfl

set_option maxRecDepth 100000 in
set_option maxHeartbeats 10000000 in
theorem closed : joinedFacts Tryd.prog 7 Tryd.f7 Rows.treeNilSpec Rows.treeNilRow = true := by
  unfold joinedFacts
  repeat' (with_reducible refine both ?_ ?_)
  all_goals (as_aux_lemma => kernel_rfl)

set_option maxRecDepth 100000 in
set_option maxHeartbeats 10000000 in
theorem holds : Rows.TreeNilSaid :=
  OpenClaim.holds_of_wide 7 Tryd.f7 rfl rfl rfl rfl rfl rfl rfl ⟨rfl, rfl, rfl, rfl, rfl⟩ rfl rfl rfl rfl rfl (by as_aux_lemma => kernel_rfl) Tryd.func7
    closed
    (of_decide_eq_true (by as_aux_lemma => kernel_rfl)) (by unfold Func.isWrapper; first | (rw [if_pos (by decide +kernel)]; kernel_rfl) | (rw [if_neg (by decide +kernel)]; exact ⟨rfl, rfl⟩))
    (fun os started H enc _ => lifted os started H enc)

set_option maxRecDepth 100000 in
set_option maxHeartbeats 10000000 in
theorem proved : Rows.TreeNilCardSaid :=
  Claim7.holds_tied_plain_at .later [] [.data, .pinned] true (true, "a69408287b757cadc4b17283f92c51fada4409c063c3f740e625cdb153c41513") true holds (fun _ h => by cases h) (by as_aux_lemma => kernel_rfl) (fun _ h => by cases h) treeNil_row_tie rfl ⟨rfl, rfl⟩ (by as_aux_lemma => kernel_rfl) rfl
    (fun f fn hf hfn => by
      obtain rfl : f = 7 := Option.some.inj ((show Tryd.prog.funcNamed "packtrain/packtrainlaw04.TreeNil" = some 7 by as_aux_lemma => kernel_rfl).symm.trans hf) |>.symm
      obtain rfl : fn = Tryd.f7 := (Option.some.inj (Tryd.func7.symm.trans hfn)).symm
      refine ⟨by as_aux_lemma => kernel_rfl, fun j t ht => ?_⟩
      rw [Tryd.params7] at ht
      match j with
      | 0 =>
        obtain rfl : t = 48 := by simpa using ht.symm
        show Tryd.prog.wantsStandIn 48 = false
        kernel_rfl
      | j + 1 => simp at ht)
    (by as_aux_lemma => kernel_rfl)
#print axioms proved
end Go.Proofs.YtieobkifoehanaaDoor.treeNil
