/- The law StoreNil holds: called with whatever list of pairs and text in whatever memory, the Go function returns true and turns nothing that lay before. Conditions: the two listed tables of unicode/utf8 hold what the text lays (the card ties them); none else. -/
import Derived.Test.YtieobkifoehanaaGreatDoorStoreNilA
import Derived.Test.YtieobkifoehanaaGreatDoorAbs35
import Derived.Test.YtieobkifoehanaaGreatDoorCards
import Derived.Test.YtieobkifoehanaaGreatDoorTie
import Derived.WalkKit
import Derived.ProofKit
import Derived.OpenShut
import Derived.LaidMore
import Derived.Lay
import Derived.SevenTiedAt
import Derived.Stop.Joined
namespace Go.Proofs.YtieobkifoehanaaGreatDoor.storeNil
open Go.ChangeShapes Go.WideShapes Go.ChangeAt Go.RowKit Go Go.Abs
set_option linter.unusedVariables false

set_option maxRecDepth 100000 in
theorem livesRun : isTrue ((evN Tryz.prog sums 300).call 66 [] { tr := .nil, nx := 0 }) = true := by rw [← fN_eq]; kernel_rfl

noncomputable def sums1 : Sums := fun f args h => cond (Nat.beq f 66) (match args with | [] => some (.bool true, h) | _ => none) none

theorem sums1_ok : SumsOK Tryz.prog sums1 := by
  intro K ρ h w f args cargs v h' hR hv hs
  unfold sums1 at hs
  rw [nat_beq_dec] at hs
  by_cases h8 : f = 66
  · subst h8
    simp only [decide_true, cond_true] at hs
    split at hs
    · cases hs
      cases hc : (evN Tryz.prog sums 300).call 66 [] { tr := .nil, nx := 0 } with
      | none => have := livesRun; rw [hc] at this; cases this
      | some r =>
        obtain ⟨u, h0⟩ := r
        have ht := livesRun
        rw [hc] at ht
        have hu : u = .bool true := by
          cases u <;> first | (cases ht; done) | skip
          rename_i b
          cases b
          · cases ht
          · rfl
        subst hu
        exact sumClosed_ok sums_ok hc (fun ρ ρ' cv hx => by cases hx; exact .bool _) hR hv
    · cases hs
  · simp only [h8, decide_false, cond_false] at hs
    cases hs

theorem ownKnobs : ownKnob Tryz.prog.godebug = none := by kernel_rfl
theorem laidOut : laidOutB Tryz.prog = true := by kernel_rfl

theorem rows {h : AH} {cs : List AV} {n : Nat} (hcs : cs.length = n * 3) (hel : ∀ i, i < n → Ty Tryz.prog h 98 ((cs.drop (i * 3)).take 3)) : (∀ i, i < n → Row3 cs i) ∧ cs.all oneA = true := by
  have hb : ∀ s : ByteArray, (bytesOf s).length = s.size := fun s => by simp [bytesOf]
  have c2 : Tryz.prog.cellsOf 9 = 1 := by kernel_rfl
  have c3 : Tryz.prog.cellsOf 4 = 1 := by kernel_rfl
  have hr : ∀ i, i < n → Row3 cs i := fun i hi => by
    obtain ⟨hl, hf⟩ := (hel i hi).struct_inv Tryz.underlying98
    have g0 : i * 3 + 2 < cs.length := by omega
    have e : (cs.drop (i * 3)).take 3 = [cs[i * 3], cs[i * 3 + 1], cs[i * 3 + 2]] := by
      rw [List.drop_eq_getElem_cons (by omega), List.drop_eq_getElem_cons (by omega), List.drop_eq_getElem_cons (by omega)]
      rfl
    rw [e] at hf
    have f0 := hf _ (List.mem_cons_self ..)
    have f1 := hf _ (List.mem_cons_of_mem _ (List.mem_cons_self ..))
    have f2 := hf _ (List.mem_cons_of_mem _ (List.mem_cons_of_mem _ (List.mem_cons_self ..)))
    simp only [c2, c3, List.drop_zero, List.drop_succ_cons, List.take_succ_cons, List.take_zero] at f0 f1 f2
    obtain ⟨p, e0, hp⟩ := f0.str_inv Tryz.underlying9
    obtain ⟨q, e1, hq⟩ := f1.str_inv Tryz.underlying9
    obtain ⟨b, e2⟩ := f2.bool_inv Tryz.underlying4
    injection e0 with e0 _
    injection e1 with e1 _
    injection e2 with e2 _
    exact ⟨_, _, b, by rw [List.getElem?_eq_getElem (by omega), e0], by rw [List.getElem?_eq_getElem (by omega), e1], by rw [List.getElem?_eq_getElem g0, e2], by rw [hb]; exact hp, by rw [hb]; exact hq⟩
  refine ⟨hr, ?_⟩
  rw [List.all_eq_true]
  intro c hc
  obtain ⟨j, hj, rfl⟩ := List.mem_iff_getElem.1 hc
  obtain ⟨k, v, g, a0, a1, a2, _, _⟩ := hr (j / 3) (by omega)
  have hj3 : j = j / 3 * 3 ∨ j = j / 3 * 3 + 1 ∨ j = j / 3 * 3 + 2 := by omega
  rcases hj3 with h3 | h3 | h3
  · rw [← h3, List.getElem?_eq_getElem hj] at a0; rw [Option.some.inj a0]; rfl
  · rw [← h3, List.getElem?_eq_getElem hj] at a1; rw [Option.some.inj a1]; rfl
  · rw [← h3, List.getElem?_eq_getElem hj] at a2; rw [Option.some.inj a2]; rfl

set_option maxRecDepth 100000 in
theorem walk {H : Type} {enc : TypeId × Value → H} {W : World} {s : ByteArray} {a : Option Addr} {len cap : Nat} {d d' : DataW H} {ps ps' : List MemPlace} (hd : ∃ (b : Nat) (c : Array Value) (e : TypeId) (fr : Nat × Nat), W.heap[b]? = some (Obj.cells c e fr))
    (hv : DataW.Trod enc Tryz.prog W 0 (fun _ => true) true 99 (.slice a len cap) d ps) (hv' : DataW.Trod enc Tryz.prog W 0 (fun _ => true) true 9 (.string s) d' ps') : Calls Tryz.prog 16 #[.slice a len cap, .string s] W fun e w' => e = .returned (.bool true) ∧ Below W.heap.size W w' := by
  obtain ⟨ρ, h, avs, g⟩ := got_arg (k := 8) hd (by kernel_rfl) hv' (rel_empty W)
  obtain ⟨ρ', h', avs', g'⟩ := got_arg (k := 8) hd (by kernel_rfl) hv g.rel
  have hlt := rel_lt g'.rel
  obtain ⟨p, rfl, hp⟩ := g.ty.str_inv Tryz.underlying9
  have hb : ∀ s : ByteArray, (bytesOf s).length = s.size := fun s => by simp [bytesOf]
  have c98 : Tryz.prog.cellsOf 98 = 3 := by kernel_rfl
  have key : ∃ x cs n, avs' = [x] ∧ Sl3 h' x cs n ∧ cs.all oneA = true ∧ (∀ i, i < n → Row3 cs i) ∧ n ≤ maxLen ∧ cs.length = n * 3 ∧ oneA x = true := by
    rcases g'.ty.slice_inv Tryz.underlying99 with rfl | ⟨id, n, cs, rfl, hg, hl, hcs, hel⟩
    · exact ⟨_, [], 0, rfl, .inl ⟨rfl, rfl, rfl⟩, rfl, fun i hi => by omega, Nat.zero_le _, rfl, rfl⟩
    · rw [c98] at hcs hel
      obtain ⟨hr, ha⟩ := rows hcs hel
      exact ⟨_, cs, n, rfl, .inr ⟨id, by rw [c98], hg, hlt _ _ hg⟩, ha, hr, hl, hcs, rfl⟩
  obtain ⟨x, cs, n, rfl, hx, ha, hr, hl, hcs, ho⟩ := key
  refine walk_of_run sums1_ok bd16 g'.rel (avs := [x, .str (bytesOf p)]) (.cons (by cases g'.vr with | cons h _ => exact h) (.cons (VR.mono g'.ext.le (by cases g.vr with | cons h _ => exact h)) .nil)) ?_
  exact law (fun f args h hne => by unfold sums1; rw [nat_beq_dec]; simp [hne]) (fun h => rfl) hx ha hr (by rw [hb]; exact hp) hl hcs ho

abbrev laid : List (String × DataW Unit) := Rows.storeNilRow.laid

set_option maxRecDepth 100000 in
set_option maxHeartbeats 10000000 in
theorem lifted (os : Os) (started : os.Started) (H : Type) (enc : TypeId × Value → H) :
    ReturnsInHanded {} Tryz.checked os 16 .any (fun w args => (Rows.storeNilSpec.pre enc Tryz.prog Tryz.f16 Rows.storeNilRow.domain false w args ∧ laidMetH Tryz.prog laid w) ∧ sizedMet enc Tryz.prog Tryz.f16 (OpenSpec.ofChange Rows.storeNilSpec) false w args)
      (Rows.storeNilSpec.post enc Tryz.prog Tryz.f16 false true false false) := by
  refine returnsInHanded_of_change_and (C := Tryz.checked) (X := fun w _ => laidMetH Tryz.prog laid w) (fun _ _ _ hh h => h.of_heap hh) ownKnobs started (by kernel_rfl) Tryz.func16
    (ChangeSpec.witness_shaped (enc := enc) (C := Tryz.checked) (os := os) (X := fun w _ => laidMetH Tryz.prog laid w) false (World.laidAll Tryz.prog os laid) #[.slice none 0 0, .string ⟨#[]⟩] 8 (World.laidAll_os _ _ _)
      (World.shaped_of_ZipB (by kernel_rfl) (by kernel_rfl)) (by kernel_rfl) (by kernel_rfl) (by kernel_rfl)
      (by rw [MakeChecks.laidMetH_plain _ _ _ (by kernel_rfl)]; exact laidMet_laidAll _ (by kernel_rfl) (by kernel_rfl))) ?_
  intro W base args ds gs before hval0 hW hc _ hL _
  have hW' := hW
  obtain ⟨p, q, hA0, hV, rfl, _, _⟩ := hW
  have hA : DataW.TrodAll enc Tryz.prog W 0 (fun _ => true) true Tryz.f16.params.toList args.toList ds p := hA0
  have hval : ∀ (j : Nat) t v, Tryz.f16.params[j]? = some t → args[j]? = some v → Value.okWide Tryz.prog W .any base t v := hval0
  rw [Tryz.params16] at hA
  obtain ⟨v, v', d, d', p1, p2, rfl, rfl, rfl, hv, hv'⟩ := trodAll_two hA
  obtain ⟨a, len, cap, rfl⟩ := okWide_slice Tryz.underlying99 (hval 0 99 _ rfl rfl)
  obtain ⟨s, rfl⟩ := okWide_string Tryz.underlying9 (hval 1 9 _ rfl rfl)
  obtain ⟨rfl, rfl⟩ := trodVars_none hV
  simp only [List.append_nil] at hW'
  have hd := cells_of_laid _ _ _ hL (by kernel_rfl) rfl
  refine (walk hd hv hv').mono fun e W' ⟨he, bel⟩ => ?_
  subst he
  exact ⟨_, rfl, _, _, _, [], _, [], hW', trodAll_mk1 (shut_bool Tryz.underlying4 _), trodAll_mk2 (trod_below laidOut (by kernel_rfl) (of_decide_eq_true (by kernel_rfl)) hv bel) (trod_below laidOut (by kernel_rfl) (of_decide_eq_true (by kernel_rfl)) hv' bel), rfl, bel.frame _, fun h => by cases h⟩

theorem both {a b : Bool} (ha : a = true) (hb : b = true) : (a && b) = true := by rw [ha, hb]; rfl

set_option maxRecDepth 100000 in
set_option maxHeartbeats 10000000 in
theorem closed : joinedFacts Tryz.prog 16 Tryz.f16 Rows.storeNilSpec Rows.storeNilRow = true := by
  unfold joinedFacts
  repeat' (with_reducible refine both ?_ ?_)
  all_goals (as_aux_lemma => kernel_rfl)

set_option maxRecDepth 100000 in
set_option maxHeartbeats 10000000 in
theorem holds : Rows.StoreNilSaid :=
  OpenClaim.holds_of_wide 16 Tryz.f16 rfl rfl rfl rfl rfl rfl rfl ⟨rfl, rfl, rfl, rfl, rfl⟩ rfl rfl rfl rfl rfl (by as_aux_lemma => kernel_rfl) Tryz.func16
    closed
    (of_decide_eq_true (by as_aux_lemma => kernel_rfl)) (by unfold Func.isWrapper; first | (rw [if_pos (by decide +kernel)]; kernel_rfl) | (rw [if_neg (by decide +kernel)]; exact ⟨rfl, rfl⟩))
    (fun os started H enc _ => lifted os started H enc)

set_option maxRecDepth 100000 in
set_option maxHeartbeats 10000000 in
theorem proved : Rows.StoreNilCardSaid :=
  Claim7.holds_tied_plain_at .later [] [.data, .pinned] true (true, "16dec8af794787b75041ab5bd40b1d1646dbbd620adaf5c6abd91234cac1a87d") true holds (fun _ h => by cases h) (by as_aux_lemma => kernel_rfl) (fun _ h => by cases h) storeNil_row_tie rfl ⟨rfl, rfl⟩ (by as_aux_lemma => kernel_rfl) rfl
    (fun f fn hf hfn => by
      obtain rfl : f = 16 := Option.some.inj ((show Tryz.prog.funcNamed "packtrain/packtrainlaw07.StoreNil" = some 16 by as_aux_lemma => kernel_rfl).symm.trans hf) |>.symm
      obtain rfl : fn = Tryz.f16 := (Option.some.inj (Tryz.func16.symm.trans hfn)).symm
      refine ⟨by as_aux_lemma => kernel_rfl, fun j t ht => ?_⟩
      rw [Tryz.params16] at ht
      match j with
      | 0 =>
        obtain rfl : t = 99 := by simpa using ht.symm
        show Tryz.prog.wantsStandIn 99 = false
        kernel_rfl
      | 1 =>
        obtain rfl : t = 9 := by simpa using ht.symm
        show Tryz.prog.wantsStandIn 9 = false
        kernel_rfl
      | j + 2 => simp at ht)
    (by as_aux_lemma => kernel_rfl)
#print axioms proved
end Go.Proofs.YtieobkifoehanaaGreatDoor.storeNil
