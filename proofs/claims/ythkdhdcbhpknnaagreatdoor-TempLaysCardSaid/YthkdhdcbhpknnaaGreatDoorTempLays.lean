/- The law TempLays holds: called with whatever arguments in whatever memory, the Go function returns true and turns nothing that lay before. Conditions: the two listed tables of unicode/utf8 hold what the text lays (the card ties them); none else. -/
import Derived.Test.YthkdhdcbhpknnaaGreatDoorTZq
import Derived.Test.YthkdhdcbhpknnaaGreatDoorTLb
import Derived.Test.YthkdhdcbhpknnaaGreatDoorSeat
import Derived.Test.YthkdhdcbhpknnaaGreatDoorCards
import Derived.Test.YthkdhdcbhpknnaaGreatDoorTie
import Derived.Test.YthkdhdcbhpknnaaGreatDoorDigC
import Derived.WalkKit
import Derived.ProofKit
import Derived.OpenShut
import Derived.LaidMore
import Derived.Lay
import Derived.SevenTiedAt
import Derived.Stop.Joined
set_option linter.unusedSimpArgs false
namespace Go.Proofs.YthkdhdcbhpknnaaGreatDoor.tempLays
open Go.ChangeShapes Go.WideShapes Go.ChangeAt Go.RowKit Go Go.Abs Go.Proofs.YthkdhdcbhpknnaaGreatDoor.tre
set_option linter.unusedVariables false

theorem livesRun : runsTo Tryz.prog sDig 3000 5 [] { tr := .nil, nx := 0 } (.bool true) = true := by kernel_rfl
noncomputable def sumsL : Sums := orS (sumConst 5 (.bool true)) sums
theorem sumsL_ok : SumsOK Tryz.prog sumsL := orS_ok (sumConst_ok sDig_ok livesRun rfl) sums_ok
theorem sC_no {g : FuncId} {v : AV} {f : FuncId} {args : List AV} {h : AH} (hf : f ≠ g) : sumConst g v f args h = none := by
 unfold sumConst
 rw [nat_beq_dec]
 simp [hf]
theorem sC_yes {g : FuncId} {v : AV} {h : AH} : sumConst g v g [] h = some (v, h) := by
 unfold sumConst
 rw [nat_beq_dec]
 simp
theorem orS_no {a b : Sums} {f : FuncId} {args : List AV} {h : AH} (ha : a f args h = none) : orS a b f args h = b f args h := by
 unfold orS
 rw [ha]
theorem orS_yes {a b : Sums} {f : FuncId} {args : List AV} {h : AH} {r : AV × AH} (ha : a f args h = some r) : orS a b f args h = some r := by
 unfold orS
 rw [ha]
theorem sumsL_base {f : FuncId} {args : List AV} {h : AH} (hf : f ≠ 5) : sumsL f args h = sums f args h := by
 unfold sumsL
 rw [orS_no (sC_no hf)]
theorem sumsL_lives (h : AH) : sumsL 5 [] h = some (.bool true, h) := by
 unfold sumsL
 rw [orS_yes sC_yes]
theorem sumsL_none (f : FuncId) (args : List AV) (h : AH) (hf : f ∉ ([5, 171, 178, 107, 71, 125] : List Nat)) : sumsL f args h = none := by
 simp only [List.mem_cons, not_or, List.not_mem_nil, not_false_eq_true, and_true] at hf
 obtain ⟨h1, h2, h3, h4, h5, h6⟩ := hf
 rw [sumsL_base h1]
 simp only [sums, nbeq, h2, h3, h4, h5, h6, decide_false, cond_false]
theorem nin {l m : List Nat} (hd : ∀ x ∈ l, x ∉ m) {f : Nat} (hf : f ∈ l) : f ∉ m := hd f hf
theorem sumsL_st : St sumsL where
 nu f args h hf := sumsL_none f args h (nin (by decide) hf)
 cnt args h := sumsL_base (by decide)
 idx args h := sumsL_base (by decide)
 nt f args h hf := sumsL_none f args h (nin (by decide) hf)
 used args h := sumsL_base (by decide)
 clone args h := sumsL_base (by decide)
 sorted args h := sumsL_base (by decide)
theorem sumsL_lw : Lw sumsL := { sumsL_st with nx := fun f args h hf => sumsL_none f args h (nin (by decide) hf), np := fun f args h hf => sumsL_none f args h (nin (by decide) hf), ns := fun f args h hf => sumsL_none f args h (nin (by decide) hf), nr := fun f args h hf => sumsL_none f args h (nin (by decide) hf), nd := fun f args h hf => sumsL_none f args h (nin (by decide) hf), nu9 := fun f args h hf => sumsL_none f args h (nin (by decide) hf), nl := fun f args h hf => sumsL_none f args h (nin (by decide) hf) }
theorem ownKnobs : ownKnob Tryz.prog.godebug = none := by kernel_rfl
theorem laidOut : laidOutB Tryz.prog = true := by kernel_rfl

theorem c3 : Tryz.prog.cellsOf 3 = 1 := by kernel_rfl
theorem c9 : Tryz.prog.cellsOf 9 = 1 := by kernel_rfl
theorem c5 : Tryz.prog.cellsOf 5 = 1 := by kernel_rfl
theorem c22 : Tryz.prog.cellsOf 22 = 1 := by kernel_rfl
theorem cLay : Tryz.prog.cellsOf 64 = 4 := by kernel_rfl
set_option maxRecDepth 100000 in
theorem ty_lay {h : AH} {avs : List AV} (hx : Ty Tryz.prog h 64 avs) (hlt : ∀ id o, h.get id = some o → id < h.nx) : ∃ a : Ly, LyOK (fun _ => 0) h a ∧ avs = a.cells := by
 obtain ⟨hl, hf⟩ := hx.struct_inv Tryz.underlying64
 have hl4 : avs.length = 4 := hl.trans cLay
 match avs, hl4 with
 | [a0, a1, a2, a3], _ =>
  have f0 := hf _ (List.mem_cons_self ..)
  have f1 := hf _ (List.mem_cons_of_mem _ (List.mem_cons_self ..))
  have f2 := hf _ (List.mem_cons_of_mem _ (List.mem_cons_of_mem _ (List.mem_cons_self ..)))
  have f3 := hf _ (List.mem_cons_of_mem _ (List.mem_cons_of_mem _ (List.mem_cons_of_mem _ (List.mem_cons_self ..))))
  simp only [c3, c9, c22, List.drop_zero, List.drop_succ_cons, List.take_succ_cons, List.take_zero] at f0 f1 f2 f3
  obtain ⟨k, e0, _⟩ := f0.int_inv Tryz.underlying3
  obtain ⟨p, e1, hp⟩ := f1.str_inv Tryz.underlying9
  obtain ⟨x, cx, e2, hxs, hxa, hxl, hxe⟩ := f2.sl1 Tryz.underlying22 c5 (fun fs hh => by rw [Tryz.underlying5] at hh; cases hh) (fun n e hh => by rw [Tryz.underlying5] at hh; cases hh) hlt
  obtain ⟨n, e3, hn⟩ := f3.int_inv Tryz.underlying3
  cases e0; cases e1; cases e2; cases e3
  obtain ⟨l, rfl, hb, hbl, _⟩ := hxs.bs hxe Tryz.underlying5
  exact ⟨⟨k, bytesOf p, _, l, n⟩, ⟨Bz.of hb (Fr.refl _) (fun _ _ => rfl), hbl⟩, rfl⟩
set_option maxRecDepth 100000 in
theorem ty_lays {h : AH} {avs : List AV} (hx : Ty Tryz.prog h 59 avs) (hlt : ∀ id o, h.get id = some o → id < h.nx) : ∃ v L, avs = [v] ∧ Lys (fun _ => 0) h v L := by
 rcases hx.slice_inv Tryz.underlying59 with rfl | ⟨id, len, cs, rfl, hg, hl, hcs, hel⟩
 ·exact ⟨_, [], rfl, fun a ha => by simp at ha, .inl ⟨rfl, rfl⟩⟩
 ·rw [cLay] at hcs hel ⊢
  have key : ∀ i, ∃ a : Ly, i < len → LyOK (fun _ => 0) h a ∧ (cs.drop (i * 4)).take 4 = a.cells := fun i => by
   by_cases hi : i < len
   ·obtain ⟨a, h1, h2⟩ := ty_lay (hel i hi) hlt
    exact ⟨a, fun _ => ⟨h1, h2⟩⟩
   ·exact ⟨⟨0, [], .nilsl, [], 0⟩, fun hh => absurd hh hi⟩
  obtain ⟨F, hF⟩ := Classical.axiomOfChoice key
  refine ⟨_, (List.range len).map F, rfl, fun a ha => ?_, .inr ⟨id, cs, false, false, by simp, hg, hlt _ _ hg, rfl, fun i a hi => ?_⟩⟩
  ·obtain ⟨i, hi, rfl⟩ := List.mem_map.1 ha
   exact (hF i (List.mem_range.1 hi)).1
  ·rw [List.getElem?_map] at hi
   cases hr : (List.range len)[i]? with
   | none => rw [hr] at hi; cases hi
   | some j =>
    rw [hr] at hi
    obtain ⟨h1, h2⟩ := List.getElem?_eq_some_iff.1 hr
    simp at h1 h2
    subst h2
    cases hi
    exact ⟨by omega, (hF i h1).2⟩
set_option maxRecDepth 100000 in
theorem walk {H : Type} {enc : TypeId × Value → H} {W : World} {a1 : Option Addr} {n1 c1 : Nat} {x : Int} {d1 : DataW H} {p1 : List MemPlace} (hd : ∃ (b : Nat) (c : Array Value) (e : TypeId) (fr : Nat × Nat), W.heap[b]? = some (Obj.cells c e fr))
  (hv1 : DataW.Trod enc Tryz.prog W 0 (fun _ => true) true 59 (.slice a1 n1 c1) d1 p1) :
  Calls Tryz.prog 4 #[.int .i64 x, .slice a1 n1 c1] W fun e w' => e = .returned (.bool true) ∧ Below W.heap.size W w' := by
 obtain ⟨ρ0, h0, s0, g0⟩ := got_arg (k := 8) hd (by kernel_rfl) hv1 (rel_empty W)
 obtain ⟨v, L, rfl, hA⟩ := ty_lays g0.ty (rel_lt g0.rel)
 have r0 : VR ρ0 v (.slice a1 n1 c1) := by cases g0.vr with | cons h _ => exact h
 exact walk_of_run sumsL_ok (by kernel_rfl) g0.rel (avs := [.int .i64 x, v]) (.cons (.int _ _) (.cons r0 .nil))
  (lays4 sumsL_lw sumsL_lives hA)


abbrev laid : List (String × DataW Unit) := Rows.tempLaysRow.laid

set_option maxRecDepth 100000 in
set_option maxHeartbeats 10000000 in
theorem lifted (os : Os) (started : os.Started) (H : Type) (enc : TypeId × Value → H) :
  ReturnsInHanded {} Tryz.checked os 4 .any (fun w args => (Rows.tempLaysSpec.pre enc Tryz.prog Tryz.f4 Rows.tempLaysRow.domain false w args ∧ laidMetH Tryz.prog laid w) ∧ sizedMet enc Tryz.prog Tryz.f4 (OpenSpec.ofChange Rows.tempLaysSpec) false w args)
   (Rows.tempLaysSpec.post enc Tryz.prog Tryz.f4 false true false false) := by
 refine returnsInHanded_of_change_and (C := Tryz.checked) (X := fun w _ => laidMetH Tryz.prog laid w) (fun _ _ _ hh h => h.of_heap hh) ownKnobs started (by kernel_rfl) Tryz.func4
  (ChangeSpec.witness_shaped (enc := enc) (C := Tryz.checked) (os := os) (X := fun w _ => laidMetH Tryz.prog laid w) false (World.laidAll Tryz.prog os laid) #[.int .i64 0, .slice none 0 0] 8 (World.laidAll_os _ _ _)
   (World.shaped_of_ZipB (by kernel_rfl) (by kernel_rfl)) (by kernel_rfl) (by kernel_rfl) (by kernel_rfl)
   (by rw [MakeChecks.laidMetH_plain _ _ _ (by kernel_rfl)]; exact laidMet_laidAll _ (by kernel_rfl) (by kernel_rfl))) ?_
 intro W base args ds gs before hval0 hW hc _ hL _
 have hW' := hW
 obtain ⟨p, q, hA0, hV, rfl, _, _⟩ := hW
 have hA : DataW.TrodAll enc Tryz.prog W 0 (fun _ => true) true Tryz.f4.params.toList args.toList ds p := hA0
 have hval : ∀ (j : Nat) t v, Tryz.f4.params[j]? = some t → args[j]? = some v → Value.okWide Tryz.prog W .any base t v := hval0
 rw [Tryz.params4] at hA
 obtain ⟨v0, v1, d0, d1, p0, p1, rfl, rfl, rfl, hv0, hv1⟩ := trodAll_two hA
 obtain ⟨x, rfl⟩ := okWide_int (k := .i64) Tryz.underlying3 (hval 0 3 _ rfl rfl)
 obtain ⟨a1, n1, c1, rfl⟩ := okWide_slice Tryz.underlying59 (hval 1 59 _ rfl rfl)
 obtain ⟨rfl, rfl⟩ := trodVars_none hV
 simp only [List.append_nil] at hW'
 have hd := cells_of_laid _ _ _ hL (by kernel_rfl) rfl
 refine (walk hd hv1).mono fun e W' ⟨he, bel⟩ => ?_
 subst he
 exact ⟨_, rfl, _, _, _, [], _, [], hW', trodAll_mk1 (shut_bool Tryz.underlying4 _), trodAll_mk2 (trod_below laidOut (by kernel_rfl) (of_decide_eq_true (by kernel_rfl)) hv0 bel) (trod_below laidOut (by kernel_rfl) (of_decide_eq_true (by kernel_rfl)) hv1 bel), rfl, bel.frame _, fun h => by cases h⟩

theorem both {a b : Bool} (ha : a = true) (hb : b = true) : (a && b) = true := by rw [ha, hb]; rfl

set_option maxRecDepth 100000 in
set_option maxHeartbeats 10000000 in
theorem closed : joinedFacts Tryz.prog 4 Tryz.f4 Rows.tempLaysSpec Rows.tempLaysRow = true := by
 unfold joinedFacts
 repeat' (with_reducible refine both ?_ ?_)
 all_goals (as_aux_lemma => kernel_rfl)

set_option maxRecDepth 100000 in
set_option maxHeartbeats 10000000 in
theorem holds : Rows.TempLaysSaid :=
 OpenClaim.holds_of_wide 4 Tryz.f4 rfl rfl rfl rfl rfl rfl rfl ⟨rfl, rfl, rfl, rfl, rfl⟩ rfl rfl rfl rfl rfl (by as_aux_lemma => kernel_rfl) Tryz.func4
  closed
  (of_decide_eq_true (by as_aux_lemma => kernel_rfl)) (by unfold Func.isWrapper; first | (rw [if_pos (by decide +kernel)]; kernel_rfl) | (rw [if_neg (by decide +kernel)]; exact ⟨rfl, rfl⟩))
  (fun os started H enc _ => lifted os started H enc)

set_option maxRecDepth 100000 in
set_option maxHeartbeats 10000000 in
theorem proved : Rows.TempLaysCardSaid :=
 Claim7.holds_tied_plain_at .later [] [.data, .pinned] true (true, "fdca350932d7dfc3bcbc25e2c9542cd37ae1cdf1f37984f0414186a616a11dd8") true holds (fun _ h => by cases h) (by as_aux_lemma => kernel_rfl) (fun _ h => by cases h) tempLays_row_tie rfl ⟨rfl, rfl⟩ (by as_aux_lemma => kernel_rfl) rfl
  (fun f fn hf hfn => by
   obtain rfl : f = 4 := Option.some.inj ((show Tryz.prog.funcNamed "packtrain/packtrainlaw19.TempLays" = some 4 by as_aux_lemma => kernel_rfl).symm.trans hf) |>.symm
   obtain rfl : fn = Tryz.f4 := (Option.some.inj (Tryz.func4.symm.trans hfn)).symm
   refine ⟨by as_aux_lemma => kernel_rfl, fun j t ht => ?_⟩
   rw [Tryz.params4] at ht
   match j with
   | 0 =>
    obtain rfl : t = 3 := by simpa using ht.symm
    show Tryz.prog.wantsStandIn 3 = false
    kernel_rfl
   | 1 =>
    obtain rfl : t = 59 := by simpa using ht.symm
    show Tryz.prog.wantsStandIn 59 = false
    kernel_rfl
   | j + 2 => simp at ht)
  (by as_aux_lemma => kernel_rfl)
#print axioms proved
end Go.Proofs.YthkdhdcbhpknnaaGreatDoor.tempLays
