/- The law TempWhole holds: called with whatever arguments in whatever memory, the Go function returns true and turns nothing that lay before. Conditions: the two listed tables of unicode/utf8 hold what the text lays (the card ties them); none else. -/
import Derived.Test.YtfhcnoancepgcaaGreatDoorTWl
import Derived.Test.YtfhcnoancepgcaaGreatDoorTLb
import Derived.Test.YtfhcnoancepgcaaGreatDoorSeat
import Derived.Test.YtfhcnoancepgcaaGreatDoorCards
import Derived.Test.YtfhcnoancepgcaaGreatDoorTie
import Derived.Test.YtfhcnoancepgcaaGreatDoorDigC
import Derived.WalkKit
import Derived.ProofKit
import Derived.OpenShut
import Derived.LaidMore
import Derived.Lay
import Derived.SevenTiedAt
import Derived.Stop.Joined
set_option linter.unusedSimpArgs false
namespace Go.Proofs.YtfhcnoancepgcaaGreatDoor.tempWhole
open Go.ChangeShapes Go.WideShapes Go.ChangeAt Go.RowKit Go Go.Abs Go.Proofs.YtfhcnoancepgcaaGreatDoor.tre
set_option linter.unusedVariables false

theorem livesRun : runsTo Tryz.prog sDig 3000 4 [] { tr := .nil, nx := 0 } (.bool true) = true := by kernel_rfl
theorem mayRun : runsTo Tryz.prog sums 3000 18 [.str qfa] { tr := .nil, nx := 0 } (.bool true) = true := by kernel_rfl
/-- A function of one text, at one text. -/
noncomputable def sumStr (g : FuncId) (s : List Nat) (v : AV) : Sums := fun f args h => cond (Nat.beq f g) (match args with | [.str l] => cond (eqL l s) (some (v, h)) none | _ => none) none
theorem sumStr_ok {P : Program} {S : Sums} (hS : SumsOK P S) {k : Nat} {g : FuncId} {s : List Nat} {v : AV} (hr : runsTo P S k g [.str s] { tr := .nil, nx := 0 } v = true) (hv : flatA v = true) : SumsOK P (sumStr g s v) := by
  intro K ρ h w f args cargs u h' hR ha hs
  unfold sumStr at hs
  rw [nat_beq_dec] at hs
  by_cases hf : f = g
  · subst hf
    simp only [decide_true, cond_true] at hs
    split at hs
    · rename_i l
      cases he : eqL l s
      · rw [he] at hs; cases hs
      · rw [he] at hs
        have hls : l = s := by
          have := he
          rw [eqL_eq] at this
          simpa using this
        subst hls
        cases hs
        obtain ⟨h0', hc⟩ := run_of hr
        exact sumKept_ok hS hc hv (rel_empty w) (vrs_scalar (by rfl) ha) hR
    · cases hs
  · simp only [hf, decide_false, cond_false] at hs
    cases hs
noncomputable def sumsL : Sums := orS (sumConst 4 (.bool true)) (orS (sumStr 18 qfa (.bool true)) sConst)
theorem sumsL_ok : SumsOK Tryz.prog sumsL := orS_ok (sumConst_ok sDig_ok livesRun rfl) (orS_ok (sumStr_ok sums_ok mayRun rfl) sConst_ok)
theorem sC_no {g : FuncId} {v : AV} {f : FuncId} {args : List AV} {h : AH} (hf : f ≠ g) : sumConst g v f args h = none := by
  unfold sumConst
  rw [nat_beq_dec]
  simp [hf]
theorem sC_yes {g : FuncId} {v : AV} {h : AH} : sumConst g v g [] h = some (v, h) := by
  unfold sumConst
  rw [nat_beq_dec]
  simp
theorem sS_no {g : FuncId} {s : List Nat} {v : AV} {f : FuncId} {args : List AV} {h : AH} (hf : f ≠ g) : sumStr g s v f args h = none := by
  unfold sumStr
  rw [nat_beq_dec]
  simp [hf]
theorem orS_no {a b : Sums} {f : FuncId} {args : List AV} {h : AH} (ha : a f args h = none) : orS a b f args h = b f args h := by
  unfold orS
  rw [ha]
theorem orS_yes {a b : Sums} {f : FuncId} {args : List AV} {h : AH} {r : AV × AH} (ha : a f args h = some r) : orS a b f args h = some r := by
  unfold orS
  rw [ha]
theorem sumsL_base {f : FuncId} {args : List AV} {h : AH} (hf : f ∉ ([4, 18, 59, 60, 89, 90] : List Nat)) : sumsL f args h = sums f args h := by
  simp only [List.mem_cons, not_or, List.not_mem_nil, not_false_eq_true, and_true] at hf
  obtain ⟨h1, h2, h3, h4, h5, h6⟩ := hf
  unfold sumsL sConst
  rw [orS_no (sC_no h1), orS_no (sS_no h2), orS_no (sC_no h3), orS_no (sC_no h4), orS_no (sC_no h5), orS_no (sC_no h6)]
theorem sumsL_lives (h : AH) : sumsL 4 [] h = some (.bool true, h) := orS_yes sC_yes
theorem sumsL_may (h : AH) : sumsL 18 [.str qfa] h = some (.bool true, h) := by
  unfold sumsL
  rw [orS_no (sC_no (by decide))]
  refine orS_yes ?_
  unfold sumStr
  rw [nat_beq_dec]
  have : eqL qfa qfa = true := by rw [eqL_eq]; simp
  simp [this]
theorem sumsL_none (f : FuncId) (args : List AV) (h : AH) (hf : f ∉ ([4, 18, 59, 60, 89, 90, 143, 150, 80, 55, 96] : List Nat)) : sumsL f args h = none := by
  have hb : f ∉ ([4, 18, 59, 60, 89, 90] : List Nat) := fun hm => hf (by
    simp only [List.mem_cons, List.not_mem_nil, or_false] at hm ⊢
    rcases hm with h | h | h | h | h | h <;> simp [h])
  rw [sumsL_base hb]
  simp only [List.mem_cons, not_or, List.not_mem_nil, not_false_eq_true, and_true] at hf
  obtain ⟨_, _, _, _, _, _, h2, h3, h4, h5, h6⟩ := hf
  simp only [sums, nbeq, h2, h3, h4, h5, h6, decide_false, cond_false]
theorem nin {l m : List Nat} (hd : ∀ x ∈ l, x ∉ m) {f : Nat} (hf : f ∈ l) : f ∉ m := hd f hf
theorem sumsL_st : St sumsL where
  nu f args h hf := sumsL_none f args h (nin (by decide) hf)
  cnt args h := sumsL_base (by decide)
  idx args h := sumsL_base (by decide)
  nt f args h hf := sumsL_none f args h (nin (by decide) hf)
  used args h := sumsL_base (by decide)
  clone args h := sumsL_base (by decide)
  sorted args h := sumsL_base (by decide)
theorem sumsL_pw : Pw sumsL := { sumsL_st with nx := fun f args h hf => sumsL_none f args h (nin (by decide) hf), np := fun f args h hf => sumsL_none f args h (nin (by decide) hf) }
theorem sumsL_nu : dig.Nu sumsL := fun f args h hf => sumsL_none f args h (nin (by decide) hf)
theorem sumsL_nt : dig.Nt sumsL := fun f args h hf => sumsL_none f args h (by
  intro hm
  simp only [List.mem_cons, List.not_mem_nil, or_false] at hm
  rcases hm with rfl | rfl | rfl | rfl | rfl | rfl | rfl | rfl | rfl | rfl | rfl <;> simp at hf)
theorem vKe : vK = .agg (dig.wrow dig.Kc 64) := by kernel_rfl
theorem vHe : vH = .agg (dig.c8 dig.H0) := by kernel_rfl
theorem sumsL_dg : dig.Dg sumsL :=
  ⟨fun f args h hf => sumsL_none f args h (by
      intro hm
      simp only [List.mem_cons, List.not_mem_nil, or_false] at hm
      rcases hm with rfl | rfl | rfl | rfl | rfl | rfl | rfl | rfl | rfl | rfl | rfl <;> simp at hf),
   fun h => by rw [← vKe]; unfold sumsL sConst; rw [orS_no (sC_no (by decide)), orS_no (sS_no (by decide)), orS_no (sC_no (by decide)), orS_no (sC_no (by decide)), orS_yes sC_yes],
   fun h => by rw [← vHe]; unfold sumsL sConst; rw [orS_no (sC_no (by decide)), orS_no (sS_no (by decide)), orS_no (sC_no (by decide)), orS_no (sC_no (by decide)), orS_no (sC_no (by decide)), orS_yes sC_yes],
   fun h => by rw [← vKe]; unfold sumsL sConst; rw [orS_no (sC_no (by decide)), orS_no (sS_no (by decide)), orS_yes sC_yes],
   fun h => by rw [← vHe]; unfold sumsL sConst; rw [orS_no (sC_no (by decide)), orS_no (sS_no (by decide)), orS_no (sC_no (by decide)), orS_yes sC_yes]⟩
theorem ownKnobs : ownKnob Tryz.prog.godebug = none := by kernel_rfl
theorem laidOut : laidOutB Tryz.prog = true := by kernel_rfl

theorem c3 : Tryz.prog.cellsOf 3 = 1 := by kernel_rfl
theorem c5 : Tryz.prog.cellsOf 5 = 1 := by kernel_rfl
theorem c22 : Tryz.prog.cellsOf 22 = 1 := by kernel_rfl
theorem cCall : Tryz.prog.cellsOf 36 = 2 := by kernel_rfl
set_option maxRecDepth 100000 in
theorem ty_calls {h : AH} {avs : List AV} (hx : Ty Tryz.prog h 23 avs) (hlt : ∀ id o, h.get id = some o → id < h.nx) : ∃ cv n id cs ks bs ls, avs = [cv] ∧ dig.Cl h cv n id cs ks bs ls := by
  rcases hx.slice_inv Tryz.underlying23 with rfl | ⟨id, len, cs, rfl, hg, hl, hcs, hel⟩
  · exact ⟨_, 0, 0, [], fun _ => 0, fun _ => .nilsl, fun _ => [], rfl, .inl ⟨rfl, rfl⟩⟩
  · rw [cCall] at hcs hel ⊢
    have key : ∀ i, ∃ x : Int × AV × List Nat, i < len → cs[i * 2]? = some (.int .i64 x.1) ∧ cs[i * 2 + 1]? = some x.2.1 ∧ Bs h x.2.1 x.2.2 ∧ ∀ b ∈ x.2.2, b < 256 := by
      intro i
      by_cases hi : i < len
      · obtain ⟨h1, h2⟩ := (hel i hi).struct_inv Tryz.underlying36
        have hx := h2 _ (List.mem_cons_self ..)
        have hy := h2 _ (List.mem_cons_of_mem _ (List.mem_cons_self ..))
        obtain ⟨k, hk, _⟩ := Ty.int_inv Tryz.underlying3 hx
        obtain ⟨v, cx, hv, hs, hsa, hsl, hse⟩ := Ty.sl1 Tryz.underlying22 c5 (fun fs hh => by rw [Tryz.underlying5] at hh; cases hh) (fun n e hh => by rw [Tryz.underlying5] at hh; cases hh) hy hlt
        obtain ⟨l, rfl, hb, hl, hlen⟩ := hs.bs hse Tryz.underlying5
        rw [c3] at hk
        rw [c22] at hv
        have k0 := congrArg (fun x => x[0]?) hk
        have k1 := congrArg (fun x => x[0]?) hv
        simp only [List.getElem?_take, List.getElem?_drop, List.getElem?_cons_zero] at k0 k1
        refine ⟨(k, v, l), fun _ => ⟨?_, ?_, hb, hl⟩⟩
        · simpa using k0
        · simpa using k1
      · exact ⟨(0, .nilsl, []), fun hh => absurd hh hi⟩
    obtain ⟨F, hF⟩ := Classical.axiomOfChoice key
    exact ⟨_, len, id, cs, fun i => (F i).1, fun i => (F i).2.1, fun i => (F i).2.2, rfl, .inr ⟨rfl, hg, hlt _ _ hg, fun i hi => hF i hi⟩⟩
set_option maxRecDepth 100000 in
theorem walk {H : Type} {enc : TypeId × Value → H} {W : World} {a0 a2 : Option Addr} {n0 n2 c0 c2 : Nat} {x : Int} {d0 d2 : DataW H} {p0 p2 : List MemPlace} (hd : ∃ (b : Nat) (c : Array Value) (e : TypeId) (fr : Nat × Nat), W.heap[b]? = some (Obj.cells c e fr))
    (hv0 : DataW.Trod enc Tryz.prog W 0 (fun _ => true) true 22 (.slice a0 n0 c0) d0 p0) (hv2 : DataW.Trod enc Tryz.prog W 0 (fun _ => true) true 23 (.slice a2 n2 c2) d2 p2) :
    Calls Tryz.prog 3 #[.slice a0 n0 c0, .int .i64 x, .slice a2 n2 c2] W fun e w' => e = .returned (.bool true) ∧ Below W.heap.size W w' := by
  have u22 := Tryz.underlying22
  have u5 := Tryz.underlying5
  have ns : ∀ fs, Tryz.prog.underlying 5 ≠ some (.struct fs) := fun fs hh => by rw [u5] at hh; cases hh
  have na : ∀ n e, Tryz.prog.underlying 5 ≠ some (.array n e) := fun n e hh => by rw [u5] at hh; cases hh
  obtain ⟨ρ0, h0, s0, g0⟩ := got_arg (k := 8) hd (by kernel_rfl) hv0 (rel_empty W)
  obtain ⟨x0, y0, rfl, hx0, hxa0, hxl0, hxe0⟩ := g0.ty.sl1 u22 (by kernel_rfl) ns na (rel_lt g0.rel)
  have r0 : VR ρ0 x0 (.slice a0 n0 c0) := by cases g0.vr with | cons h _ => exact h
  obtain ⟨l0, rfl, hb0, hl0, _⟩ := hx0.bs hxe0 u5
  obtain ⟨ρ2, h2, s2, g2⟩ := got_arg (k := 8) hd (by kernel_rfl) hv2 g0.rel
  obtain ⟨cv, n, id, cs, ks, bs, ls, rfl, hc⟩ := ty_calls g2.ty (rel_lt g2.rel)
  have r2 : VR ρ2 cv (.slice a2 n2 c2) := by cases g2.vr with | cons h _ => exact h
  exact walk_of_run sumsL_ok (by kernel_rfl) g2.rel (avs := [x0, .int .i64 x, cv]) (.cons (r0.mono g2.ext.le) (.cons (.int _ _) (.cons r2 .nil)))
    (whole3 sumsL_nu sumsL_nt sumsL_dg sumsL_pw (fun args h => sumsL_none _ args h (by decide)) sumsL_lives sumsL_may (bs_le hb0 g2.le g2.ext.nx) hl0 hc)


abbrev laid : List (String × DataW Unit) := Rows.tempWholeRow.laid

set_option maxRecDepth 100000 in
set_option maxHeartbeats 10000000 in
theorem lifted (os : Os) (started : os.Started) (H : Type) (enc : TypeId × Value → H) :
    ReturnsInHanded {} Tryz.checked os 3 .any (fun w args => (Rows.tempWholeSpec.pre enc Tryz.prog Tryz.f3 Rows.tempWholeRow.domain false w args ∧ laidMetH Tryz.prog laid w) ∧ sizedMet enc Tryz.prog Tryz.f3 (OpenSpec.ofChange Rows.tempWholeSpec) false w args)
      (Rows.tempWholeSpec.post enc Tryz.prog Tryz.f3 false true false false) := by
  refine returnsInHanded_of_change_and (C := Tryz.checked) (X := fun w _ => laidMetH Tryz.prog laid w) (fun _ _ _ hh h => h.of_heap hh) ownKnobs started (by kernel_rfl) Tryz.func3
    (ChangeSpec.witness_shaped (enc := enc) (C := Tryz.checked) (os := os) (X := fun w _ => laidMetH Tryz.prog laid w) false (World.laidAll Tryz.prog os laid) #[.slice none 0 0, .int .i64 0, .slice none 0 0] 8 (World.laidAll_os _ _ _)
      (World.shaped_of_ZipB (by kernel_rfl) (by kernel_rfl)) (by kernel_rfl) (by kernel_rfl) (by kernel_rfl)
      (by rw [MakeChecks.laidMetH_plain _ _ _ (by kernel_rfl)]; exact laidMet_laidAll _ (by kernel_rfl) (by kernel_rfl))) ?_
  intro W base args ds gs before hval0 hW hc _ hL _
  have hW' := hW
  obtain ⟨p, q, hA0, hV, rfl, _, _⟩ := hW
  have hA : DataW.TrodAll enc Tryz.prog W 0 (fun _ => true) true Tryz.f3.params.toList args.toList ds p := hA0
  have hval : ∀ (j : Nat) t v, Tryz.f3.params[j]? = some t → args[j]? = some v → Value.okWide Tryz.prog W .any base t v := hval0
  rw [Tryz.params3] at hA
  obtain ⟨v0, v1, v2, d0, d1, d2, p0, p1, p2, rfl, rfl, rfl, hv0, hv1, hv2⟩ := trodAll_three hA
  obtain ⟨a0, n0, c0, rfl⟩ := okWide_slice Tryz.underlying22 (hval 0 22 _ rfl rfl)
  obtain ⟨x, rfl⟩ := okWide_int (k := .i64) Tryz.underlying3 (hval 1 3 _ rfl rfl)
  obtain ⟨a2, n2, c2, rfl⟩ := okWide_slice Tryz.underlying23 (hval 2 23 _ rfl rfl)
  obtain ⟨rfl, rfl⟩ := trodVars_none hV
  simp only [List.append_nil] at hW'
  have hd := cells_of_laid _ _ _ hL (by kernel_rfl) rfl
  refine (walk hd hv0 hv2).mono fun e W' ⟨he, bel⟩ => ?_
  subst he
  exact ⟨_, rfl, _, _, _, [], _, [], hW', trodAll_mk1 (shut_bool Tryz.underlying4 _), trodAll_mk3 (trod_below laidOut (by kernel_rfl) (of_decide_eq_true (by kernel_rfl)) hv0 bel) (trod_below laidOut (by kernel_rfl) (of_decide_eq_true (by kernel_rfl)) hv1 bel) (trod_below laidOut (by kernel_rfl) (of_decide_eq_true (by kernel_rfl)) hv2 bel), rfl, bel.frame _, fun h => by cases h⟩

theorem both {a b : Bool} (ha : a = true) (hb : b = true) : (a && b) = true := by rw [ha, hb]; rfl

set_option maxRecDepth 100000 in
set_option maxHeartbeats 10000000 in
theorem closed : joinedFacts Tryz.prog 3 Tryz.f3 Rows.tempWholeSpec Rows.tempWholeRow = true := by
  unfold joinedFacts
  repeat' (with_reducible refine both ?_ ?_)
  all_goals (as_aux_lemma => kernel_rfl)

set_option maxRecDepth 100000 in
set_option maxHeartbeats 10000000 in
theorem holds : Rows.TempWholeSaid :=
  OpenClaim.holds_of_wide 3 Tryz.f3 rfl rfl rfl rfl rfl rfl rfl ⟨rfl, rfl, rfl, rfl, rfl⟩ rfl rfl rfl rfl rfl (by as_aux_lemma => kernel_rfl) Tryz.func3
    closed
    (of_decide_eq_true (by as_aux_lemma => kernel_rfl)) (by unfold Func.isWrapper; first | (rw [if_pos (by decide +kernel)]; kernel_rfl) | (rw [if_neg (by decide +kernel)]; exact ⟨rfl, rfl⟩))
    (fun os started H enc _ => lifted os started H enc)

set_option maxRecDepth 100000 in
set_option maxHeartbeats 10000000 in
theorem proved : Rows.TempWholeCardSaid :=
  Claim7.holds_tied_plain_at .later [] [.data, .pinned] true (true, "2b4fc2addaecb70d0f5d9e87ed0ba7940a2d62d270767ccc17a509c6b3f3253f") true holds (fun _ h => by cases h) (by as_aux_lemma => kernel_rfl) (fun _ h => by cases h) tempWhole_row_tie rfl ⟨rfl, rfl⟩ (by as_aux_lemma => kernel_rfl) rfl
    (fun f fn hf hfn => by
      obtain rfl : f = 3 := Option.some.inj ((show Tryz.prog.funcNamed "packtrain/packtrainlaw19.TempWhole" = some 3 by as_aux_lemma => kernel_rfl).symm.trans hf) |>.symm
      obtain rfl : fn = Tryz.f3 := (Option.some.inj (Tryz.func3.symm.trans hfn)).symm
      refine ⟨by as_aux_lemma => kernel_rfl, fun j t ht => ?_⟩
      rw [Tryz.params3] at ht
      match j with
      | 0 =>
        obtain rfl : t = 22 := by simpa using ht.symm
        show Tryz.prog.wantsStandIn 22 = false
        kernel_rfl
      | 1 =>
        obtain rfl : t = 3 := by simpa using ht.symm
        show Tryz.prog.wantsStandIn 3 = false
        kernel_rfl
      | 2 =>
        obtain rfl : t = 23 := by simpa using ht.symm
        show Tryz.prog.wantsStandIn 23 = false
        kernel_rfl
      | j + 3 => simp at ht)
    (by as_aux_lemma => kernel_rfl)
#print axioms proved
end Go.Proofs.YtfhcnoancepgcaaGreatDoor.tempWhole
