/- The law TempScript holds: called with whatever arguments in whatever memory, the Go function returns true and turns nothing that lay before. Conditions: none beyond the stated premises. -/
import Derived.Test.YtmdkibpieeiadaaTRf
import Derived.Test.YtmdkibpieeiadaaTSb
import Derived.Test.YtmdkibpieeiadaaRows
import Derived.Test.YtmdkibpieeiadaaAb7
import Derived.WalkKit
import Derived.ProofKit
import Derived.OpenShut
import Derived.LaidMore
import Derived.Lay
import Derived.SevenTiedAt
import Derived.Stop.Joined
namespace Go.Proofs.Ytmdkibpieeiadaa.tempScript
open Go.ChangeShapes Go.WideShapes Go.ChangeAt Go.RowKit Go Go.Abs Go.Proofs.Ytmdkibpieeiadaa.dig
set_option linter.unusedVariables false

theorem ownKnobs : ownKnob Try.prog.godebug = none := by kernel_rfl
theorem laidOut : laidOutB Try.prog = true := by kernel_rfl
theorem cellTs : Try.prog.cellTypes Try.prog.depth 27 = some [3, 3, 25] := by kernel_rfl
theorem c3 : Try.prog.cellsOf 3 = 1 := by kernel_rfl
theorem c5 : Try.prog.cellsOf 5 = 1 := by kernel_rfl
theorem c22 : Try.prog.cellsOf 22 = 1 := by kernel_rfl
theorem c25 : Try.prog.cellsOf 25 = 1 := by kernel_rfl
theorem c27 : Try.prog.cellsOf 27 = 3 := by kernel_rfl
theorem c46 : Try.prog.cellsOf 46 = 2 := by kernel_rfl
theorem c56 : Try.prog.cellsOf 56 = 32 := by kernel_rfl

theorem ds_le {h h2 : AH} {v : AV} {D : List (List Nat)} (hb : Ds h v D) (hl : ∀ id o, h.get id = some o → h2.get id = some o) (hn : h.nx ≤ h2.nx) : Ds h2 v D := by
  rcases hb with h1 | ⟨id, off, c, cs, o, t, h1, h3, h4, h5⟩
  · exact .inl h1
  · exact .inr ⟨id, off, c, cs, o, t, h1, hl _ _ h3, Nat.lt_of_lt_of_le h4 hn, h5⟩
theorem len3 {α : Type} {l : List α} (h : l.length = 3) : ∃ x y z, l = [x, y, z] := by
  match l, h with
  | [x, y, z], _ => exact ⟨x, y, z, rfl⟩
set_option maxRecDepth 100000 in
theorem ty_list {h : AH} {avs : List AV} (hx : Ty Try.prog h 27 avs) (hlt : ∀ id o, h.get id = some o → id < h.nx) : ∃ s ln dv D, avs = [.int .i64 s, .int .i64 ln, dv] ∧ Ds h dv D ∧ ∀ d ∈ D, d.length = 32 := by
  obtain ⟨h1, h2⟩ := hx.struct_inv Try.underlying27
  rw [c27] at h1
  obtain ⟨x, y, z, rfl⟩ := len3 h1
  have hx := h2 _ (List.mem_cons_self ..)
  have hy := h2 _ (List.mem_cons_of_mem _ (List.mem_cons_self ..))
  have hz := h2 _ (List.mem_cons_of_mem _ (List.mem_cons_of_mem _ (List.mem_cons_self ..)))
  obtain ⟨s, hs, _⟩ := Ty.int_inv Try.underlying3 hx
  obtain ⟨ln, hln, _⟩ := Ty.int_inv Try.underlying3 hy
  obtain ⟨dv, D, hdv, h32, hD⟩ := Ty.rows Try.underlying25 Try.underlying56 Try.underlying5 c5 c56 hz hlt
  rw [c3] at hs hln
  rw [c25] at hdv
  simp at hs hln hdv
  subst hs; subst hln; subst hdv
  refine ⟨s, ln, z, D, rfl, ?_, h32⟩
  rcases hD with h3 | ⟨id, cs, h3, h4, h5, h6, h7⟩
  · exact .inl h3
  · exact .inr ⟨id, 0, none, cs, false, false, h3, h4, h5, by omega, fun i d hd => by rw [Nat.zero_add]; exact h7 i d hd⟩
set_option maxRecDepth 100000 in
theorem ty_calls {h : AH} {avs : List AV} (hx : Ty Try.prog h 44 avs) (hlt : ∀ id o, h.get id = some o → id < h.nx) : ∃ cv n id cs ks bs ls, avs = [cv] ∧ Cs h cv n id cs ks bs ls := by
  rcases hx.slice_inv Try.underlying44 with rfl | ⟨id, len, cs, rfl, hg, hl, hcs, hel⟩
  · exact ⟨_, 0, 0, [], fun _ => 0, fun _ => .nilsl, fun _ => [], rfl, .inl ⟨rfl, rfl⟩⟩
  · rw [c46] at hcs hel ⊢
    have key : ∀ i, ∃ x : Int × AV × List Nat, i < len → cs[i * 2]? = some (.int .i64 x.1) ∧ cs[i * 2 + 1]? = some x.2.1 ∧ Bs h x.2.1 x.2.2 ∧ ∀ b ∈ x.2.2, b < 256 := by
      intro i
      by_cases hi : i < len
      · obtain ⟨h1, h2⟩ := (hel i hi).struct_inv Try.underlying46
        have hx := h2 _ (List.mem_cons_self ..)
        have hy := h2 _ (List.mem_cons_of_mem _ (List.mem_cons_self ..))
        obtain ⟨k, hk, _⟩ := Ty.int_inv Try.underlying3 hx
        obtain ⟨v, cx, hv, hs, hsa, hsl, hse⟩ := Ty.sl1 Try.underlying22 c5 (fun fs hh => by rw [Try.underlying5] at hh; cases hh) (fun n e hh => by rw [Try.underlying5] at hh; cases hh) hy hlt
        obtain ⟨l, rfl, hb, hl, hlen⟩ := hs.bs hse Try.underlying5
        rw [c3] at hk
        rw [c22] at hv
        have k0 := congrArg (fun x => x[0]?) hk
        have k1 := congrArg (fun x => x[0]?) hv
        simp only [List.getElem?_take, List.getElem?_drop, List.getElem?_cons_zero] at k0 k1
        refine ⟨(k, v, l), fun _ => ⟨?_, ?_, hb, hl⟩⟩
        · simpa using k0
        · simpa using k1
      · exact ⟨(0, .nilsl, []), fun hh => absurd hh hi⟩
    obtain ⟨F, hF⟩ := Classical.axiomOfChoice key
    exact ⟨_, len, id, cs, fun i => (F i).1, fun i => (F i).2.1, fun i => (F i).2.2, rfl, .inr ⟨rfl, hg, hlt _ _ hg, fun i hi => hF i hi⟩⟩
set_option maxRecDepth 100000 in
theorem got_list {H : Type} {enc : TypeId × Value → H} {W : World} {base : Nat} {v : Value} {d : DataW H} {ps : List MemPlace} (ok : Value.okWide Try.prog W .any base 27 v) (hv : DataW.Trod enc Try.prog W 0 (fun _ => true) true 27 v d ps) {ρ : Pm} {ah : AH} (hR : Rel (keptAll W) ρ ah W) :
    ∃ ρ' h' avs, Got Try.prog (keptAll W) W ρ ah 27 v.cells.toList ρ' h' avs := by
  by_cases hd : ∃ (b : Nat) (c : Array Value) (e : TypeId) (fr : Nat × Nat), W.heap[b]? = some (Obj.cells c e fr)
  · exact got_arg (k := 8) hd (by kernel_rfl) hv hR
  · simp only [Value.okWide, Try.underlying27] at ok
    obtain ⟨cs, rfl, hsz, ts, hts, _, hcell⟩ := ok
    rw [cellTs] at hts
    cases hts
    rw [c27] at hsz
    obtain ⟨l⟩ := cs
    obtain ⟨x, y, z, rfl⟩ := len3 (show l.length = 3 from hsz)
    obtain ⟨u0, e0, k0⟩ := hcell 0 x rfl
    obtain ⟨u1, e1, k1⟩ := hcell 1 y rfl
    obtain ⟨u2, e2, k2⟩ := hcell 2 z rfl
    simp at e0 e1 e2
    subst e0; subst e1; subst e2
    have v0 : Value.okWide Try.prog W .any base 3 x := by simp only [Value.okWide, Try.underlying3]; exact k0
    have v1 : Value.okWide Try.prog W .any base 3 y := by simp only [Value.okWide, Try.underlying3]; exact k1
    have v2 : Value.okWide Try.prog W .any base 25 z := by simp only [Value.okWide, Try.underlying25]; exact k2
    obtain ⟨n0, rfl⟩ := okWide_int (k := .i64) Try.underlying3 v0
    obtain ⟨n1, rfl⟩ := okWide_int (k := .i64) Try.underlying3 v1
    obtain ⟨a, len, cap, rfl⟩ := okWide_slice Try.underlying25 v2
    cases a with
    | some a => exact absurd (cells_of_slice Try.underlying25 v2) hd
    | none =>
      simp only [Cell.okWide, Cell.ok, Try.underlying3, Try.underlying25] at k0 k1 k2
      have e : len = 0 ∧ cap = 0 := by split at k2 <;> simp_all
      obtain ⟨rfl, rfl⟩ := e
      refine ⟨ρ, ah, [.int .i64 n0, .int .i64 n1, .nilsl], Ext.refl _ _, hR, fun _ _ h => h, .cons (.int _ _) (.cons (.int _ _) (.cons .nilsl .nil)), .struct Try.underlying27 (by rw [c27]; rfl) (fun f hf => ?_)⟩
      simp at hf
      rcases hf with rfl | rfl | rfl
      · show Ty Try.prog ah 3 _
        rw [c3]
        exact .int n0 Try.underlying3 k0.2
      · show Ty Try.prog ah 3 _
        rw [c3]
        exact .int n1 Try.underlying3 k1.2
      · show Ty Try.prog ah 25 _
        rw [c25]
        exact .nilsl Try.underlying25

set_option maxRecDepth 100000 in
theorem walk {H : Type} {enc : TypeId × Value → H} {W : World} {base : Nat} {v0 v1 : Value} {d0 d1 : DataW H} {ps0 ps1 : List MemPlace} (ok0 : Value.okWide Try.prog W .any base 27 v0) (hv0 : DataW.Trod enc Try.prog W 0 (fun _ => true) true 27 v0 d0 ps0)
    (ok1 : Value.okWide Try.prog W .any base 44 v1) (hv1 : DataW.Trod enc Try.prog W 0 (fun _ => true) true 44 v1 d1 ps1) : Calls Try.prog 4 #[v0, v1] W fun e w' => e = .returned (.bool true) ∧ Below W.heap.size W w' := by
  obtain ⟨ρ0, h0, avs0, g0⟩ := got_list ok0 hv0 (rel_empty W)
  obtain ⟨s, ln, dv, D, rfl, hD, h32⟩ := ty_list g0.ty (rel_lt g0.rel)
  have hvr0 : VR ρ0 (.agg [.int .i64 s, .int .i64 ln, dv]) v0 := vr_agg g0.vr (by simp)
  obtain ⟨a, len, cap, rfl⟩ := okWide_slice Try.underlying44 ok1
  obtain ⟨ρ1, h1, avs1, g1⟩ := got_slice (k := 8) Try.underlying44 ok1 (by kernel_rfl) hv1 g0.rel
  obtain ⟨cv, n, id, cs, ks, bs, ls, rfl, hc⟩ := ty_calls g1.ty (rel_lt g1.rel)
  have hvr1 : VR ρ1 cv (.slice a len cap) := by cases g1.vr with | cons h _ => exact h
  exact walk_of_run sL_ok (by kernel_rfl) g1.rel (avs := [.agg [.int .i64 s, .int .i64 ln, dv], cv]) (.cons (hvr0.mono g1.ext.le) (.cons hvr1 .nil))
    (script4 sL_nu (fun f args h hf => sL_no f args h (by rintro rfl; simp at hf) (by rintro rfl; simp at hf) (by rintro rfl; simp at hf) (by rintro rfl; simp at hf) (by rintro rfl; simp at hf)) sL_nt sL_dg (fun args h => sL_no 4 args h (by decide) (by decide) (by decide) (by decide) (by decide)) sL_lives (ds_le hD g1.le g1.ext.nx) h32 hc)

set_option maxRecDepth 100000 in
set_option maxHeartbeats 10000000 in
theorem lifted (os : Os) (started : os.Started) (H : Type) (enc : TypeId × Value → H) :
    ReturnsInHanded {} Try.checked os 4 .any (Rows.tempScriptSpec.pre6 enc Try.prog Try.f4 Rows.tempScriptRow.domain false) (Rows.tempScriptSpec.post enc Try.prog Try.f4 false true false false) := by
  refine returnsInHanded_of_change (C := Try.checked) ownKnobs started (by kernel_rfl) Try.func4
    (ChangeSpec.witness6 (enc := enc) (C := Try.checked) false ⟨#[], #[.agg #[.int .i64 0, .int .i64 0, .slice none 0 0], .slice none 0 0], []⟩ 8 (by kernel_rfl) (by kernel_rfl) (by kernel_rfl) (by kernel_rfl)) ?_
  intro W base args ds gs before hval0 hW hc _
  have hW' := hW
  obtain ⟨p, q, hA0, hV, rfl, _, _⟩ := hW
  have hA : DataW.TrodAll enc Try.prog W 0 (fun _ => true) true Try.f4.params.toList args.toList ds p := hA0
  have hval : ∀ (j : Nat) t v, Try.f4.params[j]? = some t → args[j]? = some v → Value.okWide Try.prog W .any base t v := hval0
  rw [Try.params4] at hA
  obtain ⟨v, v', d, d', p1, p2, rfl, rfl, rfl, hv, hv'⟩ := trodAll_two hA
  obtain ⟨rfl, rfl⟩ := trodVars_none hV
  simp only [List.append_nil] at hW'
  refine (walk (hval 0 27 _ rfl rfl) hv (hval 1 44 _ rfl rfl) hv').mono fun e W' ⟨he, bel⟩ => ?_
  subst he
  exact ⟨_, rfl, _, _, _, [], _, [], hW', trodAll_mk1 (shut_bool Try.underlying4 _), trodAll_mk2 (trod_below laidOut (by kernel_rfl) (of_decide_eq_true (by kernel_rfl)) hv bel) (trod_below laidOut (by kernel_rfl) (of_decide_eq_true (by kernel_rfl)) hv' bel), rfl, bel.frame _, fun h => by cases h⟩

theorem both {a b : Bool} (ha : a = true) (hb : b = true) : (a && b) = true := by rw [ha, hb]; rfl

set_option maxRecDepth 100000 in
set_option maxHeartbeats 10000000 in
theorem closed : joinedFacts Try.prog 4 Try.f4 Rows.tempScriptSpec Rows.tempScriptRow = true := by
  unfold joinedFacts
  repeat' (with_reducible refine both ?_ ?_)
  all_goals (as_aux_lemma => kernel_rfl)

set_option maxRecDepth 100000 in
set_option maxHeartbeats 10000000 in
theorem proved : Rows.TempScriptSaid :=
  OpenClaim.holds_of_wide 4 Try.f4 rfl rfl rfl rfl rfl rfl rfl ⟨rfl, rfl, rfl, rfl, rfl⟩ rfl rfl rfl rfl rfl (by as_aux_lemma => kernel_rfl) Try.func4
    closed
    (of_decide_eq_true (by as_aux_lemma => kernel_rfl)) (by unfold Func.isWrapper; first | (rw [if_pos (by decide +kernel)]; kernel_rfl) | (rw [if_neg (by decide +kernel)]; exact ⟨rfl, rfl⟩))
    (fun os started H enc _ => lifted os started H enc)
#print axioms proved
end Go.Proofs.Ytmdkibpieeiadaa.tempScript
