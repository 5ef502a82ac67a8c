/- The abstract layer, part 33: a function without arguments as a summary; a law's walk from its run. -/
import Derived.Test.YticccdaomgildaaGreatDoorAbs32
namespace Go.Abs
open Go
set_option linter.unusedVariables false

section
variable {P : Program} {S : Sums}

/-- All that there is stays. -/
def keptAll (w : World) : Kp := { os := w.os, tape := w.tape, output := w.output, size := w.heap.size, at_ := fun b => w.heap[b]?, ro := fun b => decide (b < w.heap.size), roAt := fun b hb => by simp at hb; simp [hb] }

theorem rel_empty (w : World) : Rel (keptAll w) (fun _ => none) { tr := .nil, nx := 0 } w :=
  ⟨rfl, rfl, rfl, Nat.le_refl _, fun _ _ h => h, fun _ _ => rfl, fun id o hg => by simp [AH.get] at hg, fun i j oi oj pi pj hi => by simp [AH.get] at hi⟩

theorem keptAll_allKept (w : World) : AllKept (keptAll w) w := fun b o h => ⟨h, by simp [keptAll, (Array.getElem?_eq_some_iff.1 h).1]⟩

theorem CallRes.mono {f : FuncId} {cargs : Array Value} {w : World} {Q Q' : Value → World → Prop} (h : CallRes P f cargs w Q) (hq : ∀ v w', Q v w' → Q' v w') : CallRes P f cargs w Q' := by
  obtain ⟨n, w1, h1, h2⟩ := h
  refine ⟨n, w1, h1, ?_⟩
  cases n with
  | enter g a => exact CallsIn.mono h2 fun e w2 ⟨cv, h3, h4⟩ => ⟨cv, h3, hq _ _ h4⟩
  | value cv => exact hq _ _ h2
  | _ => exact h2.elim

/-- A function without arguments, run once for all, is a summary. -/
theorem sumClosed_ok (hS : SumsOK P S) {f : FuncId} {k : Nat} {v : AV} {h0 : AH} (hc : (evN P S k).call f [] { tr := .nil, nx := 0 } = some (v, h0)) (hv : ∀ ρ ρ' cv, VR ρ v cv → VR ρ' v cv)
    {K : Kp} {ρ : Pm} {h : AH} {w : World} {cargs : Array Value} (hR : Rel K ρ h w) (hargs : VRs ρ [] cargs.toList) : CallRes P f cargs w (CallPost K h ρ v h) := by
  have hcn : cargs = #[] := by
    cases hh : cargs.toList with
    | nil => simpa using hh
    | cons a l => rw [hh] at hargs; cases hargs
  subst hcn
  refine ((evN_sound hS k).call (keptAll w) (fun _ => none) { tr := .nil, nx := 0 } w f [] #[] v h0 (rel_empty w) .nil hc).mono fun cv w' hp => ?_
  obtain ⟨ρ', _, hvr, hR'⟩ := hp
  refine ⟨ρ, Ext.refl _ _, hv _ _ _ hvr, ⟨hR'.os.trans hR.os, hR'.tape.trans hR.tape, hR'.output.trans hR.output, Nat.le_trans hR.size hR'.size, fun b o hb => hR'.keep b o (hR.keep b o hb), hR.fresh, fun id o hg => ?_, hR.inj⟩⟩
  obtain ⟨p, h1, h2, h3⟩ := hR.obj id o hg
  refine ⟨p, h1, ?_, h3⟩
  cases hb : w.heap[p.b]? with
  | some x => rw [hR'.keep p.b x hb, ← hb]; exact h2
  | none =>
    rw [hb] at h2
    exact (or_none h2).elim

/-- What a law's run says of the model. -/
theorem walk_of_run (hS : SumsOK P S) {f : FuncId} (hb : bodied P f = true) {w : World} {ρ : Pm} {h : AH} {avs : List AV} {cargs : Array Value} (hR : Rel (keptAll w) ρ h w) (hv : VRs ρ avs cargs.toList)
    (hrun : RnC P S f avs h fun v _ => v = .bool true) : Calls P f cargs w fun e w' => e = .returned (.bool true) ∧ RowKit.Below w.heap.size w w' := by
  obtain ⟨k, v, h', hc, rfl⟩ := hrun
  obtain ⟨nx, w1, hrn, hm⟩ := (evN_sound hS k).call (keptAll w) ρ h w f avs cargs _ h' hR hv hc
  rw [callFunc_bodied hb] at hrn
  cases hrn
  refine (callsIn_wide.1 hm).mono fun e w' hp => ?_
  obtain ⟨cv, rfl, ρ', _, hvr, hR'⟩ := hp
  cases hvr
  refine ⟨rfl, ⟨hR'.os, hR'.tape, hR'.output, hR'.size, fun b hb => ?_⟩⟩
  have : w.heap[b]? = some w.heap[b] := by simp
  rw [this]
  exact hR'.keep b _ this

theorem RnC.sum {f : FuncId} {args : List AV} {h : AH} {Q : AV → AH → Prop} {v : AV} {h' : AH} (hs : S f args h = some (v, h')) (hq : Q v h') : RnC P S f args h Q :=
  ⟨1, v, h', by show evFn P S (evN P S 0) f args h = _; unfold evFn; rw [hs], hq⟩

end
end Go.Abs
namespace Go.Abs
open Go

/-! ### What stays -/
structure Fr (h h' : AH) : Prop where
  nx : h.nx ≤ h'.nx
  get : ∀ j, j < h.nx → h'.get j = h.get j
theorem Fr.refl (h : AH) : Fr h h := ⟨Nat.le_refl _, fun _ _ => rfl⟩
theorem Fr.trans {a b c : AH} (h : Fr a b) (k : Fr b c) : Fr a c := ⟨Nat.le_trans h.nx k.nx, fun j hj => (k.get j (Nat.lt_of_lt_of_le hj h.nx)).trans (h.get j hj)⟩
theorem Fr.new (h : AH) (o : AO) : Fr h (h.new o) := ⟨Nat.le_succ _, fun j hj => by rw [AH.get_new, if_neg (Nat.ne_of_lt hj)]⟩
theorem Fr.put {h h' : AH} (k : Fr h h') {i : Nat} (o : AO) (hi : h.nx ≤ i) : Fr h (h'.put i o) := ⟨k.nx, fun j hj => by rw [AH.get_put, if_neg (by omega)]; exact k.get j hj⟩
theorem Fr.news {h h' : AH} (k : Fr h h') (o : AO) : Fr h (h'.new o) := k.trans (Fr.new h' o)
theorem Fr.more {h h' : AH} (k : Fr h h') (n : Nat) (hn : h'.nx ≤ n) : Fr h { tr := h'.tr, nx := n } := ⟨Nat.le_trans k.nx hn, fun j hj => k.get j hj⟩

theorem AH.get_put_eq {h : AH} {i j : Nat} {o : AO} (e : j = i) : (h.put i o).get j = some o := by rw [AH.get_put, if_pos e]
theorem AH.get_put_ne {h : AH} {i j : Nat} {o : AO} (e : j ≠ i) : (h.put i o).get j = h.get j := by rw [AH.get_put, if_neg e]
theorem AH.get_new_eq {h : AH} {j : Nat} {o : AO} (e : j = h.nx) : (h.new o).get j = some o := by rw [AH.get_new, if_pos e]
theorem AH.get_new_ne {h : AH} {j : Nat} {o : AO} (e : j ≠ h.nx) : (h.new o).get j = h.get j := by rw [AH.get_new, if_neg e]
theorem AH.get_more (h : AH) (n j : Nat) : ({ tr := h.tr, nx := n } : AH).get j = h.get j := rfl
theorem absorb_nil (h : AH) : absorb [] h = h := rfl
theorem absorb_cons (i : Nat) (o : AO) (l : List (Nat × AO)) (h : AH) : absorb ((i, o) :: l) h = absorb l (h.put i o) := rfl
end Go.Abs
