/- The abstract layer, part 24: what library functions do. -/
import Derived.Test.YticccdaomgildaaGreatDoorAbs23
import Derived.Lib.Bytealg
import Derived.Laws.Externs
import Derived.Sort.KeysCollected
import Derived.Laws.AppendOwn
namespace Go.Abs
open Go Go.Proofs
set_option linter.unusedVariables false
set_option linter.unusedSimpArgs false

section
variable {P : Program} {ρ : Pm} {w : World} {K : Kp} {h : AH}

/-- A function without a body that the model answers by itself. -/
def ExtOK (P : Program) (f : FuncId) (e : Array Value → Sem Value) : Prop :=
  ∃ fn, P.funcs[f]? = some fn ∧ (fn.name == "runtime.NumGoroutine") = false ∧ fn.body.isNone = true ∧ Extern.findNext fn = none ∧ Extern.find fn = some e

theorem callRes_ext {f : FuncId} {e : Array Value → Sem Value} (hE : ExtOK P f e) {cargs : Array Value} {cv : Value} {w' : World} {Q : Value → World → Prop} (hr : (e cargs).run P w = .ok cv w') (hq : Q cv w') : CallRes P f cargs w Q := by
  obtain ⟨fn, h1, h2, h3, h4, h5⟩ := hE
  exact ⟨.value cv, w', by rw [run_callFunc_extern h1 h2 h3 h4 h5, hr]; rfl, hq⟩

theorem callRes_body {f : FuncId} (hb : bodied P f = true) {cargs : Array Value} {Q : Value → World → Prop} (hc : Calls P f cargs w fun e w' => ∃ cv, e = .returned cv ∧ Q cv w') : CallRes P f cargs w Q :=
  ⟨.enter f cargs, w, callFunc_bodied hb cargs w, callsIn_wide.2 hc⟩

/-! ### Counting a byte, looking for a byte -/
def cntA (k : Nat) : List Nat → Nat
  | [] => 0
  | a :: l => cond (Nat.beq a k) (cntA k l + 1) (cntA k l)

def idxA (k : Nat) : List Nat → Nat → Int
  | [], _ => -1
  | a :: l, i => cond (Nat.beq a k) (Int.ofNat i) (idxA k l (i + 1))

def sumCount (args : List AV) (h : AH) : Option (AV × AH) :=
  match args with
  | [.str s, .int .u8 c] => some (.int .i64 (Int.ofNat (cntA (c.toNat % 256) s)), h)
  | _ => none

def sumIndex (args : List AV) (h : AH) : Option (AV × AH) :=
  match args with
  | [.str s, .int .u8 c] => some (.int .i64 (idxA (c.toNat % 256) s 0), h)
  | _ => none

theorem byte_eq (b : UInt8) (n : Nat) : Nat.beq b.toNat (n % 256) = (b == n.toUInt8) := by
  rw [nbeq]
  have : (b.toNat = n % 256) ↔ b = n.toUInt8 := by
    rw [← UInt8.toNat_inj]
    simp [Nat.toUInt8]
  rw [Bool.eq_iff_iff, decide_eq_true_eq, beq_iff_eq]
  exact this

theorem cntA_eq (n : Nat) : ∀ l : List UInt8, cntA (n % 256) (l.map UInt8.toNat) = Lib.countByte l n.toUInt8
  | [] => rfl
  | b :: l => by
    simp only [List.map_cons, cntA, byte_eq, cntA_eq n l, Lib.countByte, List.count_cons]
    cases b == n.toUInt8 <;> simp

theorem indexByte_nonneg (l : List UInt8) (c : UInt8) : Lib.indexByte l c = -1 ∨ 0 ≤ Lib.indexByte l c := by
  have := Lib.indexByte_ge l c; omega

theorem idxA_eq (n : Nat) : ∀ (l : List UInt8) (i : Nat), idxA (n % 256) (l.map UInt8.toNat) i = if Lib.indexByte l n.toUInt8 = -1 then -1 else Lib.indexByte l n.toUInt8 + (i : Nat)
  | [], i => by simp [idxA, Lib.indexByte]
  | b :: l, i => by
    simp only [List.map_cons, idxA, byte_eq, idxA_eq n l (i + 1), Lib.indexByte]
    by_cases hb : (b == n.toUInt8) = true
    · simp only [hb, if_true, cond_true]
      simp
    · simp only [Bool.not_eq_true] at hb
      simp only [hb, cond_false, Bool.false_eq_true, if_false, beq_iff_eq]
      rcases indexByte_nonneg l n.toUInt8 with h1 | h1
      · simp [h1]
      · have h2 : Lib.indexByte l n.toUInt8 ≠ -1 := by omega
        have h3 : Lib.indexByte l n.toUInt8 + 1 ≠ -1 := by omega
        simp only [h2, h3, if_false]
        omega

theorem args2 {x y : AV} {cargs : Array Value} (hv : VRs ρ [x, y] cargs.toList) : ∃ cx cy, cargs = #[cx, cy] ∧ VR ρ x cx ∧ VR ρ y cy := by
  obtain ⟨l⟩ := cargs
  cases hv with
  | cons h1 t => cases t with
    | cons h2 t => cases t with
      | nil => exact ⟨_, _, rfl, h1, h2⟩

theorem args1 {x : AV} {cargs : Array Value} (hv : VRs ρ [x] cargs.toList) : ∃ cx, cargs = #[cx] ∧ VR ρ x cx := by
  obtain ⟨l⟩ := cargs
  cases hv with
  | cons h1 t => cases t with
    | nil => exact ⟨_, rfl, h1⟩

theorem sumCount_ok {f : FuncId} (hE : ExtOK P f Extern.BytealgCount.count) {args : List AV} {cargs : Array Value} {v : AV} {h' : AH} (hR : Rel K ρ h w) (hv : VRs ρ args cargs.toList) (hs : sumCount args h = some (v, h')) : CallRes P f cargs w (CallPost K h ρ v h') := by
  unfold sumCount at hs
  split at hs
  · obtain ⟨cx, cy, rfl, h1, h2⟩ := args2 hv
    cases h1; cases h2
    simp only [Option.some.injEq, Prod.mk.injEq] at hs
    obtain ⟨rfl, rfl⟩ := hs
    refine callRes_ext hE (Lib.run_countString _ _ w) ⟨ρ, Ext.refl _ _, ?_, hR⟩
    rename_i c s
    rw [show bytesOf s = s.data.toList.map UInt8.toNat from rfl, cntA_eq]
    exact .int _ _
  · simp at hs

theorem sumIndex_ok {f : FuncId} (hE : ExtOK P f Extern.BytealgIndexByte.indexByte) {args : List AV} {cargs : Array Value} {v : AV} {h' : AH} (hR : Rel K ρ h w) (hv : VRs ρ args cargs.toList) (hs : sumIndex args h = some (v, h')) : CallRes P f cargs w (CallPost K h ρ v h') := by
  unfold sumIndex at hs
  split at hs
  · obtain ⟨cx, cy, rfl, h1, h2⟩ := args2 hv
    cases h1; cases h2
    simp only [Option.some.injEq, Prod.mk.injEq] at hs
    obtain ⟨rfl, rfl⟩ := hs
    refine callRes_ext hE (Lib.run_indexByteString _ _ w) ⟨ρ, Ext.refl _ _, ?_, hR⟩
    rename_i c s
    rw [show bytesOf s = s.data.toList.map UInt8.toNat from rfl, idxA_eq]
    have : (if Lib.indexByte s.data.toList c.toNat.toUInt8 = -1 then (-1 : Int) else Lib.indexByte s.data.toList c.toNat.toUInt8 + ((0 : Nat) : Int)) = Lib.indexByte s.data.toList c.toNat.toUInt8 := by
      split <;> omega
    rw [this]
    exact .int _ _
  · simp at hs

/-! ### A map is cloned -/
noncomputable def sumClone (args : List AV) (h : AH) : Option (AV × AH) :=
  match args with
  | [.iface t (.map id)] => match h.get id with
    | some (.map es bs ck) => some (.iface t (.map h.nx), h.new (.map es bs ck))
    | _ => none
  | _ => none

theorem sumClone_ok {f : FuncId} (hE : ExtOK P f Extern.MapsClone.clone) {args : List AV} {cargs : Array Value} {v : AV} {h' : AH} (hR : Rel K ρ h w) (hv : VRs ρ args cargs.toList) (hs : sumClone args h = some (v, h')) : CallRes P f cargs w (CallPost K h ρ v h') := by
  unfold sumClone at hs
  split at hs
  · rename_i t id
    obtain ⟨cx, rfl, h1⟩ := args1 hv
    cases h1 with
    | iface hm =>
    cases hm with
    | map hp =>
    rename_i p
    split at hs
    · rename_i es bs clock hg
      simp only [Option.some.injEq, Prod.mk.injEq] at hs
      obtain ⟨rfl, rfl⟩ := hs
      obtain ⟨q, ces, hq, hh, hmr, hbs, hst⟩ := hR.map hg
      rw [hp] at hq; cases hq
      have hle : ρ.le (ρ.put h.nx ⟨w.heap.size, 0, 0⟩) := Pm.le_put (hR.fresh _ (Nat.le_refl _))
      obtain ⟨r1, r2⟩ := hR.push (o := .map es bs clock) (co := .map ces clock) (lim := 0) rfl ⟨ces, rfl, hmr.mono hle, hbs, hst⟩
      refine callRes_ext hE (cv := .iface t (.map (some w.heap.size))) (w' := { w with heap := w.heap.push (.map ces clock) }) ?_ ⟨_, r2, .iface (.map (Pm.put_self _ _ _)), r1⟩
      have he : Extern.MapsClone.clone #[.iface t (.map (some p.b))] = (getObj p.b >>= _) := rfl
      rw [he]
      simp only [Sem.run_bind, run_getObj' hh (fun _ _ _ hc => by cases hc), Result.andThen_ok, run_newObj, Sem.run_pure]
    · simp at hs
  · simp at hs

end
end Go.Abs
