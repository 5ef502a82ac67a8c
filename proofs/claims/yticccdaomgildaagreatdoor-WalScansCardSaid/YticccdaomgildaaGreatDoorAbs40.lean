/- The abstract layer, part 40: texts compared, texts joined. -/
import Derived.Test.YticccdaomgildaaGreatDoorAbs39
import Derived.Lib.Join
namespace Go.Abs
open Go Go.RowKit Go.Proofs
set_option linter.unusedVariables false

section
variable {P : Program} {ρ : Pm} {w : World} {K : Kp} {h : AH}

/-! ### Texts compared -/
def cmpA : List Nat → List Nat → Int
  | [], [] => 0
  | [], _ :: _ => -1
  | _ :: _, [] => 1
  | a :: l, b :: m => cond (Nat.blt a b) (-1) (cond (Nat.blt b a) 1 (cmpA l m))
theorem cmpA_eq : ∀ l m : List UInt8, cmpA (l.map UInt8.toNat) (m.map UInt8.toNat) = Lib.compareBytes l m
  | [], [] => rfl
  | [], _ :: _ => rfl
  | _ :: _, [] => rfl
  | a :: l, b :: m => by
    simp only [List.map_cons, cmpA, Lib.compareBytes, nat_blt_dec, cmpA_eq l m, UInt8.lt_iff_toNat_lt]
    by_cases h1 : a.toNat < b.toNat
    · simp [h1]
    · by_cases h2 : b.toNat < a.toNat <;> simp [h1, h2]
def sumCmp (args : List AV) (h : AH) : Option (AV × AH) :=
  match args with
  | [.str a, .str b] => some (.int .i64 (cmpA a b), h)
  | _ => none
theorem sumCmp_ok {f : FuncId} (hE : ExtOK P f Extern.BytealgCompare.compare) {args : List AV} {cargs : Array Value} {v : AV} {h' : AH} (hR : Rel K ρ h w) (hv : VRs ρ args cargs.toList) (hs : sumCmp args h = some (v, h')) : CallRes P f cargs w (CallPost K h ρ v h') := by
  unfold sumCmp at hs
  split at hs
  · obtain ⟨cx, cy, rfl, h1, h2⟩ := args2 hv
    cases h1; cases h2
    simp only [Option.some.injEq, Prod.mk.injEq] at hs
    obtain ⟨rfl, rfl⟩ := hs
    refine callRes_ext hE (Lib.run_compareString _ _ w) ⟨ρ, Ext.refl _ _, ?_, hR⟩
    rename_i a b
    rw [show bytesOf a = a.data.toList.map UInt8.toNat from rfl, show bytesOf b = b.data.toList.map UInt8.toNat from rfl, cmpA_eq]
    exact .int _ _
  · simp at hs

/-! ### Texts joined -/
def JoinAt (P : Program) (f : FuncId) : Prop := ∀ (bk o c : Nat) (xs : List ByteArray) (sep : ByteArray) (w : World),
  (∀ (j : Nat) x, xs[j]? = some x → w.cell? ⟨bk, o + j, none⟩ = some (.string x)) → bk < w.heap.size → xs.length ≤ 140737488355328 → xs.length ≤ c →
  (Lib.join (xs.map (·.data.toList)) sep.data.toList).length ≤ 140737488355328 →
  Calls P f #[.slice (some ⟨bk, o, none⟩) xs.length c, .string sep] w fun e w' => e = .returned (.string ⟨(Lib.join (xs.map (·.data.toList)) sep.data.toList).toArray⟩) ∧ Below w.heap.size w w'
def strsA : List AV → Option (List (List Nat))
  | [] => some []
  | .str s :: r => (strsA r).map (s :: ·)
  | _ :: _ => none
def joinA (sep : List Nat) : List (List Nat) → List Nat
  | [] => []
  | [x] => x
  | x :: y :: r => x ++ (sep ++ joinA sep (y :: r))
theorem joinA_eq (sep : List UInt8) : ∀ xs : List (List UInt8), joinA (sep.map UInt8.toNat) (xs.map fun x => x.map UInt8.toNat) = (Lib.join xs sep).map UInt8.toNat
  | [] => rfl
  | [x] => by simp [joinA, Lib.join_one]
  | x :: y :: r => by
    have ih := joinA_eq sep (y :: r)
    simp only [List.map_cons] at ih ⊢
    rw [joinA, ih, Lib.join_cons, Lib.join_cons, Lib.joinTail]
    simp [Lib.joinTail]
noncomputable def sumJoin (args : List AV) (h : AH) : Option (AV × AH) :=
  match args with
  | [.sl id off len sz _, .str sep] => cond (Nat.beq sz 1) (match cellsAt h id off len with
    | some (a :: l) => match strsA (a :: l) with
      | some ss => cond (Nat.ble ss.length 140737488355328) (cond (Nat.ble (joinA sep ss).length 140737488355328) (some (.str (joinA sep ss), h)) none) none
      | none => none
    | _ => none) none
  | _ => none
theorem strsA_len : ∀ {l : List AV} {ss : List (List Nat)}, strsA l = some ss → ss.length = l.length
  | [], ss, h => by cases h; rfl
  | a :: l, ss, h => by
    cases a <;> first | (cases h; done) | skip
    unfold strsA at h
    rw [Option.map_eq_some_iff] at h
    obtain ⟨ss', h6, rfl⟩ := h
    rw [List.length_cons, strsA_len h6, List.length_cons]
theorem strs_cells {b : Nat} : ∀ {l : List AV} {ss : List (List Nat)} {base : Nat}, strsA l = some ss → (∀ (i : Nat) (a : AV), l[i]? = some a → ∃ v, w.cell? ⟨b, base + i, none⟩ = some v ∧ VR ρ a v) →
    ∃ xs : List ByteArray, xs.map bytesOf = ss ∧ ∀ (j : Nat) x, xs[j]? = some x → w.cell? ⟨b, base + j, none⟩ = some (.string x)
  | [], ss, base, hs, _ => by cases hs; exact ⟨[], rfl, fun j x hj => by simp at hj⟩
  | a :: l, ss, base, hs, hc => by
    cases a <;> first | (cases hs; done) | skip
    rename_i s
    unfold strsA at hs
    rw [Option.map_eq_some_iff] at hs
    obtain ⟨ss', h1, rfl⟩ := hs
    obtain ⟨xs, h2, h3⟩ := strs_cells (base := base + 1) h1 (fun i a hi => by
      have := hc (i + 1) a (by simpa using hi)
      rwa [show base + (i + 1) = base + 1 + i by omega] at this)
    obtain ⟨v, hv, hr⟩ := hc 0 _ rfl
    cases hr with
    | str x =>
    refine ⟨x :: xs, by rw [List.map_cons, h2], fun j y hj => ?_⟩
    cases j with
    | zero => cases hj; exact hv
    | succ j =>
      have := h3 j y (by simpa using hj)
      rwa [show base + 1 + j = base + (j + 1) by omega] at this
theorem sumJoin_ok {f : FuncId} (hJ : JoinAt P f) (hb : bodied P f = true) {args : List AV} {cargs : Array Value} {v : AV} {h' : AH} (hR : Rel K ρ h w) (hv : VRs ρ args cargs.toList) (hs : sumJoin args h = some (v, h')) : CallRes P f cargs w (CallPost K h ρ v h') := by
  unfold sumJoin at hs
  split at hs
  · rename_i id off len sz c sep
    cases hz : Nat.beq sz 1 <;> rw [hz] at hs
    · cases hs
    have hz := Nat.eq_of_beq_eq_true hz
    subst hz
    simp only [cond_true] at hs
    split at hs
    · rename_i a l hc
      split at hs
      · rename_i ss hss
        have hs2 : Nat.ble ss.length 140737488355328 = true ∧ Nat.ble (joinA sep ss).length 140737488355328 = true ∧ (AV.str (joinA sep ss), h) = (v, h') := by
          cases h1 : Nat.ble ss.length 140737488355328 <;> rw [h1] at hs
          · cases hs
          cases h2 : Nat.ble (joinA sep ss).length 140737488355328 <;> rw [h2] at hs
          · cases hs
          exact ⟨rfl, rfl, Option.some.inj hs⟩
        obtain ⟨hl1, hl2, hs3⟩ := hs2
        cases hs3
        have hl1 := Nat.le_of_ble_eq_true hl1
        have hl2 := Nat.le_of_ble_eq_true hl2
        have hlen := cellsAt_length hc
        obtain ⟨cx, cy, rfl, h1, h2⟩ := args2 hv
        cases h2 with
        | str sep =>
        cases h1 with
        | sl hp hlc ha hxx hcc =>
        rename_i p ad cap
        have hpos : 0 < len := by rw [← hlen]; simp
        have ha' : ad = ⟨p.b, p.o + off, none⟩ := ha.resolve_left (by omega)
        subst ha'
        unfold cellsAt at hc
        split at hc
        · rename_i cs own text hg
          split at hc
          · rename_i hle
            have hc' := Option.some.inj hc
            obtain ⟨q, hq, hor, -, -⟩ := hR.obj id _ hg
            rw [hp] at hq; cases hq
            obtain ⟨ca, e, fr, g1, g2, g3, g4, -⟩ := hor
            obtain ⟨xs, hx1, hx2⟩ := strs_cells (w := w) (ρ := ρ) (b := p.b) (base := p.o + off) hss (fun i a' hi => by
              have hkl := (List.getElem?_eq_some_iff.1 hi).1
              rw [hlen] at hkl
              have hk2 : cs[off + i]? = some a' := by
                rw [← hc', List.getElem?_take_of_lt hkl, List.getElem?_drop] at hi
                exact hi
              obtain ⟨u, hu, hr⟩ := g4 _ a' hk2
              refine ⟨u, ?_, hr⟩
              simp only [World.cell?, g1]
              rw [Nat.add_assoc]; exact hu)
            have hxl : xs.length = len := by
              have h5 := strsA_len hss
              rw [← hlen, ← h5, ← hx1, List.length_map]
            have hjoin : joinA (bytesOf sep) ss = (Lib.join (xs.map (·.data.toList)) sep.data.toList).map UInt8.toNat := by
              rw [← joinA_eq, List.map_map, ← hx1]
              rfl
            have hcall := hJ p.b (p.o + off) cap xs sep w hx2 (hR.lt hg hp) (by rw [← hx1, List.length_map] at hl1; exact hl1) (by rw [hxl]; exact hlc) (by rw [hjoin, List.length_map] at hl2; exact hl2)
            rw [hxl] at hcall
            refine callRes_body hb (Calls.mono hcall fun e w' ⟨he, hbel⟩ => ⟨_, he, ρ, Ext.refl _ _, ?_, hR.below hbel⟩)
            rw [hjoin]
            have h7 : (Lib.join (xs.map (·.data.toList)) sep.data.toList).map UInt8.toNat = bytesOf ⟨(Lib.join (xs.map (·.data.toList)) sep.data.toList).toArray⟩ := by simp [bytesOf]
            rw [h7]
            exact .str _
          · cases hc
        · cases hc
      · cases hs
    · cases hs
  · cases hs

end
end Go.Abs
