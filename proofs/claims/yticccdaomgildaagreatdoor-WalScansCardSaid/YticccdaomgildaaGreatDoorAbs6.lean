/- The abstract layer, part 6: values made of parts; slices. -/
import Derived.Test.YticccdaomgildaaGreatDoorAbs5
namespace Go.Abs
open Go

section
variable {P : Program} {ρ : Pm} {w : World} {K : Kp} {h : AH}

theorem foldl_set (vs : List Value) : ∀ (cs : Array Value) (off k : Nat), off + k + vs.length ≤ cs.size →
    ((vs.zipIdx k).foldl (fun cs (x : Value × Nat) => cs.setIfInBounds (off + x.2) x.1) cs).toList = cs.toList.take (off + k) ++ vs ++ cs.toList.drop (off + k + vs.length) := by
  induction vs with
  | nil => intro cs off k _; simp
  | cons v vs ih =>
    intro cs off k hle
    simp only [List.length_cons] at hle
    simp only [List.zipIdx_cons, List.foldl_cons]
    rw [ih _ off (k + 1) (by simp; omega)]
    simp only [Array.toList_setIfInBounds, List.length_cons]
    have e1 : (cs.toList.set (off + k) v).take (off + (k + 1)) = cs.toList.take (off + k) ++ [v] := by
      rw [show off + (k + 1) = off + k + 1 by omega, List.take_succ_eq_append_getElem (by simp; omega)]
      simp [List.take_set_of_le]
    have e2 : (cs.toList.set (off + k) v).drop (off + (k + 1) + vs.length) = cs.toList.drop (off + k + (vs.length + 1)) := by
      rw [List.drop_set_of_lt (by omega)]
      congr 1; omega
    rw [e1, e2]
    simp

theorem VRs.put {cs vs : List AV} {m n : List Value} (hcs : VRs ρ cs m) (hvs : VRs ρ vs n) (off : Nat) : VRs ρ (putCells cs off vs) (m.take off ++ n ++ m.drop (off + n.length)) := by
  unfold putCells
  rw [hvs.length]
  exact ((hcs.take off).append hvs).append (hcs.drop _)

theorem fillA_sound {place : Nat → Option (Nat × Nat)} : ∀ (parts : List (Nat × AV)) (cparts : List (Nat × Value)) (cells out : List AV) (ccells : Array Value),
    parts.map (·.1) = cparts.map (·.1) → VRs ρ (parts.map (·.2)) (cparts.map (·.2)) → VRs ρ cells ccells.toList → fillA place cells parts = some out →
    ∃ cout, Instr.fill place ccells cparts = some cout ∧ VRs ρ out cout.toList := by
  intro parts
  induction parts with
  | nil =>
    intro cparts cells out ccells hi _ hc hf
    cases cparts with
    | nil => simp [fillA] at hf; subst hf; exact ⟨ccells, rfl, hc⟩
    | cons _ _ => simp at hi
  | cons pa parts ih =>
    intro cparts cells out ccells hi hv hc hf
    cases cparts with
    | nil => simp at hi
    | cons cpa cparts =>
      obtain ⟨i, v⟩ := pa
      obtain ⟨ci, cv⟩ := cpa
      simp only [List.map_cons, List.cons.injEq] at hi
      obtain ⟨rfl, hi⟩ := hi
      simp only [List.map_cons] at hv
      cases hv with
      | cons hv hvs =>
      simp only [fillA] at hf
      cases hp : place i with
      | none => simp [hp] at hf
      | some os =>
        obtain ⟨off, size⟩ := os
        cases hcl : cellsA v with
        | none => simp [hp, hcl] at hf
        | some vs =>
          simp only [hp, hcl, Option.bind_eq_bind, Option.bind_some] at hf
          split at hf
          · rename_i hcond
            simp only [Bool.and_eq_true, decide_eq_true_eq] at hcond
            have hcv := cellsA_sound hv hcl
            have hl := hcv.length
            have hcl' := hc.length
            have hsz : cv.cells.size = size := by rw [← hcond.1, hl]; simp
            have hfill := foldl_set cv.cells.toList ccells off 0 (by simp at hcl' hl ⊢; omega)
            obtain ⟨cout, h1, h2⟩ := ih cparts (putCells cells off vs) out ((cv.cells.toList.zipIdx 0).foldl (fun cs (x : Value × Nat) => cs.setIfInBounds (off + x.2) x.1) ccells) hi hvs
              (by rw [hfill, Nat.add_zero]; exact hc.put hcv off) hf
            refine ⟨cout, ?_, h2⟩
            simp only [Instr.fill, hp, hsz, ne_eq, not_true]
            rw [if_neg (by simp at hcl'; simp; omega)]
            rw [← h1]
            congr 1
            rw [← Array.foldl_toList, Array.toList_zipIdx]
          · simp at hf

theorem fieldsA_sound : ∀ (fs : List Field) (l : List (Nat × Nat)), fieldsA P fs = some l → (fs.mapM (m := Sem) fun f => do pure (f.offset, ← sizeOf f.type)).run P w = .ok l w
  | [], l, he => by simp [fieldsA] at he; subst he; rfl
  | f :: fs, l, he => by
    simp only [fieldsA, List.mapM_cons] at he
    cases hs : tsize P f.type with
    | none => simp [hs] at he
    | some n =>
      cases hr : fieldsA P fs with
      | none =>
        have hr' : (fs.mapM fun f => (tsize P f.type).map fun n => (f.offset, n)) = none := hr
        simp [hs, hr'] at he
      | some r =>
        have hr' : (fs.mapM fun f => (tsize P f.type).map fun n => (f.offset, n)) = some r := hr
        simp only [hs, hr', Option.map_some, Option.bind_eq_bind, Option.bind_some, Option.pure_def, Option.some.injEq] at he
        subst he
        have ih := fieldsA_sound fs r hr
        simp only [List.mapM_cons, Sem.run_bind, run_sizeOf' hs, Result.andThen_ok, Sem.run_pure]
        rw [ih]
        rfl

theorem zero_cells {z : Value} {zc : List AV} (hc : cellsA (toAV z) = some zc) : VRs ρ zc z.cells.toList := cellsA_sound (toAV_sound z) hc

theorem evBuild_sound {t : TypeId} {parts : List (Nat × AV)} {cparts : Array (Nat × Value)} {a : AV} (hi : parts.map (·.1) = cparts.toList.map (·.1)) (hv : VRs ρ (parts.map (·.2)) (cparts.toList.map (·.2)))
    (hb : evBuild P t parts = some a) : ∃ cv, (Instr.build t cparts).run P w = .ok cv w ∧ VR ρ a cv := by
  unfold evBuild at hb
  cases hz : tzero P t with
  | none => simp [hz] at hb
  | some z =>
    cases hzc : cellsA (toAV z) with
    | none => simp [hz, hzc] at hb
    | some zc =>
      simp only [hz, hzc, Option.bind_eq_bind, Option.bind_some] at hb
      have hzr := zero_cells (ρ := ρ) hzc
      unfold Instr.build
      rw [Sem.run_bind, run_zeroValue' hz]
      simp only [Result.andThen_ok]
      split at hb
      · rename_i fs hd
        cases hf : fieldsA P fs.toList with
        | none => simp [hf] at hb
        | some places =>
          simp only [hf, Option.bind_some] at hb
          cases hfill : fillA (fun x => places[x]?) zc parts with
          | none => simp [hfill] at hb
          | some out =>
            simp only [hfill, Option.bind_some, Option.some.injEq] at hb
            subst hb
            obtain ⟨cout, h1, h2⟩ := fillA_sound parts cparts.toList zc out z.cells hi hv hzr hfill
            have hm := fieldsA_sound (w := w) fs.toList places hf
            refine ⟨.agg cout, ?_, .agg h2⟩
            rw [Sem.run_bind, run_underlying' hd]
            simp only [Result.andThen_ok, Sem.run_bind]
            have hm' : (Array.mapM (m := Sem) (fun f : Field => do pure (f.offset, ← sizeOf f.type)) fs).run P w = .ok places.toArray w := by
              rw [Array.mapM_eq_mapM_toList, Sem.run_map, hm]; rfl
            rw [hm']
            simp only [Result.andThen_ok]
            have : (fun x : Nat => places.toArray[x]?) = fun x : Nat => places[x]? := by funext x; simp
            rw [this, h1]
            rfl
      · rename_i n e hd
        cases hs : tsize P e with
        | none => simp [hs] at hb
        | some sz =>
          simp only [hs, Option.bind_some] at hb
          cases hfill : fillA (fun i => some (i * sz, sz)) zc parts with
          | none => simp [hfill] at hb
          | some out =>
            simp only [hfill, Option.bind_some, Option.some.injEq] at hb
            subst hb
            obtain ⟨cout, h1, h2⟩ := fillA_sound parts cparts.toList zc out z.cells hi hv hzr hfill
            refine ⟨.agg cout, ?_, .agg h2⟩
            rw [Sem.run_bind, run_underlying' hd]
            simp only [Result.andThen_ok, Sem.run_bind, run_sizeOf' hs, h1, Sem.run_pure]
      · simp at hb

theorem repCells_length (zc : List AV) (n : Nat) : (repCells zc n).length = n * zc.length := by
  induction n with
  | zero => simp [repCells]
  | succ n ih => simp [repCells, ih, Nat.succ_mul]; omega

/-- A row of zeros, as the model writes it. -/
theorem VRs.rep {zc : List AV} {z : Array Value} (hz : VRs ρ zc z.toList) : ∀ n, VRs ρ (repCells zc n) ((Array.range (n * z.size)).map fun i => z[i % z.size]!).toList := by
  intro n
  have hl : zc.length = z.size := by rw [hz.length]; simp
  refine VRs.of_get (by simp [repCells_length, hl]) fun i a v h1 h2 => ?_
  simp only [Array.toList_map, Array.toList_range, List.getElem?_map] at h2
  have hi : i < n * z.size := by
    have := (List.getElem?_eq_some_iff.1 h1).1
    rwa [repCells_length, hl] at this
  rw [List.getElem?_range hi] at h2
  simp only [Option.map_some, Option.some.injEq] at h2
  have hzpos : 0 < z.size := by
    rcases Nat.eq_zero_or_pos z.size with h0 | h0
    · rw [h0] at hi; omega
    · exact h0
  have key : ∀ n i, i < n * zc.length → (repCells zc n)[i]? = zc[i % zc.length]? := by
    intro n
    induction n with
    | zero => intro i hi; omega
    | succ n ih =>
      intro i hi
      simp only [repCells]
      by_cases hlt : i < zc.length
      · rw [List.getElem?_append_left hlt, Nat.mod_eq_of_lt hlt]
      · rw [List.getElem?_append_right (by omega), ih (i - zc.length) (by rw [Nat.succ_mul] at hi; omega)]
        have : i % zc.length = (i - zc.length) % zc.length := Nat.mod_eq_sub_mod (by omega)
        rw [this]
  rw [key n i (by rw [hl]; exact hi), hl] at h1
  have hmod : i % z.size < z.size := Nat.mod_lt _ hzpos
  obtain ⟨u, hu, r⟩ := hz.get h1
  have : z[i % z.size]! = u := by
    rw [getElem!_pos z (i % z.size) hmod]
    have h3 : z[i % z.size]? = some u := by simpa using hu
    rw [Array.getElem?_eq_getElem hmod] at h3
    exact Option.some.inj h3
  rw [this] at h2
  subst h2
  exact r

theorem VRs.toCells {l : List AV} {m : Array Value} (hl : VRs ρ l m.toList) : ∀ (i : Nat) (a : AV), l[i]? = some a → ∃ v, m[i]? = some v ∧ VR ρ a v := fun i a hi => by
  obtain ⟨v, hv, r⟩ := hl.get hi
  exact ⟨v, by simpa using hv, r⟩

/-- A new row of cells as a slice. -/
theorem newSlice {cs : List AV} {ccs : Array Value} {e : TypeId} {len cap sz : Nat} {c : Option Nat} {text : Bool} (hR : Rel K ρ h w) (hc : ∀ (i : Nat) (a : AV), cs[i]? = some a → ∃ v, ccs[i]? = some v ∧ VR ρ a v) (hle : cs.length ≤ ccs.size)
    (hne : text = false → 0 < ccs.size) (hl : len ≤ cap) (hx : cap * sz ≤ ccs.size) (hcap : ∀ n, c = some n → cap = n) :
    ∃ ρ', Ext h.nx ρ (h.new (.cells cs true text)).nx ρ' ∧ VR ρ' (.sl h.nx 0 len sz c) (.slice (some ⟨w.heap.size, 0, none⟩) len cap) ∧ Rel K ρ' (h.new (.cells cs true text)) { w with heap := w.heap.push (.cells ccs e (0, 0)) } := by
  obtain ⟨h1, h2⟩ := hR.newCells (e := e) hc hle hne
  exact ⟨_, h2, .sl (Pm.put_self _ _ _) hl (.inr rfl) (.inr (by simpa using hx)) hcap, h1⟩

/-- What an operation does that makes a block. -/
def AllocOk (P : Program) (ρ : Pm) (s : Sem Value) (ob : AO) (mk : Nat → AV) : Prop :=
  ob.own = true ∧ ∀ w : World, ∃ co lim cv, s.run P w = .ok cv { w with heap := w.heap.push co } ∧
    ∀ (ρ' : Pm) (id : Nat), ρ.le ρ' → ρ' id = some ⟨w.heap.size, 0, lim⟩ → OR ρ' ⟨w.heap.size, 0, lim⟩ ob (some co) ∧ VR ρ' (mk id) cv

theorem newOR {cs : List AV} {ccs : Array Value} {e : TypeId} {text : Bool} {b : Nat} {ρ' : Pm} (hle' : ρ.le ρ') (hc : ∀ (i : Nat) (a : AV), cs[i]? = some a → ∃ v, ccs[i]? = some v ∧ VR ρ a v) (hle : cs.length ≤ ccs.size)
    (hne : text = false → 0 < ccs.size) : OR ρ' ⟨b, 0, ccs.size⟩ (.cells cs true text) (some (.cells ccs e (0, 0))) :=
  ⟨ccs, e, (0, 0), rfl, by simp, by simpa using hle, fun i a hi => let ⟨v, hv, r⟩ := hc i a hi; ⟨v, by simpa using hv, r.mono hle'⟩, fun _ => .inl rfl, fun _ ht => ⟨rfl, hne ht, rfl⟩⟩

theorem bsA_sound {t : TypeId} {len : Nat} {parts : List (Nat × AV)} {cparts : Array (Nat × Value)} {ob : AO} {mk : Nat → AV} (hi : parts.map (·.1) = cparts.toList.map (·.1)) (hv : VRs ρ (parts.map (·.2)) (cparts.toList.map (·.2)))
    (hb : bsA P t len parts = some (ob, mk)) : AllocOk P ρ (Instr.buildSlice t len cparts) ob mk := by
  unfold bsA at hb
  split at hb
  · rename_i e hd
    cases hs : tsize P e with
    | none => simp [hs] at hb
    | some sz =>
      simp only [hs, Option.bind_eq_bind, Option.bind_some] at hb
      split at hb
      · simp at hb
      · rename_i hbig
        cases hz : tzero P e with
        | none => simp [hz] at hb
        | some z =>
          cases hzc : cellsA (toAV z) with
          | none => simp [hz, hzc] at hb
          | some zc =>
            simp only [hz, hzc, Option.bind_some] at hb
            split at hb
            · rename_i hzs
              cases hfill : fillA (fun i => some (i * sz, sz)) (repCells zc len) parts with
              | none => simp [hfill] at hb
              | some out =>
                simp only [hfill, Option.bind_some, Option.some.injEq, Prod.mk.injEq] at hb
                obtain ⟨rfl, rfl⟩ := hb
                have hzr := zero_cells (ρ := ρ) hzc
                have hzn : z.cells.size = sz := by rw [← hzs, hzr.length]; simp
                -- the zeros that the model writes
                have hrow : ∃ zs : Array Value, ((len * sz = 0 ∧ zs = #[]) ∨ (len * sz ≠ 0 ∧ zs = z.cells)) ∧
                    VRs ρ (repCells zc len) ((Array.range (len * sz)).map (zs[· % zs.size]!)).toList := by
                  by_cases h0 : len * sz = 0
                  · refine ⟨#[], .inl ⟨h0, rfl⟩, ?_⟩
                    rw [h0]
                    have : repCells zc len = [] := List.length_eq_zero_iff.1 (by rw [repCells_length, hzs]; exact h0)
                    rw [this]; simp; exact .nil
                  · refine ⟨z.cells, .inr ⟨h0, rfl⟩, ?_⟩
                    have := hzr.rep len
                    rw [hzn] at this
                    rw [hzn]
                    exact this
                obtain ⟨zs, hzs', hrow⟩ := hrow
                obtain ⟨cout, h1, h2⟩ := fillA_sound parts cparts.toList (repCells zc len) out _ hi hv hrow hfill
                have hlen : out.length = cout.size := by rw [h2.length]; simp
                have hfl : cout.size = len * sz := by
                  have : ∀ (l : List (Nat × Value)) (c c' : Array Value) (pl : Nat → Option (Nat × Nat)), Instr.fill pl c l = some c' → c'.size = c.size := by
                    intro l
                    induction l with
                    | nil => intro c c' pl he; simp [Instr.fill] at he; rw [he]
                    | cons x l ih =>
                      intro c c' pl he
                      obtain ⟨i, v⟩ := x
                      simp only [Instr.fill] at he
                      split at he
                      · simp at he
                      · split at he
                        · simp at he
                        · rw [ih _ _ _ he]
                          have : ∀ (l : List (Value × Nat)) (c : Array Value) (off : Nat), (l.foldl (fun cs (x : Value × Nat) => cs.setIfInBounds (off + x.2) x.1) c).size = c.size := by
                            intro l
                            induction l with
                            | nil => intro c off; rfl
                            | cons x l ih => intro c off; simp only [List.foldl_cons]; rw [ih]; simp
                          rw [← Array.foldl_toList]
                          exact this _ _ _
                  rw [this _ _ _ _ h1]; simp
                refine ⟨rfl, fun w => ⟨.cells cout e (0, 0), cout.size, .slice (some ⟨w.heap.size, 0, none⟩) len len, ?_, fun ρ' id hle' hid => ⟨newOR hle' h2.toCells (by omega) (fun ht => by rw [hfl]; simp at ht; exact Nat.pos_of_ne_zero (by simpa using ht)), .sl hid (Nat.le_refl _) (.inr rfl) (.inr (by simp [hfl])) (fun n hn => by cases hn; rfl)⟩⟩⟩
                unfold Instr.buildSlice
                rw [Sem.run_bind, run_underlying' hd]
                simp only [Result.andThen_ok]
                rw [Sem.run_bind, run_sizeOf' hs]
                simp only [Result.andThen_ok]
                rw [Sem.run_ite, if_neg hbig]
                rcases hzs' with ⟨h0, rfl⟩ | ⟨h0, rfl⟩
                · rw [Sem.run_ite, if_pos h0]
                  simp only [Sem.run_bind, Sem.run_pure, Result.andThen_ok, h1]
                  simp [newRow]
                · rw [Sem.run_ite, if_neg h0]
                  simp only [Sem.run_bind, Sem.run_pure, Result.andThen_ok, run_zeroValue' hz, h1]
                  simp [newRow]
            · simp at hb
  · simp at hb

end
end Go.Abs
