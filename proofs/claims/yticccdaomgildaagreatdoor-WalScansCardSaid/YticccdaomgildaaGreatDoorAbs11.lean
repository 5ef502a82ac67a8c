/- The abstract layer, part 11: copy, clear, len; maps. -/
import Derived.Test.YticccdaomgildaaGreatDoorAbs10
namespace Go.Abs
open Go
set_option linter.unusedVariables false
set_option linter.unusedSimpArgs false

section
variable {P : Program} {ρ : Pm} {w : World} {K : Kp} {h : AH}

theorem all_oneCell {l : List AV} {m : List Value} (hl : VRs ρ l m) (ho : l.all oneA = true) : ∀ u ∈ m, u.oneCell' = true := fun u hu => by
  obtain ⟨j, hj, rfl⟩ := List.getElem_of_mem hu
  have hjl : j < l.length := by rw [hl.length]; exact hj
  obtain ⟨u', hu', rr⟩ := hl.get (List.getElem?_eq_getElem hjl)
  rw [List.getElem?_eq_getElem hj] at hu'
  cases hu'
  exact oneA_sound rr (by simp only [List.all_eq_true] at ho; exact ho _ (List.getElem_mem hjl))

theorem firstA_length {x : AV} {size n : Nat} {l : List AV} {m : Nat} (hf : firstA h size n x = some l) (hm : lenA x = some m) (hn : n ≤ m) : l.length = n * size := by
  unfold firstA at hf
  split at hf
  · split at hf
    · rename_i h0; simp only [Option.some.injEq] at hf; subst hf; simp [h0]
    · simp at hf
  · split at hf
    · unfold cellsAt at hf
      split at hf
      · split at hf
        · simp only [Option.some.injEq] at hf; subst hf; simp; omega
        · simp at hf
      · simp at hf
    · simp at hf
  · split at hf
    · rename_i s hsz
      simp only [Option.some.injEq] at hf
      simp only [lenA, Option.some.injEq] at hm
      subst hf; subst hm; simp [hsz]; omega
    · simp at hf
  · simp at hf

theorem evCopy_sound (hR : Rel K ρ h w) {argTypes : Array TypeId} {ty : TypeId} {d s : AV} {cd cs : Value} {r : ORes} (hd : VR ρ d cd) (hs : VR ρ s cs) (hb : evCopy P h argTypes d s = some r) :
    ∃ a h' ρ' cv w', r = .val a h' ∧ (Builtin.copy_ argTypes ty #[cd, cs]).run P w = .ok cv w' ∧ Ext h.nx ρ h'.nx ρ' ∧ VR ρ' a cv ∧ Rel K ρ' h' w' := by
  unfold evCopy at hb
  cases h0 : argTypes[0]? with
  | none => simp [h0] at hb
  | some dt =>
  simp only [h0, Option.bind_eq_bind, Option.bind_some] at hb
  split at hb
  · rename_i e hdt
    cases hts : tsize P e with
    | none => simp [hts] at hb
    | some sz =>
    cases hls : lenA s with
    | none => simp [hts, hls] at hb
    | some n =>
    cases hld : lenA d with
    | none => simp [hts, hls, hld] at hb
    | some m =>
    simp only [hts, hls, hld, Option.bind_some] at hb
    cases hf : firstA h sz (Nat.min n m) s with
    | none => simp [hf] at hb
    | some new =>
    simp only [hf, Option.bind_some] at hb
    obtain ⟨vnew, hv1, hv2⟩ := firstA_sound (P := P) hR hs hf
    have hnl := firstA_length hf hls (Nat.min_le_left n m)
    have hrun0 : ∀ (base : Option Addr) (cap : Nat), (Builtin.copy_ argTypes ty #[.slice base m cap, cs]).run P w = ((match base with | some a => storeCells a vnew.toList | none => pure ()).run P w).andThen fun _ w' => .ok (goInt (Nat.min n m : Nat)) w' := by
      intro base cap
      unfold Builtin.copy_
      simp only [h0, List.getElem?_toArray, List.getElem?_cons_zero, List.getElem?_cons_succ, Sem.run_bind, run_underlying' hdt, Result.andThen_ok, run_sizeOf' hts, lenA_sound hs hls, hv1]
      cases base <;> simp
    split at hb
    · cases hd
      simp only [Option.some.injEq] at hb
      subst hb
      simp only [lenA, Option.some.injEq] at hld
      subst hld
      exact ⟨_, _, ρ, _, w, rfl, by rw [hrun0]; rfl, Ext.refl _ _, .int _ _, hR⟩
    · rename_i id off m' dsz c
      cases hd with
      | sl hp hlc ha hxx hc =>
      rename_i p ad cap
      simp only [lenA, Option.some.injEq] at hld
      subst hld
      split at hb
      · rename_i cells text hg
        split at hb
        · rename_i hcond
          simp only [Bool.and_eq_true, decide_eq_true_eq] at hcond
          obtain ⟨⟨rfl, hle⟩, hone⟩ := hcond
          simp only [Option.some.injEq] at hb
          subst hb
          obtain ⟨w', hrun, hrel⟩ := hR.storeCells (P := P) hg hp hle hv2 (all_oneCell hv2 hone)
          refine ⟨_, _, ρ, _, w', rfl, ?_, Ext.refl _ _, .int _ _, hrel⟩
          rw [hrun0]
          rcases ha with h00 | rfl
          · have hm0 : m' = 0 := by omega
            subst hm0
            have hmin : Nat.min n 0 = 0 := Nat.min_zero n
            have : vnew.toList = [] := by
              have := hv2.length
              rw [hnl, hmin] at this
              exact List.length_eq_zero_iff.1 (by rw [← this]; simp)
            rw [this] at hrun ⊢
            have hw : w' = w := by
              have : (Go.storeCells ⟨p.b, p.o + off, none⟩ []).run P w = .ok () w := rfl
              rw [this] at hrun
              cases hrun; rfl
            subst hw
            rfl
          · simp only [hrun, Result.andThen_ok]
            rfl
        · simp at hb
      · simp at hb
    · simp at hb
  · simp at hb

theorem Rel.map {id : Nat} {es : List (AV × AV)} {bs : List Nat} {ck : Nat} (hR : Rel K ρ h w) (hg : h.get id = some (.map es bs ck)) : ∃ p ces, ρ id = some p ∧ w.heap[p.b]? = some (.map ces ck) ∧ MR ρ es ces.toList ∧ bs = ces.toList.map (·.born) ∧ MapKept.Stamped ces ck := by
  obtain ⟨p, hp, ⟨ces, h1, h2, h3, h4⟩, _⟩ := hR.obj id _ hg
  exact ⟨p, ces, hp, h1, h2, h3, h4⟩

theorem run_getObj' {r : Nat} {o : Obj} (hh : w.heap[r]? = some o) (hn : ∀ c e f, o ≠ .cells c e f) : (getObj r).run P w = .ok o w := by
  simp only [getObj, Sem.run, hh]

theorem run_setObj' {r : Nat} {o o' : Obj} (hh : w.heap[r]? = some o) (hn : ∀ c e f, o ≠ .cells c e f) : (setObj r o').run P w = .ok () { w with heap := w.heap.setIfInBounds r o' } := by
  simp only [setObj, Sem.run, hh]

/-- A map is changed. -/
theorem Rel.setObj (hR : Rel K ρ h w) {id : Nat} {o o' : AO} {co' : Obj} {p : Pl} (hg : h.get id = some o) (hp : ρ id = some p) (hown : o.own = true) (hown' : o'.own = true) (ho : OR ρ p o' (some co')) :
    Rel K ρ (h.put id o') { w with heap := w.heap.setIfInBounds p.b co' } := by
  refine hR.change hg hp hown hown' rfl rfl rfl (by simp) (fun b hb => by simp only; rw [Array.getElem?_setIfInBounds_ne (Ne.symm hb)]) ?_
  have hlt := hR.lt hg hp
  have : (w.heap.setIfInBounds p.b co')[p.b]? = some co' := by simp [hlt]
  simp only [this]
  exact ho

theorem MR.length : ∀ {l : List (AV × AV)} {m : List MapEntry}, MR ρ l m → l.length = m.length
  | [], [], _ => rfl
  | (_, _) :: _, _ :: _, ⟨_, _, h3⟩ => by simp [MR.length h3]
  | [], _ :: _, hh => hh.elim
  | (_, _) :: _, [], hh => hh.elim

theorem evLen_sound (hR : Rel K ρ h w) {argTypes : Array TypeId} {ty : TypeId} {x a : AV} {cx : Value} (hx : VR ρ x cx) (hb : evLen P h argTypes x = some a) :
    ∃ cv, (Builtin.len_ argTypes ty #[cx]).run P w = .ok cv w ∧ VR ρ a cv := by
  unfold evLen at hb
  cases h0 : argTypes[0]? with
  | none => simp [h0] at hb
  | some t =>
  simp only [h0, Option.bind_eq_bind, Option.bind_some] at hb
  unfold Builtin.len_
  simp only [h0, List.getElem?_toArray, List.getElem?_cons_zero, Sem.run_bind]
  split at hb
  · rename_i hd; cases hx; simp only [Option.some.injEq] at hb; subst hb
    rw [bytesOf_length]
    exact ⟨_, by rw [run_underlying' hd]; rfl, .int _ _⟩
  · rename_i hd; simp only [Option.some.injEq] at hb; subst hb
    exact ⟨_, by rw [run_underlying' hd]; rfl, .int _ _⟩
  · rename_i hd; cases hx; simp only [Option.some.injEq] at hb; subst hb
    exact ⟨_, by rw [run_underlying' hd]; rfl, .int _ _⟩
  · rename_i hd; cases hx; simp only [Option.some.injEq] at hb; subst hb
    exact ⟨_, by rw [run_underlying' hd]; rfl, .int _ _⟩
  · rename_i hd; cases hx; simp only [Option.some.injEq] at hb; subst hb
    exact ⟨_, by rw [run_underlying' hd]; rfl, .int _ _⟩
  · rename_i id hd
    cases hx with
    | map hp =>
    split at hb
    · rename_i es _ _ hg
      simp only [Option.some.injEq] at hb
      subst hb
      obtain ⟨q, ces, hq, hh, hm, -, hstm⟩ := hR.map hg
      rw [hp] at hq; cases hq
      refine ⟨goInt ces.size, ?_, by rw [hm.length]; exact .int _ _⟩
      rw [run_underlying' hd]
      simp only [Result.andThen_ok, Sem.run_bind, run_getObj' hh (fun _ _ _ hc => by cases hc), Sem.run_pure]
    · simp at hb
  · rename_i a' hd
    split at hb
    · rename_i n e hd2
      simp only [Option.some.injEq] at hb
      subst hb
      refine ⟨goInt n, ?_, .int _ _⟩
      rw [run_underlying' hd]
      simp only [Result.andThen_ok, Sem.run_bind, run_underlying' hd2, Sem.run_pure]
    · simp at hb
  · simp at hb

theorem evCap_sound {argTypes : Array TypeId} {ty : TypeId} {x a : AV} {cx : Value} (hx : VR ρ x cx) (hb : evCap P argTypes x = some a) :
    ∃ cv, (Builtin.cap_ argTypes ty #[cx]).run P w = .ok cv w ∧ VR ρ a cv := by
  unfold evCap at hb
  cases h0 : argTypes[0]? with
  | none => simp [h0] at hb
  | some t =>
  simp only [h0, Option.bind_eq_bind, Option.bind_some] at hb
  unfold Builtin.cap_
  simp only [h0, List.getElem?_toArray, List.getElem?_cons_zero, Sem.run_bind]
  split at hb
  · rename_i hd; cases hx; simp only [Option.some.injEq] at hb; subst hb
    exact ⟨_, by rw [run_underlying' hd]; rfl, .int _ _⟩
  · rename_i hd
    cases hx with
    | sl hp hlc ha hxx hc =>
    simp only [Option.some.injEq] at hb; subst hb
    rename_i cap
    have := hc _ rfl
    subst this
    exact ⟨_, by rw [run_underlying' hd]; rfl, .int _ _⟩
  · simp at hb

theorem foldA_sound {f : AV → AV → Option AV} {g : Value → Value → Sem Value} (hfg : ∀ x y z cx cy, VR ρ x cx → VR ρ y cy → f x y = some z → ∃ cz, (g cx cy).run P w = .ok cz w ∧ VR ρ z cz) :
    ∀ (l : List AV) (m : List Value) (x z : AV) (cx : Value), VR ρ x cx → VRs ρ l m → foldA f x l = some z → ∃ cz, (m.foldlM g cx).run P w = .ok cz w ∧ VR ρ z cz
  | [], m, x, z, cx, hx, hl, hf => by
    cases hl; simp only [foldA, Option.some.injEq] at hf; subst hf; exact ⟨cx, rfl, hx⟩
  | y :: l, m, x, z, cx, hx, hl, hf => by
    cases hl with
    | cons hy hl =>
    simp only [foldA] at hf
    cases h1 : f x y with
    | none => simp [h1] at hf
    | some u =>
      simp only [h1, Option.bind_some] at hf
      obtain ⟨cu, r1, v1⟩ := hfg x y u _ _ hx hy h1
      obtain ⟨cz, r2, v2⟩ := foldA_sound hfg l _ u z cu v1 hl hf
      exact ⟨cz, by simp only [List.foldlM_cons, Sem.run_bind, r1, Result.andThen_ok, r2], v2⟩

theorem maxA_sound {argTypes : Array TypeId} {ty : TypeId} {l : List AV} {m : Array Value} {a : AV} (hl : VRs ρ l m.toList) (hb : maxA l = some a) : ∃ cv, (Builtin.max_ argTypes ty m).run P w = .ok cv w ∧ VR ρ a cv := by
  unfold maxA at hb
  split at hb
  · rename_i x y r
    generalize hm : m.toList = ml at hl
    cases hl with
    | cons hx hl =>
    unfold Builtin.max_
    rw [hm]
    refine foldA_sound (f := max2A) (fun x y z cx cy hx hy hf => ?_) _ _ x a _ hx hl hb
    unfold max2A at hf
    split at hf
    · cases hx; cases hy
      simp only [Option.some.injEq] at hf; subst hf
      exact ⟨_, rfl, .int _ _⟩
    · simp at hf
  · simp at hb

theorem minA_sound {argTypes : Array TypeId} {ty : TypeId} {l : List AV} {m : Array Value} {a : AV} (hl : VRs ρ l m.toList) (hb : minA l = some a) : ∃ cv, (Builtin.min_ argTypes ty m).run P w = .ok cv w ∧ VR ρ a cv := by
  unfold minA at hb
  split at hb
  · rename_i x y r
    generalize hm : m.toList = ml at hl
    cases hl with
    | cons hx hl =>
    unfold Builtin.min_
    rw [hm]
    refine foldA_sound (f := min2A) (fun x y z cx cy hx hy hf => ?_) _ _ x a _ hx hl hb
    unfold min2A at hf
    split at hf
    · cases hx; cases hy
      simp only [Option.some.injEq] at hf; subst hf
      exact ⟨_, rfl, .int _ _⟩
    · simp at hf
  · simp at hb

theorem evClear_sound (hR : Rel K ρ h w) {argTypes : Array TypeId} {ty : TypeId} {x : AV} {cx : Value} {r : ORes} (hx : VR ρ x cx) (hb : evClear P h argTypes x = some r) :
    ∃ a h' ρ' cv w', r = .val a h' ∧ (Builtin.clear_ argTypes ty #[cx]).run P w = .ok cv w' ∧ Ext h.nx ρ h'.nx ρ' ∧ VR ρ' a cv ∧ Rel K ρ' h' w' := by
  unfold evClear at hb
  cases h0 : argTypes[0]? with
  | none => simp [h0] at hb
  | some t =>
  simp only [h0, Option.bind_eq_bind, Option.bind_some] at hb
  have hz : VR ρ (.tup []) (.tuple #[]) := .tup .nil
  unfold Builtin.clear_
  simp only [h0, List.getElem?_toArray, List.getElem?_cons_zero]
  split at hb
  · rename_i d hd
    cases hx
    simp only [Option.some.injEq] at hb; subst hb
    refine ⟨_, _, ρ, _, w, rfl, ?_, Ext.refl _ _, hz, hR⟩
    rw [Sem.run_bind, run_underlying' hd]
    cases d <;> rfl
  · rename_i d hd
    cases hx
    simp only [Option.some.injEq] at hb; subst hb
    refine ⟨_, _, ρ, _, w, rfl, ?_, Ext.refl _ _, hz, hR⟩
    rw [Sem.run_bind, run_underlying' hd]
    cases d <;> rfl
  · rename_i d id hd
    cases hx with
    | map hp =>
    split at hb
    · rename_i es bs clock hg
      simp only [Option.some.injEq] at hb; subst hb
      obtain ⟨q, ces, hq, hh, hm, -, hstm⟩ := hR.map hg
      rw [hp] at hq; cases hq
      rename_i p
      refine ⟨_, _, ρ, _, _, rfl, ?_, Ext.refl _ _, hz, hR.setObj hg hp rfl rfl (o' := .map [] [] clock) (co' := .map #[] clock) ⟨#[], rfl, trivial, rfl, MapKept.stamped_empty clock⟩⟩
      rw [Sem.run_bind, run_underlying' hd]
      cases d <;> simp only [Result.andThen_ok, Sem.run_bind, run_getObj' hh (fun _ _ _ hc => by cases hc), run_setObj' hh (fun _ _ _ hc => by cases hc), Sem.run_pure]
    · simp at hb
  · rename_i e id off n sz c hd
    cases hx with
    | sl hp hlc ha hxx hc =>
    rename_i p ad cap
    split at hb
    · rename_i hn
      subst hn
      simp only [Option.some.injEq] at hb; subst hb
      refine ⟨_, _, ρ, _, w, rfl, ?_, Ext.refl _ _, hz, hR⟩
      rw [Sem.run_bind, run_underlying' hd]
      rfl
    · rename_i hn
      cases htz : tzero P e with
      | none => simp [htz] at hb
      | some z =>
      cases hzc : cellsA (toAV z) with
      | none => simp [htz, hzc] at hb
      | some zc =>
      simp only [htz, hzc, Option.bind_some] at hb
      split at hb
      · rename_i cells text hg
        split at hb
        · rename_i hcond
          simp only [Bool.and_eq_true, decide_eq_true_eq] at hcond
          obtain ⟨⟨hzl, hone⟩, hle⟩ := hcond
          simp only [Option.some.injEq] at hb; subst hb
          have hzr := zero_cells (ρ := ρ) hzc
          have hrep := hzr.rep n
          have hlen : (repCells zc n).length = n * sz := by rw [repCells_length, hzl]
          have hone' : (repCells zc n).all oneA = true := by
            clear hrep hlen hle hn hd hp hlc ha hxx hc
            induction n with
            | zero => rfl
            | succ n ih => simp only [repCells, List.all_append, hone, ih, Bool.and_self]
          obtain ⟨w', hrun, hrel⟩ := hR.storeCells (P := P) hg hp (by rw [hlen]; exact hle) hrep (all_oneCell hrep hone')
          refine ⟨_, _, ρ, _, w', rfl, ?_, Ext.refl _ _, hz, hrel⟩
          rcases ha with h00 | rfl
          · omega
          obtain ⟨k, rfl⟩ : ∃ k, n = k + 1 := ⟨n - 1, by omega⟩
          rw [Sem.run_bind, run_underlying' hd]
          simp only [Result.andThen_ok, Sem.run_bind, run_zeroValue' htz, Builtin.zeroCells]
          rw [hrun]
          rfl
        · simp at hb
      · simp at hb
  · simp at hb

/-! ### Keys -/
theorem checkA_sound : ∀ (d D : Nat) (t : TypeId) (x : AV) (cx : Value) (em : Bool), d ≤ D → VR ρ x cx → checkA P d t x = true → (Instr.checkKey em D t cx).run P w = .ok () w := by
  intro d
  induction d with
  | zero => intro D t x cx em _ _ he; simp [checkA] at he
  | succ d ih =>
    intro D t x cx em hD hx he
    obtain ⟨D, rfl⟩ : ∃ D', D = D' + 1 := ⟨D - 1, by omega⟩
    unfold checkA at he
    split at he
    · -- arrays
      rename_i n e cs hd
      cases hx with
      | agg hcs =>
      rename_i ccs
      split at he
      · rename_i sz hs
        have key : ∀ (n i : Nat), checkEs P (checkA P d) e sz cs n i = true →
            (forIn (m := Sem) (List.range' i n) PUnit.unit fun i _ => do
              let s ← sizeOf e
              let a ← part e ccs (i * s)
              Instr.checkKey em D e a
              pure (ForInStep.yield PUnit.unit)).run P w = .ok PUnit.unit w := by
          intro n
          induction n with
          | zero => intro i _; simp
          | succ n ihn =>
            intro i he
            simp only [checkEs] at he
            cases ha : partA P e cs (i * sz) with
            | none => simp [ha] at he
            | some a =>
              simp only [ha, Bool.and_eq_true] at he
              obtain ⟨ca, r1, v1⟩ := partA_sound (P := P) (w := w) hcs ha
              have r2 := ih D e a ca em (by omega) v1 he.1
              rw [List.range'_succ, List.forIn_cons]
              simp only [Sem.run_bind, run_sizeOf' hs, r1, r2, Result.andThen_ok, Sem.run_pure]
              exact ihn (i + 1) he.2
        simp only [Instr.checkKey, Sem.run_bind, run_underlying' hd, Result.andThen_ok, Std.Legacy.Range.forIn_eq_forIn_range', Std.Legacy.Range.size, Nat.sub_zero, Nat.add_sub_cancel, Nat.div_one]
        have hk := key n 0 he
        rw [hk]
        rfl
      · simp at he
    · -- structs
      rename_i fs cs hd
      cases hx with
      | agg hcs =>
      rename_i ccs
      simp only [Instr.checkKey, Sem.run_bind, run_underlying' hd, Result.andThen_ok, ← Array.forIn_toList]
      have key : ∀ (l : List Field), checkFs P (checkA P d) cs l = true →
          (forIn (m := Sem) l PUnit.unit fun f _ => 
            if f.name ≠ "_" then do
              let a ← part f.type ccs f.offset
              Instr.checkKey em D f.type a
              pure (ForInStep.yield PUnit.unit)
            else pure (ForInStep.yield PUnit.unit)).run P w = .ok PUnit.unit w := by
        intro l
        induction l with
        | nil => intro _; simp
        | cons f l ihl =>
          intro he
          simp only [checkFs] at he
          rw [List.forIn_cons]
          by_cases hn : f.name = "_"
          · rw [if_pos hn] at he
            simp only [hn, ne_eq, not_true, if_false, Sem.run_bind, Sem.run_pure, Result.andThen_ok]
            exact ihl he
          · rw [if_neg hn] at he
            cases ha : partA P f.type cs f.offset with
            | none => simp [ha] at he
            | some a =>
              simp only [ha, Bool.and_eq_true] at he
              obtain ⟨ca, r1, v1⟩ := partA_sound (P := P) (w := w) hcs ha
              have r2 := ih D f.type a ca em (by omega) v1 he.1
              simp only [hn, ne_eq, not_false_iff, if_true, Sem.run_bind, r1, r2, Result.andThen_ok, Sem.run_pure]
              exact ihl he.2
      have hk := key fs.toList he
      rw [hk]
      rfl
    · cases hx; simp [Instr.checkKey, run_underlying' ‹P.underlying t = _›]
    · cases hx; simp [Instr.checkKey, run_underlying' ‹P.underlying t = _›]
    · cases hx; simp [Instr.checkKey, run_underlying' ‹P.underlying t = _›]
    · simp at he

/-- What a search in a map finds. -/
def FR (ρ : Pm) (ces : List MapEntry) (i0 : Nat) : Option (Nat × AV × AV) → Option (Nat × Value) → Prop
  | none, none => True
  | some (i, k, v), some (j, cv) => i = j ∧ i0 ≤ i ∧ VR ρ v cv ∧ ∃ e, ces[i - i0]? = some e ∧ VR ρ k e.key ∧ e.val = cv
  | _, _ => False

theorem FR.shift {ces : List MapEntry} {e : MapEntry} {i0 : Nat} {r : Option (Nat × AV × AV)} {q : Option (Nat × Value)} (hf : FR ρ ces (i0 + 1) r q) : FR ρ (e :: ces) i0 r q := by
  cases r with
  | none => cases q <;> simp_all [FR]
  | some r =>
    obtain ⟨i, k, v⟩ := r
    cases q with
    | none => exact hf.elim
    | some q =>
      obtain ⟨j, cv⟩ := q
      obtain ⟨h1, h2, h3, e', h4, h5, h6⟩ := hf
      refine ⟨h1, by omega, h3, e', ?_, h5, h6⟩
      rw [show i - i0 = (i - (i0 + 1)) + 1 by omega, List.getElem?_cons_succ]
      exact h4

theorem findA_sound (hR : Rel K ρ h w) {t : TypeId} {d : TypeDesc} {k : AV} {ck : Value} (hk : VR ρ k ck) (hd : P.underlying t = some d) : ∀ (es : List (AV × AV)) (ces : List MapEntry) (i : Nat) (r : Option (Nat × AV × AV)), MR ρ es ces → findA P h t k es i = some r →
    (∃ q, (Instr.findAsking t ck ces i).run P w = .ok q w ∧ FR ρ ces i r q) ∧ (∀ q, Instr.findNow d ck ces i = some q → FR ρ ces i r q)
  | [], [], i, r, _, hf => by
    simp only [findA, Option.some.injEq] at hf
    subst hf
    exact ⟨⟨none, rfl, trivial⟩, fun q hq => by simp only [Instr.findNow, Option.some.injEq] at hq; subst hq; trivial⟩
  | (k', v) :: es, e :: ces, i, r, ⟨h1, h2, h3⟩, hf => by
    simp only [findA] at hf
    cases he : eqA P h 12 t k k' with
    | none => simp [he] at hf
    | some b =>
      simp only [he, Option.bind_eq_bind, Option.bind_some] at hf
      have r1 := eqA_sound hR 12 10000 t k k' ck e.key b (by omega) hk h1 he
      -- what the quick search says agrees
      have hnow : ∀ b', Instr.sameNow d ck e.key = some b' → b' = b := by
        intro b' hb'
        have r2 : (Op.equalIn 10000 t ck e.key).run P w = .ok b' w := by
          unfold Instr.sameNow at hb'
          split at hb'
          · rename_i kk k1 a1 k2 a2 hc1 hc2
            split at hb'
            · rename_i hkk
              subst hkk
              simp only [Option.some.injEq] at hb'
              subst hb'
              rw [‹e.key = _›]; exact run_equalIn_int w 9999 t _ _ _ _ hd
            · simp at hb'
          · simp only [Option.some.injEq] at hb'; subst hb'
            rw [beq_toListBytes]
            rw [‹e.key = _›]; exact run_equalIn_string w 9999 t _ _ hd
          · simp only [Option.some.injEq] at hb'; subst hb'
            rw [‹e.key = _›]; exact run_equalIn_bool' w 9999 t _ _ hd
          · simp at hb'
        rw [r1] at r2
        simpa using r2.symm
      cases b with
      | true =>
        simp only [if_true, Option.some.injEq] at hf
        subst hf
        have hfr : FR ρ (e :: ces) i (some (i, k', v)) (some (i, e.val)) := ⟨rfl, Nat.le_refl _, h2, e, by simp, h1, rfl⟩
        refine ⟨⟨some (i, e.val), ?_, hfr⟩, fun q hq => ?_⟩
        · simp only [Instr.findAsking, Op.equal, Op.maxDepth, Sem.run_bind, r1, Result.andThen_ok, if_true, Sem.run_pure]
        · simp only [Instr.findNow] at hq
          cases hs : Instr.sameNow d ck e.key with
          | none => simp [hs] at hq
          | some b' =>
            have := hnow b' hs
            subst this
            simp only [hs, Option.some.injEq] at hq
            subst hq
            exact hfr
      | false =>
        simp only [Bool.false_eq_true, if_false] at hf
        obtain ⟨⟨q, hq1, hq2⟩, hq3⟩ := findA_sound hR hk hd es ces (i + 1) r h3 hf
        refine ⟨⟨q, ?_, hq2.shift⟩, fun q' hq' => ?_⟩
        · simp only [Instr.findAsking, Op.equal, Op.maxDepth, Sem.run_bind, r1, Result.andThen_ok, Bool.false_eq_true, if_false, hq1]
        · simp only [Instr.findNow] at hq'
          cases hs : Instr.sameNow d ck e.key with
          | none => simp [hs] at hq'
          | some b' =>
            have := hnow b' hs
            subst this
            simp only [hs] at hq'
            exact (hq3 q' hq').shift
  | [], _ :: _, _, _, hh, _ => hh.elim
  | (_, _) :: _, [], _, _, hh, _ => hh.elim

theorem findKey_sound (hR : Rel K ρ h w) {t : TypeId} {k : AV} {ck : Value} {em : Bool} {es : List (AV × AV)} {ces : List MapEntry} {r : Option (Nat × AV × AV)} (hk : VR ρ k ck) (hc : checkA P 12 t k = true) (hm : MR ρ es ces) (hf : findA P h t k es 0 = some r) :
    ∃ q, (Instr.findKey t ck ces).run P w = .ok q w ∧ FR ρ ces 0 r q := by
  obtain ⟨d, hd⟩ : ∃ d, P.underlying t = some d := by
    unfold checkA at hc
    split at hc <;> first | exact ⟨_, ‹_›⟩ | simp at hc
  obtain ⟨⟨q, hq1, hq2⟩, hq3⟩ := findA_sound hR hk hd es ces 0 r hm hf
  unfold Instr.findKey
  rw [Sem.run_bind, run_underlying' hd]
  simp only [Result.andThen_ok]
  cases hn : Instr.findNow d ck ces 0 with
  | none => exact ⟨q, hq1, hq2⟩
  | some q' => exact ⟨q', rfl, hq3 q' hn⟩

end
end Go.Abs
