/- The abstract layer, part 3: what the evaluator's small steps say of the model's. -/
import Derived.Test.YticccdaomgildaaGreatDoorAbs2
import Derived.Laws.Sem
namespace Go.Abs
open Go

section
variable {P : Program} {ρ : Pm} {w : World} {K : Kp} {h : AH}

theorem run_underlying' {t : TypeId} {d : TypeDesc} (ht : P.underlying t = some d) : (underlying t).run P w = .ok d w := by
  simp [underlying, ht]
theorem run_typeInfo' {t : TypeId} {i : TypeInfo} (ht : P.info? t = some i) : (typeInfo t).run P w = .ok i w := by
  simp [typeInfo, ht]
theorem run_zeroValue' {t : TypeId} {z : Value} (ht : tzero P t = some z) : (zeroValue t).run P w = .ok z w := by
  unfold tzero at ht
  cases hi : P.info? t with
  | none => simp [hi] at ht
  | some i => simp [hi] at ht; simp [zeroValue, run_typeInfo' hi, ht]
theorem run_sizeOf' {t : TypeId} {n : Nat} (ht : tsize P t = some n) : (sizeOf t).run P w = .ok n w := by
  unfold tsize at ht
  cases hi : P.info? t with
  | none => simp [hi] at ht
  | some i => simp [hi] at ht; simp [sizeOf, run_typeInfo' hi, ht]
theorem run_isAgg' {t : TypeId} {d : TypeDesc} (ht : P.underlying t = some d) : (isAgg t).run P w = .ok (aggT d) w := by
  unfold isAgg
  rw [Sem.run_bind, run_underlying' ht]
  cases d <;> rfl

theorem toAV0_sound (v : Value) : VR ρ (toAV0 v) v := by
  unfold toAV0
  split
  · exact .bool _
  · exact .int _ _
  · exact .str _
  · exact .nilptr
  · exact .nilsl
  · exact .nilmap
  · exact .nilfunc
  · exact .nilif
  · exact .junk _

theorem toAV_sound (v : Value) : VR ρ (toAV v) v := by
  unfold toAV
  split
  · rename_i cs
    refine .agg (VRs.of_get (by simp) fun i a v h1 h2 => ?_)
    rw [List.getElem?_map, h2] at h1
    simp at h1
    subst h1
    exact toAV0_sound v
  · exact toAV0_sound _

theorem cellsA_sound {a : AV} {v : Value} {l : List AV} (hv : VR ρ a v) (hl : cellsA a = some l) : VRs ρ l v.cells.toList := by
  have hv' := hv
  cases hv <;> simp only [cellsA, Option.some.injEq, reduceCtorEq] at hl <;> subst hl <;> first | exact .cons hv' .nil | assumption

theorem partA_sound {t : TypeId} {cs : List AV} {ccs : Array Value} {off : Nat} {a : AV} (hcs : VRs ρ cs ccs.toList) (hp : partA P t cs off = some a) :
    ∃ cv, (part t ccs off).run P w = .ok cv w ∧ VR ρ a cv := by
  unfold partA at hp
  cases hd : P.underlying t with
  | none => simp [hd] at hp
  | some d =>
    simp only [hd, Option.bind_eq_bind, Option.bind_some] at hp
    unfold part
    rw [Sem.run_bind, run_isAgg' hd]
    simp only [Result.andThen_ok]
    cases hag : aggT d with
    | true =>
      simp only [hag, if_true] at hp ⊢
      cases hn : tsize P t with
      | none => simp [hn] at hp
      | some n =>
        simp only [hn, Option.bind_some] at hp
        split at hp
        · rename_i hle
          simp only [Option.some.injEq] at hp
          subst hp
          refine ⟨.agg (ccs.extract off (off + n)), by simp [run_sizeOf' hn], .agg ?_⟩
          have : (ccs.extract off (off + n)).toList = (ccs.toList.drop off).take n := by simp
          rw [this]
          exact (hcs.drop off).take n
        · simp at hp
    | false =>
      simp only [hag, Bool.false_eq_true, if_false] at hp ⊢
      obtain ⟨v, hv, r⟩ := hcs.get hp
      have : ccs[off]? = some v := by simpa using hv
      exact ⟨v, by simp [this], r⟩

theorem opnd_sound {t : Env} {n : Nat} {a : Act} (he : ER ρ t n a.tmps) (x : Operand) : VR ρ (opnd t x) (a.eval x) := by
  cases x with
  | tmp i =>
    simp only [opnd, Act.eval]
    cases hg : t.get i with
    | none => exact .junk _
    | some v =>
      obtain ⟨u, hu, r⟩ := he.2 i v hg
      simpa [Array.getD_eq_getD_getElem?, hu] using r
  | const v => exact toAV_sound v
  | global g => exact .junk _
  | func f => exact .func rfl .nil .nil

/-! ### Cells -/
theorem Rel.cells {id : Nat} {cs : List AV} {own text : Bool} (hR : Rel K ρ h w) (hg : h.get id = some (.cells cs own text)) :
    ∃ p c e fr, ρ id = some p ∧ w.heap[p.b]? = some (.cells c e fr) ∧ (if own then c.size = p.lim else p.lim ≤ c.size) ∧ p.o + cs.length ≤ p.lim ∧
      (∀ i a, cs[i]? = some a → ∃ v, c[p.o + i]? = some v ∧ VR ρ a v) ∧ (own = true → FrOk fr c.size) ∧ (own = true → text = false → fr = (0, 0) ∧ 0 < c.size ∧ p.o = 0) ∧
      (own = true → K.at_ p.b = none ∧ K.size ≤ p.b) := by
  obtain ⟨p, hp, ho, hown, _⟩ := hR.obj id _ hg
  obtain ⟨c, e, fr, h1, h2, h3, h4, h5, h6⟩ := ho
  exact ⟨p, c, e, fr, hp, h1, h2, h3, h4, h5, h6, hown⟩

theorem Rel.cell {id off i : Nat} {cs : List AV} {own text : Bool} {a : AV} {p : Pl} (hR : Rel K ρ h w) (hg : h.get id = some (.cells cs own text)) (hp : ρ id = some p)
    (hi : cs[off + i]? = some a) : ∃ v, w.cell? ((⟨p.b, p.o + off, none⟩ : Addr).add i) = some v ∧ VR ρ a v := by
  obtain ⟨q, c, e, fr, hq, hc, _, _, hget, _⟩ := hR.cells hg
  rw [hp] at hq; cases hq
  obtain ⟨v, hv, r⟩ := hget _ _ hi
  refine ⟨v, ?_, r⟩
  have e1 : p.o + (off + i) = p.o + off + i := by omega
  rw [e1] at hv
  by_cases h0 : i = 0
  · subst h0; simpa [Addr.add, World.cell?, hc] using hv
  · simpa [Addr.add, World.cell?, hc, h0] using hv

theorem run_loadCells' (a : Addr) : ∀ (n i : Nat) (acc : Array Value) (f : Nat → Value), (∀ j, j < n → w.cell? (a.add (i + j)) = some (f (i + j))) →
    (loadCellsFrom a i n acc).run P w = .ok (acc ++ ((List.range n).map fun j => f (i + j)).toArray) w := by
  intro n
  induction n with
  | zero => intro i acc f _; simp [loadCellsFrom]
  | succ n ih =>
    intro i acc f hf
    have h0 := hf 0 (by omega)
    simp only [Nat.add_zero] at h0
    simp only [loadCellsFrom, Sem.run_bind, run_load, h0, Result.andThen_ok]
    rw [ih (i + 1) (acc.push (f i)) f (fun j hj => by have := hf (j + 1) (by omega); rwa [show i + (j + 1) = i + 1 + j by omega] at this)]
    congr 1
    apply Array.ext'
    simp [List.range_succ_eq_map, Function.comp_def]
    intro j _
    congr 1; omega

/-- n cells from an address on, as far as they are known. -/
theorem Rel.loadCells {id off n : Nat} {cs : List AV} {own text : Bool} {p : Pl} (hR : Rel K ρ h w) (hg : h.get id = some (.cells cs own text)) (hp : ρ id = some p)
    (hn : off + n ≤ cs.length) : ∃ vs : Array Value, (Go.loadCells ⟨p.b, p.o + off, none⟩ n).run P w = .ok vs w ∧ VRs ρ ((cs.drop off).take n) vs.toList := by
  have key : ∀ j, j < n → ∃ v, w.cell? ((⟨p.b, p.o + off, none⟩ : Addr).add (0 + j)) = some v ∧ ∀ a, cs[off + j]? = some a → VR ρ a v := by
    intro j hj
    have hlt : off + j < cs.length := by omega
    obtain ⟨v, hv, r⟩ := hR.cell hg hp (List.getElem?_eq_getElem hlt)
    refine ⟨v, by simpa using hv, fun a ha => ?_⟩
    rw [List.getElem?_eq_getElem hlt] at ha
    cases ha; exact r
  let f : Nat → Value := fun j => if hj : j < n then (key j hj).choose else undef
  have hf : ∀ j, j < n → w.cell? ((⟨p.b, p.o + off, none⟩ : Addr).add (0 + j)) = some (f (0 + j)) := by
    intro j hj
    simp only [f, Nat.zero_add, dif_pos hj]
    simpa using (key j hj).choose_spec.1
  refine ⟨_, run_loadCells' _ n 0 #[] f hf, ?_⟩
  refine VRs.of_get (by simp; omega) fun j a v h1 h2 => ?_
  simp only [List.getElem?_take, List.getElem?_drop] at h1
  split at h1
  · rename_i hj
    simp [hj] at h2
    subst h2
    simp only [f, dif_pos hj]
    exact (key j hj).choose_spec.2 a h1
  · simp at h1

theorem evLoad_sound {t : TypeId} {x a : AV} {cx : Value} (hR : Rel K ρ h w) (hx : VR ρ x cx) (hl : evLoad P h t x = some a) :
    ∃ cv, (Instr.loadAt t cx).run P w = .ok cv w ∧ VR ρ a cv := by
  unfold evLoad at hl
  split at hl
  · rename_i id off
    cases hx with
    | ptr hp =>
    rename_i p
    split at hl
    · rename_i cs own text d hg hd
      simp only [Instr.loadAt, Instr.sureAddr, Sem.run_bind, Sem.run_pure, Result.andThen_ok, loadVar, run_isAgg' hd]
      cases hag : aggT d with
      | true =>
        simp only [hag, if_true] at hl ⊢
        split at hl
        · rename_i n hn
          split at hl
          · rename_i hle
            cases hl
            obtain ⟨vs, hvs, r⟩ := hR.loadCells (P := P) hg hp hle
            exact ⟨.agg vs, by simp [run_sizeOf' hn, hvs], .agg r⟩
          · simp at hl
        · simp at hl
      | false =>
        simp only [hag, Bool.false_eq_true, if_false] at hl ⊢
        obtain ⟨v, hv, r⟩ := hR.cell (i := 0) hg hp (by simpa using hl)
        exact ⟨v, by simp [show w.cell? ⟨p.b, p.o + off, none⟩ = some v from by simpa [Addr.add] using hv], r⟩
    · simp at hl
  · simp at hl

end
end Go.Abs
