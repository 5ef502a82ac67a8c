/- The abstract layer, part 4: changes of the heap. -/
import Derived.Test.YticccdaomgildaaGreatDoorAbs3
namespace Go.Abs
open Go

section
variable {P : Program} {ρ : Pm} {w : World} {K : Kp} {h : AH}

/-- ρ with one more place. -/
def Pm.put (ρ : Pm) (id : Nat) (p : Pl) : Pm := fun j => if j = id then some p else ρ j
theorem Pm.le_put {ρ : Pm} {id : Nat} {p : Pl} (hf : ρ id = none) : ρ.le (ρ.put id p) := fun j q hq => by
  unfold Pm.put
  split
  · rename_i e; subst e; rw [hf] at hq; cases hq
  · exact hq
theorem Ext.put {ρ : Pm} {n : Nat} {p : Pl} (hf : ρ n = none) : Ext n ρ (n + 1) (ρ.put n p) :=
  ⟨Pm.le_put hf, Nat.le_succ n, fun id hid => by
    have : id ≠ n := Nat.ne_of_lt hid
    simp [Pm.put, this]⟩
theorem Pm.put_self (ρ : Pm) (id : Nat) (p : Pl) : (ρ.put id p) id = some p := by simp [Pm.put]

theorem Rel.lt {id : Nat} {o : AO} {p : Pl} (hR : Rel K ρ h w) (hg : h.get id = some o) (hp : ρ id = some p) : p.b < w.heap.size := by
  obtain ⟨q, hq, ho, _⟩ := hR.obj id o hg
  rw [hp] at hq; cases hq
  have : (w.heap[p.b]?).isSome = true := by
    cases o with
    | cells cs own text => obtain ⟨c, e, fr, h1, _⟩ := ho; simp [h1]
    | map es bs ck => obtain ⟨c, h1, _⟩ := ho; simp [h1]
    | mit m since seen last => cases m with
      | none => obtain ⟨_, h1⟩ := ho; simp [h1]
      | some m => obtain ⟨_, q, _, h1⟩ := ho; simp [h1]
    | loop st pend fn t n params assign body d => obtain ⟨c, e, f, h1, _⟩ := ho; simp [h1]
    | defs o => simp [show w.heap[p.b]? = _ from ho]
    | sit s pos => obtain ⟨_, c, h1, _⟩ := ho; simp [h1]
  rcases Nat.lt_or_ge p.b w.heap.size with h1 | h1
  · exact h1
  · simp [Array.getElem?_eq_none h1] at this

theorem Rel.size_le (hR : Rel K ρ h w) : ∀ b o, K.at_ b = some o → b < w.heap.size := fun b o hb => by
  have := hR.keep b o hb
  rcases Nat.lt_or_ge b w.heap.size with h1 | h1
  · exact h1
  · simp [Array.getElem?_eq_none h1] at this

/-- A new block. -/
theorem Rel.push (hR : Rel K ρ h w) {o : AO} {co : Obj} {lim : Nat} (hown : o.own = true) (ho : OR (ρ.put h.nx ⟨w.heap.size, 0, lim⟩) ⟨w.heap.size, 0, lim⟩ o (some co)) :
    Rel K (ρ.put h.nx ⟨w.heap.size, 0, lim⟩) (h.new o) { w with heap := w.heap.push co } ∧ Ext h.nx ρ (h.new o).nx (ρ.put h.nx ⟨w.heap.size, 0, lim⟩) := by
  have hle : ρ.le (ρ.put h.nx ⟨w.heap.size, 0, lim⟩) := Pm.le_put (hR.fresh _ (Nat.le_refl _))
  have hold : ∀ b, b < w.heap.size → (w.heap.push co)[b]? = w.heap[b]? := fun b hb => by rw [Array.getElem?_push, if_neg (by omega)]
  have hKn : K.at_ w.heap.size = none := by
    cases hk : K.at_ w.heap.size with
    | none => rfl
    | some o' => have := hR.size_le _ _ hk; omega
  refine ⟨⟨hR.os, hR.tape, hR.output, by simp; have := hR.size; omega, fun b o' hb => ?_, fun id hid => ?_, fun id o' hg => ?_, ?_⟩, Ext.put (hR.fresh _ (Nat.le_refl _))⟩
  · rw [hold b (hR.size_le b o' hb)]; exact hR.keep b o' hb
  · have hne : id ≠ h.nx := by simp at hid; omega
    simp only [Pm.put, if_neg hne]
    exact hR.fresh id (by simp at hid; omega)
  · rw [AH.get_new] at hg
    by_cases e : id = h.nx
    · subst e
      simp only [if_true, Option.some.injEq] at hg
      subst hg
      refine ⟨_, Pm.put_self _ _ _, ?_, fun _ => ⟨hKn, hR.size⟩, fun hn => by rw [hown] at hn; cases hn⟩
      have : (w.heap.push co)[w.heap.size]? = some co := by simp
      rw [show ({ w with heap := w.heap.push co } : World).heap = w.heap.push co from rfl, this]
      exact ho
    · rw [if_neg e] at hg
      obtain ⟨p, hp, hor, h1, h2⟩ := hR.obj id o' hg
      refine ⟨p, hle _ _ hp, ?_, h1, h2⟩
      rw [show ({ w with heap := w.heap.push co } : World).heap = w.heap.push co from rfl, hold p.b (hR.lt hg hp)]
      exact hor.mono hle
  · intro i j oi oj pi pj hi hj ho1 ho2 hpi hpj hb
    rw [AH.get_new] at hi hj
    by_cases ei : i = h.nx <;> by_cases ej : j = h.nx
    · rw [ei, ej]
    · exfalso
      subst ei
      rw [if_neg ej] at hj
      simp only [Pm.put, if_neg ej] at hpj
      rw [Pm.put_self] at hpi; cases hpi
      have := hR.lt hj hpj
      simp at hb; omega
    · exfalso
      subst ej
      rw [if_neg ei] at hi
      simp only [Pm.put, if_neg ei] at hpi
      rw [Pm.put_self] at hpj; cases hpj
      have := hR.lt hi hpi
      simp at hb; omega
    · rw [if_neg ei] at hi
      rw [if_neg ej] at hj
      simp only [Pm.put, if_neg ei] at hpi
      simp only [Pm.put, if_neg ej] at hpj
      exact hR.inj i j oi oj pi pj hi hj ho1 ho2 hpi hpj hb

/-- An own block is changed. -/
theorem Rel.change (hR : Rel K ρ h w) {id : Nat} {o o' : AO} {p : Pl} {w' : World} (hg : h.get id = some o) (hp : ρ id = some p) (hown : o.own = true) (hown' : o'.own = true)
    (hos : w'.os = w.os) (htape : w'.tape = w.tape) (hout : w'.output = w.output) (hsize : w'.heap.size = w.heap.size)
    (hother : ∀ b, b ≠ p.b → w'.heap[b]? = w.heap[b]?) (ho : OR ρ p o' w'.heap[p.b]?) : Rel K ρ (h.put id o') w' := by
  obtain ⟨q, hq, _, hK, _⟩ := hR.obj id o hg
  rw [hp] at hq; cases hq
  obtain ⟨hKn, hKs⟩ := hK hown
  refine ⟨hos.trans hR.os, htape.trans hR.tape, hout.trans hR.output, by rw [hsize]; exact hR.size, fun b ob hb => ?_, fun j hj => hR.fresh j (by simpa using hj), fun j oj hj => ?_, ?_⟩
  · rw [hother b (fun e => by rw [e, hKn] at hb; cases hb)]; exact hR.keep b ob hb
  · rw [AH.get_put] at hj
    by_cases e : j = id
    · subst e
      simp only [if_true, Option.some.injEq] at hj
      subst hj
      exact ⟨p, hp, ho, fun _ => ⟨hKn, hKs⟩, fun hn => by rw [hown'] at hn; cases hn⟩
    · rw [if_neg e] at hj
      obtain ⟨r, hr, hor, h1, h2⟩ := hR.obj j oj hj
      refine ⟨r, hr, ?_, h1, h2⟩
      have hne : r.b ≠ p.b := fun eb => by
        cases hoj : oj.own with
        | true => exact e (hR.inj j id oj o r p hj hg hoj hown hr hp eb)
        | false => have := K.roAt _ (h2 hoj); rw [eb, hKn] at this; cases this
      rw [hother _ hne]; exact hor
  · intro i j oi oj pi pj hi hj ho1 ho2 hpi hpj hb
    rw [AH.get_put] at hi hj
    have fi : ∃ o1, h.get i = some o1 ∧ o1.own = true := by
      by_cases e : i = id
      · subst e; exact ⟨o, hg, hown⟩
      · rw [if_neg e] at hi; exact ⟨oi, hi, ho1⟩
    have fj : ∃ o1, h.get j = some o1 ∧ o1.own = true := by
      by_cases e : j = id
      · subst e; exact ⟨o, hg, hown⟩
      · rw [if_neg e] at hj; exact ⟨oj, hj, ho2⟩
    obtain ⟨o1, g1, w1⟩ := fi
    obtain ⟨o2, g2, w2⟩ := fj
    exact hR.inj i j o1 o2 pi pj g1 g2 w1 w2 hpi hpj hb

/-- What is forgotten. -/
theorem Rel.forget (hR : Rel K ρ h w) {h' : AH} (hsub : ∀ id o, h'.get id = some o → h.get id = some o) (hnx : h.nx ≤ h'.nx) : Rel K ρ h' w :=
  ⟨hR.os, hR.tape, hR.output, hR.size, hR.keep, fun id hid => hR.fresh id (by omega), fun id o hg => hR.obj id o (hsub id o hg),
    fun i j oi oj pi pj hi hj => hR.inj i j oi oj pi pj (hsub i oi hi) (hsub j oj hj)⟩

/-- The world may have drawn. -/
theorem Rel.drawn (hR : Rel K ρ h w) (n : Nat) : Rel K ρ h { w with drawn := n } :=
  ⟨hR.os, hR.tape, hR.output, hR.size, hR.keep, hR.fresh, hR.obj, hR.inj⟩

/-- New cells. -/
theorem Rel.newCells (hR : Rel K ρ h w) {cs : List AV} {ccs : Array Value} {e : TypeId} (hc : ∀ (i : Nat) (a : AV), cs[i]? = some a → ∃ v, ccs[i]? = some v ∧ VR ρ a v) (hle : cs.length ≤ ccs.size) {text : Bool} (hne : text = false → 0 < ccs.size) :
    Rel K (ρ.put h.nx ⟨w.heap.size, 0, ccs.size⟩) (h.new (.cells cs true text)) { w with heap := w.heap.push (.cells ccs e (0, 0)) } ∧ Ext h.nx ρ (h.new (.cells cs true text)).nx (ρ.put h.nx ⟨w.heap.size, 0, ccs.size⟩) := by
  refine hR.push rfl ⟨ccs, e, (0, 0), rfl, by simp, by simpa using hle, fun i a hi => ?_, fun _ => .inl rfl, fun _ ht => ⟨rfl, hne ht, rfl⟩⟩
  obtain ⟨v, hv, r⟩ := hc i a hi
  exact ⟨v, by simpa using hv, r.mono (Pm.le_put (hR.fresh _ (Nat.le_refl _)))⟩

theorem VRs.cells {l : List AV} {m : List Value} (hl : VRs ρ l m) : ∀ (i : Nat) (a : AV), l[i]? = some a → ∃ v, m.toArray[i]? = some v ∧ VR ρ a v := fun i a hi => by
  obtain ⟨v, hv, r⟩ := hl.get hi
  exact ⟨v, by simpa using hv, r⟩

/-- One cell's value, known, is one that the model may store. -/
theorem oneA_sound {a : AV} {v : Value} (hv : VR ρ a v) (ho : oneA a = true) : v.oneCell' = true := by
  cases hv <;> first | rfl | simp [oneA] at ho

/-- Storing cells. -/
theorem run_storeCells' {b : Nat} : ∀ (vs : List Value) (o i : Nat) (w : World) (c : Array Value) (e : TypeId) (fr : Nat × Nat), w.heap[b]? = some (.cells c e fr) → o + i + vs.length ≤ c.size →
    (∀ v ∈ vs, v.oneCell' = true) → (∀ j, j < c.size → ¬ (fr.1 ≤ j ∧ j < fr.2)) →
    ∃ w' c', (storeCells ⟨b, o, none⟩ vs i).run P w = .ok () w' ∧ w'.heap[b]? = some (.cells c' e fr) ∧ c'.size = c.size ∧ (∀ j, c'[j]? = if o + i ≤ j ∧ j < o + i + vs.length then vs[j - (o + i)]? else c[j]?) ∧
      w'.os = w.os ∧ w'.tape = w.tape ∧ w'.output = w.output ∧ w'.heap.size = w.heap.size ∧ ∀ b', b' ≠ b → w'.heap[b']? = w.heap[b']? := by
  intro vs
  induction vs with
  | nil =>
    intro o i w c e fr hb _ _ _
    exact ⟨w, c, rfl, hb, rfl, fun j => by rw [if_neg (by simp only [List.length_nil]; omega)], rfl, rfl, rfl, rfl, fun _ _ => rfl⟩
  | cons v vs ih =>
    intro o i w c e fr hb hlen hone hfr
    simp only [List.length_cons] at hlen
    have hadd : (⟨b, o, none⟩ : Addr).add i = ⟨b, o + i, none⟩ := by
      unfold Addr.add
      by_cases h0 : i = 0
      · subst h0; rfl
      · simp [h0]
    have hlt : o + i < c.size := by omega
    have hcell : w.cell? ⟨b, o + i, none⟩ = some c[o + i] := by simp [World.cell?, hb, hlt]
    have hfz : w.frozen? ⟨b, o + i, none⟩ = false := by
      have := hfr (o + i) hlt
      simp only [World.frozen?, hb, Bool.and_eq_false_iff, decide_eq_false_iff_not]
      omega
    let w1 := w.setCell ⟨b, o + i, none⟩ v
    have hb1 : w1.heap[b]? = some (.cells (c.setIfInBounds (o + i) v) e fr) := by
      simp only [w1, World.setCell, Array.getElem?_modify, if_true, hb]
      simp
    obtain ⟨w', c', hrun, hb', hs', hget, h1, h2, h3, h4, h5⟩ := ih o (i + 1) w1 (c.setIfInBounds (o + i) v) e fr hb1 (by simp; omega) (fun u hu => hone u (List.mem_cons_of_mem _ hu)) (by simpa using hfr)
    refine ⟨w', c', ?_, hb', by simpa using hs', fun j => ?_, h1, h2, h3, by rw [h4]; simp [w1, World.setCell], fun b' hb2 => by rw [h5 b' hb2]; simp [w1, World.setCell, Array.getElem?_modify, Ne.symm hb2]⟩
    · simp only [storeCells, Sem.run_bind, hadd]
      rw [run_store P w _ v _ (hone v List.mem_cons_self), hcell]
      simp only [hfz, Bool.false_eq_true, if_false, Result.andThen_ok]
      exact hrun
    · rw [hget j]
      simp only [List.length_cons]
      by_cases e1 : j = o + i
      · subst e1
        rw [if_neg (by omega), if_pos (by omega)]
        simp [hlt]
      · by_cases e2 : o + (i + 1) ≤ j ∧ j < o + (i + 1) + vs.length
        · rw [if_pos e2, if_pos (by omega)]
          have : j - (o + i) = (j - (o + (i + 1))) + 1 := by omega
          rw [this, List.getElem?_cons_succ]
        · rw [if_neg e2, if_neg (by omega), Array.getElem?_setIfInBounds_ne (by omega)]

theorem putCells_get (cs : List AV) (off : Nat) (vs : List AV) (hle : off + vs.length ≤ cs.length) (j : Nat) :
    (putCells cs off vs)[j]? = if off ≤ j ∧ j < off + vs.length then vs[j - off]? else cs[j]? := by
  unfold putCells
  rw [List.append_assoc, List.getElem?_append]
  simp only [List.length_take]
  have hmin : min off cs.length = off := by omega
  rw [hmin]
  by_cases h1 : j < off
  · rw [if_pos h1, if_neg (by omega), List.getElem?_take, if_pos h1]
  · rw [if_neg h1, List.getElem?_append]
    by_cases h2 : j < off + vs.length
    · rw [if_pos (by omega), if_pos (by omega)]
    · rw [if_neg (by omega), if_neg (by omega), List.getElem?_drop]
      congr 1; omega

theorem putCells_length (cs : List AV) (off : Nat) (vs : List AV) (hle : off + vs.length ≤ cs.length) : (putCells cs off vs).length = cs.length := by
  unfold putCells; simp; omega

/-- Cells of an own block are written. -/
theorem Rel.storeCells (hR : Rel K ρ h w) {id off : Nat} {cs : List AV} {text : Bool} {p : Pl} {vs : List AV} {cvs : List Value} (hg : h.get id = some (.cells cs true text)) (hp : ρ id = some p)
    (hle : off + vs.length ≤ cs.length) (hvs : VRs ρ vs cvs) (hone : ∀ v ∈ cvs, v.oneCell' = true) :
    ∃ w', (Go.storeCells ⟨p.b, p.o + off, none⟩ cvs).run P w = .ok () w' ∧ Rel K ρ (h.put id (.cells (putCells cs off vs) true text)) w' := by
  obtain ⟨q, c, e, fr, hq, hb, hsz, hlim, hget, hfr, htx, hK⟩ := hR.cells hg
  rw [hp] at hq; cases hq
  simp only [if_true] at hsz
  have hlen := hvs.length
  obtain ⟨w', c', hrun, hb', hs', hget', h1, h2, h3, h4, h5⟩ := run_storeCells' (P := P) cvs (p.o + off) 0 w c e fr hb (by omega) hone (hfr rfl).not
  refine ⟨w', hrun, hR.change hg hp rfl rfl h1 h2 h3 h4 h5 ?_⟩
  refine ⟨c', e, fr, hb', by simp [hs', hsz], by rw [putCells_length _ _ _ hle]; exact hlim, fun i a hi => ?_, fun _ => by rw [hs']; exact hfr rfl, fun _ ht => by rw [hs']; exact htx rfl ht⟩
  rw [putCells_get _ _ _ hle] at hi
  rw [hget']
  by_cases e1 : off ≤ i ∧ i < off + vs.length
  · rw [if_pos e1] at hi
    rw [if_pos (by omega)]
    obtain ⟨v, hv, r⟩ := hvs.get hi
    exact ⟨v, by rw [show p.o + i - (p.o + off + 0) = i - off by omega]; exact hv, r⟩
  · rw [if_neg e1] at hi
    rw [if_neg (by omega)]
    exact hget i a hi

theorem evStore_sound {t : TypeId} {x v : AV} {cx cv : Value} {h' : AH} (hR : Rel K ρ h w) (hx : VR ρ x cx) (hv : VR ρ v cv) (hl : evStore P h t x v = some h') :
    ∃ w', (Instr.storeAt t cx cv).run P w = .ok () w' ∧ h.nx ≤ h'.nx ∧ Rel K ρ h' w' := by
  unfold evStore at hl
  split at hl
  · rename_i id off vs hvs
    cases hx with
    | ptr hp =>
    rename_i p
    split at hl
    · rename_i cs text hg
      split at hl
      · rename_i hcond
        simp only [Bool.and_eq_true, beq_iff_eq, decide_eq_true_eq, List.all_eq_true] at hcond
        obtain ⟨⟨hsz, hle⟩, hone⟩ := hcond
        cases hl
        have hcv := cellsA_sound hv hvs
        have hone' : ∀ u ∈ cv.cells.toList, u.oneCell' = true := fun u hu => by
          obtain ⟨i, hi, rfl⟩ := List.getElem_of_mem hu
          have hil : i < vs.length := by rw [hcv.length]; exact hi
          obtain ⟨u', hu', r⟩ := hcv.get (List.getElem?_eq_getElem hil)
          rw [List.getElem?_eq_getElem hi] at hu'
          cases hu'
          exact oneA_sound r (hone _ (List.getElem_mem hil))
        obtain ⟨w', hrun, hR'⟩ := hR.storeCells (P := P) hg hp hle hcv hone'
        refine ⟨w', ?_, Nat.le_refl _, hR'⟩
        have hsz' : cv.cells.size = vs.length := by rw [hcv.length]; simp
        simp only [Instr.storeAt, Instr.sureAddr, Sem.run_bind, Sem.run_pure, Result.andThen_ok, storeVar, run_sizeOf' hsz, hsz', ne_eq, not_true, if_false]
        exact hrun
      · simp at hl
    · simp at hl
  · simp at hl

end
end Go.Abs
