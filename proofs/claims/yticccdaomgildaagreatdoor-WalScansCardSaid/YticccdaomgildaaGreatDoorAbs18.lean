/- The abstract layer, part 18: blocks that are made ahead of their place in the text. -/
import Derived.Test.YticccdaomgildaaGreatDoorAbs17
namespace Go.Abs
open Go
set_option linter.unusedVariables false
set_option linter.unusedSimpArgs false

section
variable {P : Program} {ρ : Pm} {w : World} {K : Kp} {h : AH}

/-- Kx keeps more than K. -/
structure KExt (K Kx : Kp) : Prop where
  os : Kx.os = K.os
  tape : Kx.tape = K.tape
  output : Kx.output = K.output
  size : Kx.size = K.size
  ro : Kx.ro = K.ro
  at_ : ∀ b o, K.at_ b = some o → Kx.at_ b = some o

/-- A block that was made, and is not yet in the heap. -/
def Held (K Kx : Kp) (ρ : Pm) (id : Nat) (ob : AO) : Prop :=
  ∃ pl co, ρ id = some pl ∧ OR ρ pl ob (some co) ∧ ob.own = true ∧ K.at_ pl.b = none ∧ K.size ≤ pl.b ∧ Kx.at_ pl.b = some co

/-- The heap, and blocks that wait. -/
def Framed (K : Kp) (ρ : Pm) (h : AH) (w : World) (S : Nat → AO → Prop) : Prop :=
  ∃ Kx, KExt K Kx ∧ Rel Kx ρ h w ∧ (∀ id ob, S id ob → Held K Kx ρ id ob) ∧
    ∀ id ob id' ob' pl pl', S id ob → S id' ob' → id ≠ id' → ρ id = some pl → ρ id' = some pl' → pl.b ≠ pl'.b

theorem Framed.of_rel (hR : Rel K ρ h w) {S : Nat → AO → Prop} (hS : ∀ id ob, ¬ S id ob) : Framed K ρ h w S :=
  ⟨K, ⟨rfl, rfl, rfl, rfl, rfl, fun _ _ h => h⟩, hR, fun id ob hs => (hS id ob hs).elim, fun id ob _ _ _ _ hs => (hS id ob hs).elim⟩

theorem Framed.rel {S : Nat → AO → Prop} (hF : Framed K ρ h w S) : Rel K ρ h w := by
  obtain ⟨Kx, hK, hR, _, _⟩ := hF
  refine ⟨hR.os.trans hK.os, hR.tape.trans hK.tape, hR.output.trans hK.output, by rw [← hK.size]; exact hR.size, fun b o hb => hR.keep b o (hK.at_ b o hb), hR.fresh, fun id o hg => ?_, hR.inj⟩
  obtain ⟨p, hp, hor, h1, h2⟩ := hR.obj id o hg
  refine ⟨p, hp, hor, fun ho => ⟨?_, by rw [← hK.size]; exact (h1 ho).2⟩, fun ho => by rw [← hK.ro]; exact h2 ho⟩
  cases hk : K.at_ p.b with
  | none => rfl
  | some x => have := hK.at_ _ _ hk; rw [(h1 ho).1] at this; cases this

theorem Framed.weaken {S S' : Nat → AO → Prop} (hF : Framed K ρ h w S) (hs : ∀ id ob, S' id ob → S id ob) : Framed K ρ h w S' := by
  obtain ⟨Kx, hK, hR, h1, h2⟩ := hF
  exact ⟨Kx, hK, hR, fun id ob h => h1 id ob (hs id ob h), fun id ob id' ob' pl pl' a b => h2 id ob id' ob' pl pl' (hs _ _ a) (hs _ _ b)⟩

/-- A block that waited takes its place. -/
theorem Framed.absorb1 {S : Nat → AO → Prop} (hF : Framed K ρ h w S) {id : Nat} {ob : AO} (hs : S id ob) : Framed K ρ (h.put id ob) w (fun i o => S i o ∧ i ≠ id) := by
  obtain ⟨Kx, hK, hR, h1, h2⟩ := hF
  obtain ⟨pl, co, hpl, hor, hown, hKn, hKs, hKx⟩ := h1 id ob hs
  have hro : Kx.ro pl.b = false := by
    rw [hK.ro]
    cases hr : K.ro pl.b with
    | false => rfl
    | true => have := K.roAt _ hr; rw [hKn] at this; cases this
  have hroAt : ∀ b, Kx.ro b = true → ((fun b => if b = pl.b then none else Kx.at_ b) b).isSome = true := fun b hb => by
    have hne : b ≠ pl.b := fun e => by rw [e, hro] at hb; cases hb
    simp only [if_neg hne]; exact Kx.roAt b hb
  let Ky : Kp := { os := Kx.os, tape := Kx.tape, output := Kx.output, size := Kx.size, at_ := fun b => if b = pl.b then none else Kx.at_ b, ro := Kx.ro, roAt := hroAt }
  refine ⟨Ky, ⟨hK.os, hK.tape, hK.output, hK.size, hK.ro, fun b o hb => ?_⟩, ⟨hR.os, hR.tape, hR.output, hR.size, fun b o hb => ?_, fun i hi => hR.fresh i (by simpa using hi), fun i o hg => ?_, ?_⟩, fun i o hio => ?_, fun i o i' o' pi pi' hi hi' hne => h2 i o i' o' pi pi' hi.1 hi'.1 hne⟩
  · have hne : b ≠ pl.b := fun e => by rw [e, hKn] at hb; cases hb
    simp only [Ky, if_neg hne]; exact hK.at_ b o hb
  · by_cases e : b = pl.b
    · simp only [Ky, if_pos e] at hb; cases hb
    · simp only [Ky, if_neg e] at hb; exact hR.keep b o hb
  · rw [AH.get_put] at hg
    by_cases e : i = id
    · subst e
      simp only [if_true, Option.some.injEq] at hg
      subst hg
      refine ⟨pl, hpl, by rw [hR.keep _ _ hKx]; exact hor, fun _ => ⟨by simp [Ky], by show Kx.size ≤ _; rw [hK.size]; exact hKs⟩, fun hn => by rw [hown] at hn; cases hn⟩
    · rw [if_neg e] at hg
      obtain ⟨p, hp, ho, a1, a2⟩ := hR.obj i o hg
      refine ⟨p, hp, ho, fun hw => ⟨?_, (a1 hw).2⟩, a2⟩
      by_cases e' : p.b = pl.b
      · simp [Ky, e']
      · simp only [Ky, if_neg e']; exact (a1 hw).1
  · intro i j oi oj pi pj hi hj ho1 ho2 hpi hpj hb
    rw [AH.get_put] at hi hj
    have key : ∀ (i : Nat) (oi : AO) (pi : Pl), h.get i = some oi → oi.own = true → ρ i = some pi → pi.b ≠ pl.b := fun i oi pi hi ho hp eb => by
      obtain ⟨p, hp', _, a1, _⟩ := hR.obj i oi hi
      rw [hp] at hp'; cases hp'
      have := (a1 ho).1
      rw [eb, hKx] at this; cases this
    by_cases ei : i = id <;> by_cases ej : j = id
    · rw [ei, ej]
    · rw [if_neg ej] at hj
      subst ei
      rw [hpl] at hpi; cases hpi
      exact (key j oj pj hj ho2 hpj hb.symm).elim
    · rw [if_neg ei] at hi
      subst ej
      rw [hpl] at hpj; cases hpj
      exact (key i oi pi hi ho1 hpi hb).elim
    · rw [if_neg ei] at hi
      rw [if_neg ej] at hj
      exact hR.inj i j oi oj pi pj hi hj ho1 ho2 hpi hpj hb
  · obtain ⟨p, c, b1, b2, b3, b4, b5, b6⟩ := h1 i o hio.1
    have hne : p.b ≠ pl.b := h2 i o id ob p pl hio.1 hs hio.2 b1 hpl
    exact ⟨p, c, b1, b2, b3, b4, b5, by simp only [Ky, if_neg hne]; exact b6⟩

theorem Framed.absorbL : ∀ (L : List (Nat × AO)) {h : AH} {S : Nat → AO → Prop}, Framed K ρ h w S → (L.map (·.1)).Nodup → (∀ id ob, (id, ob) ∈ L → S id ob) → Framed K ρ (absorb L h) w (fun i o => S i o ∧ ∀ ob, (i, ob) ∉ L)
  | [], h, S, hF, _, _ => by
    refine hF.weaken fun id ob hs => hs.1
  | (id, ob) :: L, h, S, hF, hn, hL => by
    simp only [List.map_cons, List.nodup_cons] at hn
    have hF1 := hF.absorb1 (hL id ob (List.mem_cons_self ..))
    have hF2 := Framed.absorbL L hF1 hn.2 fun i o hi => ⟨hL i o (List.mem_cons_of_mem _ hi), fun e => hn.1 (by subst e; exact List.mem_map_of_mem (f := (·.1)) hi)⟩
    refine hF2.weaken fun i o hs => ⟨⟨hs.1, fun e => hs.2 ob (by subst e; exact List.mem_cons_self ..)⟩, fun o' hm => hs.2 o' (List.mem_cons_of_mem _ hm)⟩

theorem absorb_nx : ∀ (L : List (Nat × AO)) (h : AH), (absorb L h).nx = h.nx
  | [], _ => rfl
  | (id, ob) :: L, h => by simp [absorb, absorb_nx L]

/-- A block is made, and waits. -/
theorem Framed.make {S : Nat → AO → Prop} (hF : Framed K ρ h w S) {id : Nat} {ob : AO} {co : Obj} {lim : Nat} (hid : id < h.nx) (hnone : ρ id = none) (hown : ob.own = true)
    (hor : OR (ρ.put id ⟨w.heap.size, 0, lim⟩) ⟨w.heap.size, 0, lim⟩ ob (some co)) :
    Framed K (ρ.put id ⟨w.heap.size, 0, lim⟩) h { w with heap := w.heap.push co } (fun i o => S i o ∨ (i = id ∧ o = ob)) := by
  obtain ⟨Kx, hK, hR, h1, h2⟩ := hF
  have hle : ρ.le (ρ.put id ⟨w.heap.size, 0, lim⟩) := Pm.le_put hnone
  have hold : ∀ b, b < w.heap.size → (w.heap.push co)[b]? = w.heap[b]? := fun b hb => by rw [Array.getElem?_push, if_neg (by omega)]
  have hKn : Kx.at_ w.heap.size = none := by
    cases hk : Kx.at_ w.heap.size with
    | none => rfl
    | some o' => have := hR.size_le _ _ hk; omega
  have hKn0 : K.at_ w.heap.size = none := by
    cases hk : K.at_ w.heap.size with
    | none => rfl
    | some o' => have := hK.at_ _ _ hk; rw [hKn] at this; cases this
  have hroAt : ∀ b, Kx.ro b = true → ((fun b => if b = w.heap.size then some co else Kx.at_ b) b).isSome = true := fun b hb => by
    by_cases e : b = w.heap.size
    · simp [e]
    · simp only [if_neg e]; exact Kx.roAt b hb
  let Ky : Kp := { os := Kx.os, tape := Kx.tape, output := Kx.output, size := Kx.size, at_ := fun b => if b = w.heap.size then some co else Kx.at_ b, ro := Kx.ro, roAt := hroAt }
  have hsame : ∀ i pi, i ≠ id → (ρ.put id ⟨w.heap.size, 0, lim⟩) i = some pi → ρ i = some pi := fun i pi hne hp => by simpa [Pm.put, hne] using hp
  refine ⟨Ky, ⟨hK.os, hK.tape, hK.output, hK.size, hK.ro, fun b o hb => ?_⟩, ⟨hR.os, hR.tape, hR.output, by simp; have := hR.size; exact Nat.le_succ_of_le this, fun b o hb => ?_, fun i hi => ?_, fun i o hg => ?_, ?_⟩, fun i o hio => ?_, ?_⟩
  · have hne : b ≠ w.heap.size := fun e => by rw [e, hKn0] at hb; cases hb
    simp only [Ky, if_neg hne]; exact hK.at_ b o hb
  · by_cases e : b = w.heap.size
    · simp only [Ky, if_pos e, Option.some.injEq] at hb
      subst hb; subst e; simp
    · simp only [Ky, if_neg e] at hb
      rw [show ({ w with heap := w.heap.push co } : World).heap = w.heap.push co from rfl, hold b (hR.size_le b o hb)]
      exact hR.keep b o hb
  · have hne : i ≠ id := by omega
    simp only [Pm.put, if_neg hne]; exact hR.fresh i hi
  · obtain ⟨p, hp, ho, a1, a2⟩ := hR.obj i o hg
    have hlt := hR.lt hg hp
    refine ⟨p, hle _ _ hp, ?_, fun hw => ⟨?_, (a1 hw).2⟩, a2⟩
    · rw [show ({ w with heap := w.heap.push co } : World).heap = w.heap.push co from rfl, hold p.b hlt]
      exact ho.mono hle
    · have hne : p.b ≠ w.heap.size := by omega
      simp only [Ky, if_neg hne]; exact (a1 hw).1
  · intro i j oi oj pi pj hi hj ho1 ho2 hpi hpj hb
    have fi : i ≠ id := fun e => by
      obtain ⟨p, hp, _⟩ := hR.obj i oi hi
      rw [e, hnone] at hp; cases hp
    have fj : j ≠ id := fun e => by
      obtain ⟨p, hp, _⟩ := hR.obj j oj hj
      rw [e, hnone] at hp; cases hp
    exact hR.inj i j oi oj pi pj hi hj ho1 ho2 (hsame i pi fi hpi) (hsame j pj fj hpj) hb
  · rcases hio with hs | ⟨rfl, rfl⟩
    · obtain ⟨p, c, b1, b2, b3, b4, b5, b6⟩ := h1 i o hs
      have hne : p.b ≠ w.heap.size := fun e => by rw [e, hKn] at b6; cases b6
      exact ⟨p, c, hle _ _ b1, b2.mono hle, b3, b4, b5, by simp only [Ky, if_neg hne]; exact b6⟩
    · exact ⟨⟨w.heap.size, 0, lim⟩, co, Pm.put_self _ _ _, hor, hown, hKn0, by have := hR.size; rw [hK.size] at this; exact this, by simp [Ky]⟩
  · have hfar : ∀ i o pi, S i o → (ρ.put id ⟨w.heap.size, 0, lim⟩) i = some pi → pi.b ≠ w.heap.size ∧ i ≠ id ∧ ρ i = some pi := fun i o pi hs hp => by
      obtain ⟨p, c, b1, b2, b3, b4, b5, b6⟩ := h1 i o hs
      have hne : i ≠ id := fun e => by rw [e, hnone] at b1; cases b1
      have := hsame i pi hne hp
      rw [b1] at this; cases this
      exact ⟨(fun e => by rw [e, hKn] at b6; cases b6), hne, b1⟩
    intro i o i' o' pi pi' hs hs' hne hp hp'
    rcases hs with hs | ⟨rfl, rfl⟩ <;> rcases hs' with hs' | ⟨rfl, rfl⟩
    · exact h2 i o i' o' pi pi' hs hs' hne (hfar i o pi hs hp).2.2 (hfar i' o' pi' hs' hp').2.2
    · rw [Pm.put_self] at hp'; cases hp'
      exact (hfar i o pi hs hp).1
    · rw [Pm.put_self] at hp; cases hp
      exact fun e => (hfar i' o' pi' hs' hp').1 e.symm
    · exact (hne rfl).elim

/-- The heap goes on, under the frame. -/
theorem Framed.step {S : Nat → AO → Prop} (hF : Framed K ρ h w S) (hlt : ∀ id ob, S id ob → id < h.nx) :
    ∃ Kx, Rel Kx ρ h w ∧ ∀ ρ' h' w', Ext h.nx ρ h'.nx ρ' → Rel Kx ρ' h' w' → Framed K ρ' h' w' S := by
  obtain ⟨Kx, hK, hR, h1, h2⟩ := hF
  refine ⟨Kx, hR, fun ρ' h' w' hE hR' => ⟨Kx, hK, hR', fun id ob hs => ?_, fun id ob id' ob' pl pl' hs hs' hne hp hp' => ?_⟩⟩
  · obtain ⟨p, c, b1, b2, b3, b4, b5, b6⟩ := h1 id ob hs
    exact ⟨p, c, hE.le _ _ b1, b2.mono hE.le, b3, b4, b5, b6⟩
  · rw [hE.old _ (hlt _ _ hs)] at hp
    rw [hE.old _ (hlt _ _ hs')] at hp'
    exact h2 id ob id' ob' pl pl' hs hs' hne hp hp'

end
end Go.Abs
