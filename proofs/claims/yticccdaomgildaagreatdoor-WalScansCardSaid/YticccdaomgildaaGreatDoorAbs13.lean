/- The abstract layer, part 13: conversions, calls, and every operation. -/
import Derived.Test.YticccdaomgildaaGreatDoorAbs12
import Derived.Laws.BytesString
namespace Go.Abs
open Go
set_option linter.unusedVariables false
set_option linter.unusedSimpArgs false

section
variable {P : Program} {ρ : Pm} {w : World} {K : Kp} {h : AH}

/-- What an operation has done. -/
def OpPost (P : Program) (K : Kp) (h : AH) (ρ : Pm) (w : World) (run : Result Next) : ORes → Prop
  | .val v h' => ∃ ρ' cv w', run = .ok (.value cv) w' ∧ Ext h.nx ρ h'.nx ρ' ∧ VR ρ' v cv ∧ Rel K ρ' h' w'
  | .skip h' => ∃ w', run = .ok .skip w' ∧ h.nx ≤ h'.nx ∧ Rel K ρ h' w'
  | .call f args => ∃ cargs : Array Value, run = (callFunc f cargs).run P w ∧ VRs ρ args cargs.toList
  | .yield id args => ∃ (p : Pl) (cargs : Array Value), ρ id = some p ∧ run = (Instr.yield p.b cargs).run P w ∧ VRs ρ args cargs.toList

theorem opPost_val {s : Sem Value} {v : AV} {h' : AH} (hh : ∃ ρ' cv w', s.run P w = .ok cv w' ∧ Ext h.nx ρ h'.nx ρ' ∧ VR ρ' v cv ∧ Rel K ρ' h' w') :
    OpPost P K h ρ w ((do pure (.value (← s)) : Sem Next).run P w) (.val v h') := by
  obtain ⟨ρ', cv, w', r1, r2⟩ := hh
  exact ⟨ρ', cv, w', by simp only [Sem.run_bind, r1, Result.andThen_ok, Sem.run_pure], r2⟩

theorem opPost_pure (hR : Rel K ρ h w) {s : Sem Value} {v? : Option AV} {r : ORes} (hv : val? h v? = some r) (hh : ∀ v, v? = some v → ∃ cv, s.run P w = .ok cv w ∧ VR ρ v cv) :
    OpPost P K h ρ w ((do pure (.value (← s)) : Sem Next).run P w) r := by
  cases v? with
  | none => simp [val?] at hv
  | some v =>
    simp only [val?, Option.some.injEq] at hv
    subst hv
    obtain ⟨cv, r1, r2⟩ := hh v rfl
    exact opPost_val ⟨ρ, cv, w, r1, Ext.refl _ _, r2, hR⟩

theorem opPost_res {s : Sem Value} {r : ORes} (hh : ∃ a h' ρ' cv w', r = .val a h' ∧ s.run P w = .ok cv w' ∧ Ext h.nx ρ h'.nx ρ' ∧ VR ρ' a cv ∧ Rel K ρ' h' w') :
    OpPost P K h ρ w ((do pure (.value (← s)) : Sem Next).run P w) r := by
  obtain ⟨a, h', ρ', cv, w', rfl, r1, r2⟩ := hh
  exact opPost_val ⟨ρ', cv, w', r1, r2⟩

theorem modify_push (a : Array Obj) (x : Obj) (f : Obj → Obj) : (a.push x).modify a.size f = a.push (f x) := by
  apply Array.ext
  · simp
  · intro i h1 h2
    simp only [Array.getElem_modify, Array.getElem_push]
    by_cases e : i < a.size
    · have : a.size ≠ i := by omega
      simp [e, this]
    · have : a.size = i := by simp at h2; omega
      simp [e, this]

theorem bytesA_sound : ∀ {l : List AV} {m : List Value} {bs : List Nat}, VRs ρ l m → bytesA l = some bs → ∃ ns : List Int, m = ns.map (Value.int .u8) ∧ (ns.map fun n => (UInt8.ofNat n.toNat).toNat) = bs
  | [], m, bs, hl, hb => by
    cases hl; simp only [bytesA, Option.some.injEq] at hb; subst hb; exact ⟨[], rfl, rfl⟩
  | a :: l, m, bs, hl, hb => by
    unfold bytesA at hb
    split at hb
    · simp at *
    · rename_i n r heq
      simp only [List.cons.injEq] at heq
      obtain ⟨rfl, rfl⟩ := heq
      cases hl with
      | cons ha hl =>
      cases ha
      split at hb
      · rename_i k
        split at hb
        · rename_i hlt
          cases hr : bytesA l with
          | none => simp [hr] at hb
          | some bs' =>
            simp only [hr, Option.map_some, Option.some.injEq] at hb
            subst hb
            obtain ⟨ns, h1, h2⟩ := bytesA_sound hl hr
            refine ⟨Int.ofNat k :: ns, by rw [h1]; rfl, ?_⟩
            simp only [List.map_cons, h2, List.cons.injEq, and_true]
            simp only [Int.ofNat_eq_natCast, Int.toNat_natCast, UInt8.toNat_ofNat']
            exact Nat.mod_eq_of_lt (by simpa using hlt)
        · simp at hb
      · simp at hb
    · simp at hb

theorem foldl_push (ns : List Int) : ∀ (s : ByteArray), bytesOf (ns.foldl (fun r n => r.push (UInt8.ofNat n.toNat)) s) = bytesOf s ++ ns.map fun n => (UInt8.ofNat n.toNat).toNat := by
  induction ns with
  | nil => intro s; simp
  | cons n ns ih =>
    intro s
    simp only [List.foldl_cons, ih]
    simp [bytesOf, ByteArray.push]

theorem evConvert_sound (hR : Rel K ρ h w) {src dst : TypeId} {x : AV} {cx : Value} {r : ORes} (hx : VR ρ x cx) (hb : evConvert P h src dst x = some r) :
    OpPost P K h ρ w ((do pure (.value (← convert src dst cx)) : Sem Next).run P w) r := by
  unfold evConvert at hb
  split at hb
  · -- to an integer
    rename_i sd k k' n hs hd
    cases hx
    refine opPost_pure hR hb fun v hv => ?_
    simp only [Option.some.injEq] at hv
    subst hv
    refine ⟨.int k (k.wrap n), ?_, .int _ _⟩
    unfold convert
    simp only [Sem.run_bind, run_underlying' hs, run_underlying' hd, Result.andThen_ok]
    cases sd <;> rfl
  · rename_i sd s hs hd
    refine opPost_pure hR hb fun v hv => ?_
    simp only [Option.some.injEq] at hv
    subst hv
    refine ⟨cx, ?_, hx⟩
    cases hx
    unfold convert
    simp only [Sem.run_bind, run_underlying' hs, run_underlying' hd, Result.andThen_ok]
    cases sd <;> rfl
  · -- a string's bytes
    rename_i sd e s hs hd
    split at hb
    · rename_i he
      cases hx
      rename_i bs
      refine opPost_res ?_
      simp only [newCells, Option.some.injEq] at hb
      subst hb
      let q := Question.appendCap bs.size 0 e
      let cap := q.cut (w.tape w.drawn q)
      have hcap : bs.size ≤ cap := by simp only [cap, q, Question.cut]; omega
      let cells : Array Value := (bs.data.map fun b => Value.int .u8 b.toNat) ++ Array.replicate (cap - bs.size) (Value.int .u8 0)
      have hcs : cells.size = cap := by simp [cells]; have : bs.data.size = bs.size := rfl; omega
      have hR1 : Rel K ρ h { w with drawn := w.drawn + 1 } := hR.drawn _
      have hpush := hR1.push (o := .cells ((bytesOf bs).map fun (b : Nat) => AV.int .u8 b) true true) (co := .cells cells e (cells.size, cells.size + 1)) (lim := cells.size) rfl
        ⟨cells, e, _, rfl, by simp, by simp [bytesOf_length]; omega, fun i a hi => by
          have hu := u8_map (ρ := ρ) bs bs.size
          have hlt : i < bs.size := by
            have := (List.getElem?_eq_some_iff.1 hi).1
            simpa [bytesOf_length] using this
          rw [List.take_of_length_le (by rw [bytesOf_length]; exact Nat.le_refl _)] at hu
          obtain ⟨v, hv, rr⟩ := hu.get hi
          refine ⟨v, ?_, rr.mono (Pm.le_put (hR.fresh _ (Nat.le_refl _)))⟩
          have e1 : (bs.extract 0 bs.size) = bs := by simp
          rw [e1] at hv
          simp only [cells]
          rw [Array.getElem?_append_left (by simp; exact hlt)]
          simpa using hv, fun _ => .inr rfl, fun _ ht => by cases ht⟩
      refine ⟨_, _, _, .slice (some ⟨w.heap.size, 0, none⟩) bs.size cap, _, rfl, ?_, hpush.2, ?_, hpush.1⟩
      · have hforced : (Question.appendCap bs.size 0 e).forced = false := rfl
        unfold convert
        simp only [Sem.run_bind, run_underlying' hs, run_underlying' hd, Result.andThen_ok, run_underlying' he]
        have hrun : (Conv.stringToBytes e bs).run P w = .ok (.slice (some ⟨w.heap.size, 0, none⟩) bs.size cap) { w with heap := w.heap.push (.cells cells e (cells.size, cells.size + 1)), drawn := w.drawn + 1 } := by
          unfold Conv.stringToBytes
          simp only [Sem.run_bind, run_choose, hforced, Bool.false_eq_true, if_false, Result.andThen_ok, newRow, run_newObj, Sem.run_pure]
          have hsh : ∀ (ww : World), ww.heap = w.heap.push (.cells cells e (0, 0)) → (markStringish ⟨w.heap.size, 0, none⟩).run P ww = .ok () { ww with heap := w.heap.push (.cells cells e (cells.size, cells.size + 1)) } := by
            intro ww hww
            have h1 : ww.shape? w.heap.size = some (e, cells.size) := by simp [World.shape?, hww]
            unfold markStringish
            simp only [Sem.run_bind, run_shape, Result.andThen_ok, h1, run_freeze]
            unfold World.freeze
            simp only [Nat.one_ne_zero, if_false, hww]
            rw [modify_push]
            simp
          rw [hsh _ rfl]
          rfl
        cases sd <;> exact hrun
      · rw [bytesOf_length]
        exact .sl (Pm.put_self _ _ _) hcap (.inr rfl) (.inr (by simp [hcs])) (fun n hn => by cases hn)
    · simp at hb
  · -- bytes as bytes
    rename_i se e id off len sz c hs hd
    split at hb
    · rename_i cs text he hg
      split at hb
      · rename_i hcond
        simp only [Bool.and_eq_true, decide_eq_true_eq] at hcond
        obtain ⟨rfl, hpos⟩ := hcond
        obtain rfl : se = e := by rw [hs] at hd; cases hd; rfl
        simp only [Option.some.injEq] at hb
        subst hb
        have hx0 := hx
        cases hx with
        | sl hp hlc ha hxx hc =>
        rename_i p ad cap
        rcases ha with h00 | rfl
        · omega
        obtain ⟨q, cc, ee, fr, hq, hh, hsz, hlim, hget, hfr, htx, _⟩ := hR.cells hg
        rw [hp] at hq; cases hq
        refine opPost_val ⟨ρ, _, w.freeze { block := p.b, off := cc.size } 1, ?_, Ext.refl _ _, hx0, ?_⟩
        · unfold convert
          simp only [Sem.run_bind, run_underlying' hs, Result.andThen_ok, run_underlying' he, beq_self_eq_true]
          have h1 : w.shape? p.b = some (ee, cc.size) := by simp [World.shape?, hh]
          unfold markStringish
          simp only [Sem.run_bind, run_shape, Result.andThen_ok, h1, run_freeze, Sem.run_pure]
        · have hfz : (w.freeze { block := p.b, off := cc.size } 1).heap[p.b]? = some (.cells cc ee (cc.size, cc.size + 1)) := by
            unfold World.freeze
            simp only [Nat.one_ne_zero, if_false, Array.getElem?_modify, if_true, hh, Option.map_some]
            rcases hfr rfl with rfl | rfl
            · simp
            · simp
          refine hR.change hg hp rfl rfl ?_ ?_ ?_ ?_ (fun b hb => ?_) ?_
          · unfold World.freeze; simp
          · unfold World.freeze; simp
          · unfold World.freeze; simp
          · unfold World.freeze; simp
          · unfold World.freeze
            simp only [Nat.one_ne_zero, if_false, Array.getElem?_modify]
            rw [if_neg (Ne.symm hb)]
          · rw [hfz]
            exact ⟨cc, ee, _, rfl, hsz, hlim, hget, fun _ => .inr rfl, fun _ ht => by cases ht⟩
      · simp at hb
    · simp at hb
  · -- bytes as a string
    rename_i xx _ _ _ e hs hd hnstr
    split at hb
    · rename_i he
      cases hn : lenA xx with
      | none => simp [hn] at hb
      | some n =>
      simp only [hn, Option.bind_eq_bind, Option.bind_some] at hb
      · cases hf : firstA h 1 n xx with
        | none => simp [hf] at hb
        | some cs =>
        cases hby : bytesA cs with
        | none => simp [hf, hby] at hb
        | some bs =>
        simp only [hf, hby, Option.bind_some, Option.some.injEq] at hb
        subst hb
        obtain ⟨vs, hv1, hv2⟩ := firstA_sound (P := P) hR hx hf
        obtain ⟨ns, hm, hbs⟩ := bytesA_sound hv2 hby
        have hvs : vs = (ns.map (Value.int .u8)).toArray := by rw [← hm]
        refine opPost_val ⟨ρ, .string (ns.foldl (fun r n => r.push (UInt8.ofNat n.toNat)) ByteArray.empty), w, ?_, Ext.refl _ _, ?_, hR⟩
        · have hconv : (convert src dst cx).run P w = (Conv.bytesToString cx).run P w := by
            cases hx <;> simp only [lenA, reduceCtorEq] at hn
            · exact (hnstr _ rfl).elim
            · exact run_convert_bytes_string w src dst _ none 0 0 hs he hd
            · exact run_convert_bytes_string w src dst _ _ _ _ hs he hd
          rw [hconv]
          cases hx <;> simp only [lenA, reduceCtorEq, Option.some.injEq] at hn
          · exact (hnstr _ rfl).elim
          · subst hn
            have hvs0 : vs = #[] := by
              have : (Builtin.firstCells 1 0 (.slice none 0 0)).run P w = .ok #[] w := rfl
              rw [this] at hv1; cases hv1; rfl
            have hns : ns = [] := by
              rw [hvs0] at hvs
              have := congrArg Array.toList hvs
              simpa using this.symm
            subst hns
            rfl
          · subst hn
            refine run_bytesToString w _ _ _ ns ?_
            rw [← hvs]
            simpa [Builtin.firstCells] using hv1
        · have := foldl_push ns ByteArray.empty
          rw [hbs] at this
          have he0 : bytesOf ByteArray.empty = [] := rfl
          rw [he0, List.nil_append] at this
          rw [← this]
          exact .str _
    · simp at hb
  · simp at hb

end
end Go.Abs
