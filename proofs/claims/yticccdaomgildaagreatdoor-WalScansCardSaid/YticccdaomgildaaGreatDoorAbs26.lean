/- The abstract layer, part 26: slices.Sorted(maps.Keys(m)). -/
import Derived.Test.YticccdaomgildaaGreatDoorAbs25
namespace Go.Abs
open Go Go.Proofs Go.RowKit
set_option linter.unusedVariables false
set_option linter.unusedSimpArgs false

section
variable {P : Program} {ρ : Pm} {w w' : World} {K : Kp} {h : AH}

theorem Rel.below (hR : Rel K ρ h w) (hb : Below w.heap.size w w') : Rel K ρ h w' := by
  refine ⟨hb.os.trans hR.os, hb.tape.trans hR.tape, hb.output.trans hR.output, Nat.le_trans hR.size hb.size, fun b o hbo => ?_, hR.fresh, fun id o hg => ?_, hR.inj⟩
  · rw [hb.block b (hR.size_le b o hbo)]; exact hR.keep b o hbo
  · obtain ⟨p, hp, hor, h1, h2⟩ := hR.obj id o hg
    exact ⟨p, hp, by rw [hb.block p.b (hR.lt hg hp)]; exact hor, h1, h2⟩

/-- A new block, wherever behind the old ones it lies. -/
theorem Rel.newAt (hR : Rel K ρ h w) (hb : Below w.heap.size w w') {o : AO} {co : Obj} {g lim : Nat} (hg : w.heap.size ≤ g) (hco : w'.heap[g]? = some co) (hown : o.own = true) (ho : OR (ρ.put h.nx ⟨g, 0, lim⟩) ⟨g, 0, lim⟩ o (some co)) :
    Rel K (ρ.put h.nx ⟨g, 0, lim⟩) (h.new o) w' ∧ Ext h.nx ρ (h.new o).nx (ρ.put h.nx ⟨g, 0, lim⟩) := by
  have hR' := hR.below hb
  have hle : ρ.le (ρ.put h.nx ⟨g, 0, lim⟩) := Pm.le_put (hR.fresh _ (Nat.le_refl _))
  have hKn : K.at_ g = none := by
    cases hk : K.at_ g with
    | none => rfl
    | some o' => have := hR.size_le _ _ hk; omega
  refine ⟨⟨hR'.os, hR'.tape, hR'.output, hR'.size, hR'.keep, fun id hid => ?_, fun id o' hgi => ?_, ?_⟩, Ext.put (hR.fresh _ (Nat.le_refl _))⟩
  · have hne : id ≠ h.nx := by simp at hid; omega
    simp only [Pm.put, if_neg hne]
    exact hR.fresh id (by simp at hid; omega)
  · rw [AH.get_new] at hgi
    by_cases e : id = h.nx
    · subst e
      simp only [if_true, Option.some.injEq] at hgi
      subst hgi
      exact ⟨_, Pm.put_self _ _ _, by rw [hco]; exact ho, fun _ => ⟨hKn, Nat.le_trans hR.size hg⟩, fun hn => by rw [hown] at hn; cases hn⟩
    · rw [if_neg e] at hgi
      obtain ⟨p, hp, hor, h1, h2⟩ := hR'.obj id o' hgi
      exact ⟨p, hle _ _ hp, hor.mono hle, h1, h2⟩
  · intro i j oi oj pi pj hi hj ho1 ho2 hpi hpj hbb
    rw [AH.get_new] at hi hj
    by_cases ei : i = h.nx <;> by_cases ej : j = h.nx
    · rw [ei, ej]
    · exfalso
      subst ei
      rw [if_neg ej] at hj
      simp only [Pm.put, if_neg ej] at hpj
      rw [Pm.put_self] at hpi; cases hpi
      have := hR.lt hj hpj
      simp at hbb; omega
    · exfalso
      subst ej
      rw [if_neg ei] at hi
      simp only [Pm.put, if_neg ei] at hpi
      rw [Pm.put_self] at hpj; cases hpj
      have := hR.lt hi hpi
      simp at hbb; omega
    · rw [if_neg ei] at hi
      rw [if_neg ej] at hj
      simp only [Pm.put, if_neg ei] at hpi
      simp only [Pm.put, if_neg ej] at hpj
      exact hR.inj i j oi oj pi pj hi hj ho1 ho2 hpi hpj hbb

/-- slices.Sorted at an iterator over a map's keys. -/
structure SortedAt (P : Program) (fS g : FuncId) (k : TypeId) : Prop where
  key : P.underlying k = some .string
  body : bodied P fS = true
  all : ∀ (bm b nn : Nat) (D0 : DataW Unit) (w : World), w.cell? ⟨bm, 0, none⟩ = some (.map (some b)) → bm < w.heap.size → w.ownsMap P k anyR b nn D0 → Maps.size D0 ≤ maxLen → Maps.size D0 * 16 ≤ 140737488355328 →
    Calls P fS #[.func (.func g) #[] #[.pointer (some ⟨bm, 0, none⟩)]] w fun e w' => ∃ (v : Value) (ss : List (List UInt8)) (et : TypeId), e = .returned v ∧ ss.Perm (strKeys D0) ∧ w'.ownsRow w.heap.size et 1 v ss.length ((ss.mergeSort leB).map encStr) ∧ (v = .slice none 0 0 ↔ ss = []) ∧ Below w.heap.size w w'
  nil : ∀ (bm : Nat) (w : World), w.cell? ⟨bm, 0, none⟩ = some (.map none) → bm < w.heap.size →
    Calls P fS #[.func (.func g) #[] #[.pointer (some ⟨bm, 0, none⟩)]] w fun e w' => e = .returned (.slice none 0 0) ∧ Below w.heap.size w w'

noncomputable def sumSorted (g : FuncId) (args : List AV) (h : AH) : Option (AV × AH) :=
  match args with
  | [.func (.func g') [] [.ptr bid 0]] =>
    if Nat.beq g' g then
      match h.get bid with
      | some (.cells (.map id :: _) true false) => match h.get id with
        | some (.map es _ _) => match keysA es with
          | some ks => if es.length ≤ 1099511627776 then (match sortS ks with
            | [] => some (.nilsl, h)
            | a :: l => some (.sl h.nx 0 (a :: l).length 1 none, h.new (.cells ((a :: l).map .str) true false))) else none
          | none => none
        | _ => none
      | some (.cells (.nilmap :: _) true false) => some (.nilsl, h)
      | _ => none
    else none
  | _ => none

theorem plain_cell {id : Nat} {a : AV} {l : List AV} {p : Pl} (hR : Rel K ρ h w) (hg : h.get id = some (.cells (a :: l) true false)) (hp : ρ id = some p) : ∃ v, w.cell? ⟨p.b, p.o + 0, none⟩ = some v ∧ VR ρ a v ∧ p.o = 0 ∧ p.b < w.heap.size := by
  obtain ⟨q, hq, ⟨c, e, fr, h1, _, _, h4, _, h6⟩, _⟩ := hR.obj id _ hg
  rw [hp] at hq; cases hq
  obtain ⟨v, hv, hr⟩ := h4 0 a rfl
  exact ⟨v, by simp only [World.cell?, h1]; simpa using hv, hr, (h6 rfl rfl).2.2, hR.lt hg hp⟩

theorem sumSorted_ok {fS g : FuncId} {k : TypeId} (hS : SortedAt P fS g k) {args : List AV} {cargs : Array Value} {v : AV} {h' : AH} (hR : Rel K ρ h w) (hv : VRs ρ args cargs.toList) (hs : sumSorted g args h = some (v, h')) : CallRes P fS cargs w (CallPost K h ρ v h') := by
  unfold sumSorted at hs
  split at hs
  · rename_i g' bid
    split at hs
    · rename_i hgg
      simp only [nbeq, decide_eq_true_eq] at hgg
      subst hgg
      obtain ⟨cx, rfl, h1⟩ := args1 hv
      cases h1 with
      | func _ hl hm =>
      rename_i first captured _
      have hf : first = #[] := Array.eq_empty_of_size_eq_zero (by have := hl.length; simpa using this.symm)
      subst hf
      obtain ⟨cc, rfl, hptr⟩ := args1 hm
      cases hptr with
      | ptr hp =>
      rename_i p
      split at hs
      · rename_i id l hg
        obtain ⟨cm, hcell, hvm, hpo, hlt⟩ := plain_cell hR hg hp
        rw [hpo] at hcell ⊢
        cases hvm with
        | map hpm =>
        rename_i q
        split at hs
        · rename_i es _ clock hgm
          obtain ⟨q', ces, hq', hh, hmr, -, hst⟩ := hR.map hgm
          rw [hpm] at hq'; cases hq'
          cases hk : keysA es with
          | none => simp [hk] at hs
          | some ks =>
            simp only [hk] at hs
            split at hs
            · rename_i hlen
              obtain ⟨xs, e1, e2, e3⟩ := keysA_sound hmr hk
              have hlen2 : ces.size = es.length := by have := hmr.length; simp at this; omega
              have hm : maxLen = 9223372036854775807 := by decide
              obtain ⟨D, d1, d2, d3⟩ := owns_map (w := w) hS.key hh hst e1 e3 (by omega)
              refine callRes_body hS.body (Calls.mono (hS.all p.b q.b ces.size D w hcell hlt d1 (by omega) (by omega)) fun e w' hpost => ?_)
              obtain ⟨cv, ss, et, rfl, hperm, hrow, hnil, hbel⟩ := hpost
              refine ⟨cv, rfl, ?_⟩
              have hsort : ss.mergeSort leB = sortU xs := sortU_eq (hperm.trans d2)
              have hsl : ss.length = (sortU xs).length := by rw [← hsort]; simp
              rw [e2, sortS_eq] at hs
              cases hu : sortU xs with
              | nil =>
                simp only [hu, List.map_nil, Option.some.injEq, Prod.mk.injEq] at hs
                obtain ⟨rfl, rfl⟩ := hs
                have hss : ss = [] := List.eq_nil_of_length_eq_zero (by rw [hsl, hu]; rfl)
                rw [hnil.2 hss]
                exact ⟨ρ, Ext.refl _ _, .nilsl, hR.below hbel⟩
              | cons a l' =>
                simp only [hu, List.map_cons, Option.some.injEq, Prod.mk.injEq] at hs
                obtain ⟨rfl, rfl⟩ := hs
                rcases hrow.2 with ⟨_, h0⟩ | ⟨gb, cap, cur, rfl, hbase, hgb, r1, r2, r3, r4⟩
                · rw [hsl, hu] at h0; simp at h0
                · rw [hsort, hu] at r4
                  have hcap : (a :: l').length ≤ cap := by rw [← hu, ← hsl]; exact r1
                  have hcells : ∀ (i : Nat) (b : AV), ((a :: l').map (fun x => AV.str (x.map UInt8.toNat)))[i]? = some b → ∃ v, cur[0 + i]? = some v ∧ VR (ρ.put h.nx ⟨gb, 0, cur.size⟩) b v := fun i b hi => by
                    rw [List.getElem?_map] at hi
                    cases hx : (a :: l')[i]? with
                    | none => simp [hx] at hi
                    | some x =>
                      simp only [hx, Option.map_some, Option.some.injEq] at hi
                      subst hi
                      have hlt' : i < (a :: l').length := (List.getElem?_eq_some_iff.1 hx).1
                      have : (cur.toList.take (ss.length * 1))[i]? = some (encStr x) := by rw [r4, List.getElem?_map, hx]; rfl
                      rw [List.getElem?_take, if_pos (by rw [hsl, hu]; omega)] at this
                      refine ⟨encStr x, by simpa using this, ?_⟩
                      have := VR.str (ρ := ρ.put h.nx ⟨gb, 0, cur.size⟩) ⟨x.toArray⟩
                      simpa [bytesOf] using this
                  have hmapeq : (AV.str (List.map UInt8.toNat a) :: List.map AV.str (List.map (List.map UInt8.toNat) l')) = (a :: l').map (fun x => AV.str (x.map UInt8.toNat)) := by simp [Function.comp_def]
                  have hleneq : (List.map UInt8.toNat a :: List.map (List.map UInt8.toNat) l').length = ss.length := by rw [hsl, hu]; simp
                  rw [hmapeq, hleneq]
                  obtain ⟨n1, n2⟩ := hR.newAt hbel (o := .cells ((a :: l').map (fun x => AV.str (x.map UInt8.toNat))) true false) (lim := cur.size) hbase hgb rfl
                    ⟨cur, et, (0, 0), rfl, by simp, by simp only [List.length_map]; omega, hcells, fun _ => .inl rfl, fun _ _ => ⟨rfl, by simp at hcap; omega, rfl⟩⟩
                  exact ⟨_, n2, .sl (Pm.put_self _ _ _) r1 (.inr rfl) (.inr (by simp; omega)) (fun n hn => by cases hn), n1⟩
            · simp at hs
        · simp at hs
      · rename_i l hg
        obtain ⟨cm, hcell, hvm, hpo, hlt⟩ := plain_cell hR hg hp
        rw [hpo] at hcell ⊢
        cases hvm
        simp only [Option.some.injEq, Prod.mk.injEq] at hs
        obtain ⟨rfl, rfl⟩ := hs
        refine callRes_body hS.body (Calls.mono (hS.nil p.b w hcell hlt) fun e w' hpost => ?_)
        obtain ⟨rfl, hbel⟩ := hpost
        exact ⟨_, rfl, ρ, Ext.refl _ _, .nilsl, hR.below hbel⟩
      · simp at hs
    · simp at hs
  · simp at hs

end
end Go.Abs
