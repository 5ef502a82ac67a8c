/- The abstract layer, parts 26 to 29. Conditions: none. -/
import Derived.Test.YtmfbcniknjecbaaGreatDoorAb3

section
namespace Go.Abs
open Go Go.Proofs Go.RowKit
set_option linter.unusedVariables false
set_option linter.unusedSimpArgs false

section
variable {P : Program} {ρ : Pm} {w w' : World} {K : Kp} {h : AH}

theorem Rel.below (hR : Rel K ρ h w) (hb : Below w.heap.size w w') : Rel K ρ h w' := by
  refine ⟨hb.os.trans hR.os, hb.tape.trans hR.tape, hb.output.trans hR.output, Nat.le_trans hR.size hb.size, fun b o hbo => ?_, hR.fresh, fun id o hg => ?_, hR.inj⟩
  · rw [hb.block b (hR.size_le b o hbo)]; exact hR.keep b o hbo
  · obtain ⟨p, hp, hor, h1, h2⟩ := hR.obj id o hg
    exact ⟨p, hp, by rw [hb.block p.b (hR.lt hg hp)]; exact hor, h1, h2⟩

theorem Rel.newAt (hR : Rel K ρ h w) (hb : Below w.heap.size w w') {o : AO} {co : Obj} {g lim : Nat} (hg : w.heap.size ≤ g) (hco : w'.heap[g]? = some co) (hown : o.own = true) (ho : OR (ρ.put h.nx ⟨g, 0, lim⟩) ⟨g, 0, lim⟩ o (some co)) :
    Rel K (ρ.put h.nx ⟨g, 0, lim⟩) (h.new o) w' ∧ Ext h.nx ρ (h.new o).nx (ρ.put h.nx ⟨g, 0, lim⟩) := by
  have hR' := hR.below hb
  have hle : ρ.le (ρ.put h.nx ⟨g, 0, lim⟩) := Pm.le_put (hR.fresh _ (Nat.le_refl _))
  have hKn : K.at_ g = none := by
    cases hk : K.at_ g with
    | none => rfl
    | some o' => have := hR.size_le _ _ hk; omega
  refine ⟨⟨hR'.os, hR'.tape, hR'.output, hR'.size, hR'.keep, fun id hid => ?_, fun id o' hgi => ?_, ?_⟩, Ext.put (hR.fresh _ (Nat.le_refl _))⟩
  · have hne : id ≠ h.nx := by simp at hid; omega
    simp only [Pm.put, if_neg hne]
    exact hR.fresh id (by simp at hid; omega)
  · rw [AH.get_new] at hgi
    by_cases e : id = h.nx
    · subst e
      simp only [if_true, Option.some.injEq] at hgi
      subst hgi
      exact ⟨_, Pm.put_self _ _ _, by rw [hco]; exact ho, fun _ => ⟨hKn, Nat.le_trans hR.size hg⟩, fun hn => by rw [hown] at hn; cases hn⟩
    · rw [if_neg e] at hgi
      obtain ⟨p, hp, hor, h1, h2⟩ := hR'.obj id o' hgi
      exact ⟨p, hle _ _ hp, hor.mono hle, h1, h2⟩
  · intro i j oi oj pi pj hi hj ho1 ho2 hpi hpj hbb
    rw [AH.get_new] at hi hj
    by_cases ei : i = h.nx <;> by_cases ej : j = h.nx
    · rw [ei, ej]
    · exfalso
      subst ei
      rw [if_neg ej] at hj
      simp only [Pm.put, if_neg ej] at hpj
      rw [Pm.put_self] at hpi; cases hpi
      have := hR.lt hj hpj
      simp at hbb; omega
    · exfalso
      subst ej
      rw [if_neg ei] at hi
      simp only [Pm.put, if_neg ei] at hpi
      rw [Pm.put_self] at hpj; cases hpj
      have := hR.lt hi hpi
      simp at hbb; omega
    · rw [if_neg ei] at hi
      rw [if_neg ej] at hj
      simp only [Pm.put, if_neg ei] at hpi
      simp only [Pm.put, if_neg ej] at hpj
      exact hR.inj i j oi oj pi pj hi hj ho1 ho2 hpi hpj hbb

structure SortedAt (P : Program) (fS g : FuncId) (k : TypeId) : Prop where
  key : P.underlying k = some .string
  body : bodied P fS = true
  all : ∀ (bm b nn : Nat) (D0 : DataW Unit) (w : World), w.cell? ⟨bm, 0, none⟩ = some (.map (some b)) → bm < w.heap.size → w.ownsMap P k anyR b nn D0 → Maps.size D0 ≤ maxLen → Maps.size D0 * 16 ≤ 140737488355328 →
    Calls P fS #[.func (.func g) #[] #[.pointer (some ⟨bm, 0, none⟩)]] w fun e w' => ∃ (v : Value) (ss : List (List UInt8)) (et : TypeId), e = .returned v ∧ ss.Perm (strKeys D0) ∧ w'.ownsRow w.heap.size et 1 v ss.length ((ss.mergeSort leB).map encStr) ∧ (v = .slice none 0 0 ↔ ss = []) ∧ Below w.heap.size w w'
  nil : ∀ (bm : Nat) (w : World), w.cell? ⟨bm, 0, none⟩ = some (.map none) → bm < w.heap.size →
    Calls P fS #[.func (.func g) #[] #[.pointer (some ⟨bm, 0, none⟩)]] w fun e w' => e = .returned (.slice none 0 0) ∧ Below w.heap.size w w'

noncomputable def sumSorted (g : FuncId) (args : List AV) (h : AH) : Option (AV × AH) :=
  match args with
  | [.func (.func g') [] [.ptr bid 0]] =>
    if Nat.beq g' g then
      match h.get bid with
      | some (.cells (.map id :: _) true false) => match h.get id with
        | some (.map es _ _) => match keysA es with
          | some ks => if es.length ≤ 1099511627776 then (match sortS ks with
            | [] => some (.nilsl, h)
            | a :: l => some (.sl h.nx 0 (a :: l).length 1 none, h.new (.cells ((a :: l).map .str) true false))) else none
          | none => none
        | _ => none
      | some (.cells (.nilmap :: _) true false) => some (.nilsl, h)
      | _ => none
    else none
  | _ => none

theorem plain_cell {id : Nat} {a : AV} {l : List AV} {p : Pl} (hR : Rel K ρ h w) (hg : h.get id = some (.cells (a :: l) true false)) (hp : ρ id = some p) : ∃ v, w.cell? ⟨p.b, p.o + 0, none⟩ = some v ∧ VR ρ a v ∧ p.o = 0 ∧ p.b < w.heap.size := by
  obtain ⟨q, hq, ⟨c, e, fr, h1, _, _, h4, _, h6⟩, _⟩ := hR.obj id _ hg
  rw [hp] at hq; cases hq
  obtain ⟨v, hv, hr⟩ := h4 0 a rfl
  exact ⟨v, by simp only [World.cell?, h1]; simpa using hv, hr, (h6 rfl rfl).2.2, hR.lt hg hp⟩

theorem sumSorted_ok {fS g : FuncId} {k : TypeId} (hS : SortedAt P fS g k) {args : List AV} {cargs : Array Value} {v : AV} {h' : AH} (hR : Rel K ρ h w) (hv : VRs ρ args cargs.toList) (hs : sumSorted g args h = some (v, h')) : CallRes P fS cargs w (CallPost K h ρ v h') := by
  unfold sumSorted at hs
  split at hs
  · rename_i g' bid
    split at hs
    · rename_i hgg
      simp only [nbeq, decide_eq_true_eq] at hgg
      subst hgg
      obtain ⟨cx, rfl, h1⟩ := args1 hv
      cases h1 with
      | func _ hl hm =>
      rename_i first captured _
      have hf : first = #[] := Array.eq_empty_of_size_eq_zero (by have := hl.length; simpa using this.symm)
      subst hf
      obtain ⟨cc, rfl, hptr⟩ := args1 hm
      cases hptr with
      | ptr hp =>
      rename_i p
      split at hs
      · rename_i id l hg
        obtain ⟨cm, hcell, hvm, hpo, hlt⟩ := plain_cell hR hg hp
        rw [hpo] at hcell ⊢
        cases hvm with
        | map hpm =>
        rename_i q
        split at hs
        · rename_i es _ clock hgm
          obtain ⟨q', ces, hq', hh, hmr, -, hst⟩ := hR.map hgm
          rw [hpm] at hq'; cases hq'
          cases hk : keysA es with
          | none => simp [hk] at hs
          | some ks =>
            simp only [hk] at hs
            split at hs
            · rename_i hlen
              obtain ⟨xs, e1, e2, e3⟩ := keysA_sound hmr hk
              have hlen2 : ces.size = es.length := by have := hmr.length; simp at this; omega
              have hm : maxLen = 9223372036854775807 := by decide
              obtain ⟨D, d1, d2, d3⟩ := owns_map (w := w) hS.key hh hst e1 e3 (by omega)
              refine callRes_body hS.body (Calls.mono (hS.all p.b q.b ces.size D w hcell hlt d1 (by omega) (by omega)) fun e w' hpost => ?_)
              obtain ⟨cv, ss, et, rfl, hperm, hrow, hnil, hbel⟩ := hpost
              refine ⟨cv, rfl, ?_⟩
              have hsort : ss.mergeSort leB = sortU xs := sortU_eq (hperm.trans d2)
              have hsl : ss.length = (sortU xs).length := by rw [← hsort]; simp
              rw [e2, sortS_eq] at hs
              cases hu : sortU xs with
              | nil =>
                simp only [hu, List.map_nil, Option.some.injEq, Prod.mk.injEq] at hs
                obtain ⟨rfl, rfl⟩ := hs
                have hss : ss = [] := List.eq_nil_of_length_eq_zero (by rw [hsl, hu]; rfl)
                rw [hnil.2 hss]
                exact ⟨ρ, Ext.refl _ _, .nilsl, hR.below hbel⟩
              | cons a l' =>
                simp only [hu, List.map_cons, Option.some.injEq, Prod.mk.injEq] at hs
                obtain ⟨rfl, rfl⟩ := hs
                rcases hrow.2 with ⟨_, h0⟩ | ⟨gb, cap, cur, rfl, hbase, hgb, r1, r2, r3, r4⟩
                · rw [hsl, hu] at h0; simp at h0
                · rw [hsort, hu] at r4
                  have hcap : (a :: l').length ≤ cap := by rw [← hu, ← hsl]; exact r1
                  have hcells : ∀ (i : Nat) (b : AV), ((a :: l').map (fun x => AV.str (x.map UInt8.toNat)))[i]? = some b → ∃ v, cur[0 + i]? = some v ∧ VR (ρ.put h.nx ⟨gb, 0, cur.size⟩) b v := fun i b hi => by
                    rw [List.getElem?_map] at hi
                    cases hx : (a :: l')[i]? with
                    | none => simp [hx] at hi
                    | some x =>
                      simp only [hx, Option.map_some, Option.some.injEq] at hi
                      subst hi
                      have hlt' : i < (a :: l').length := (List.getElem?_eq_some_iff.1 hx).1
                      have : (cur.toList.take (ss.length * 1))[i]? = some (encStr x) := by rw [r4, List.getElem?_map, hx]; rfl
                      rw [List.getElem?_take, if_pos (by rw [hsl, hu]; omega)] at this
                      refine ⟨encStr x, by simpa using this, ?_⟩
                      have := VR.str (ρ := ρ.put h.nx ⟨gb, 0, cur.size⟩) ⟨x.toArray⟩
                      simpa [bytesOf] using this
                  have hmapeq : (AV.str (List.map UInt8.toNat a) :: List.map AV.str (List.map (List.map UInt8.toNat) l')) = (a :: l').map (fun x => AV.str (x.map UInt8.toNat)) := by simp [Function.comp_def]
                  have hleneq : (List.map UInt8.toNat a :: List.map (List.map UInt8.toNat) l').length = ss.length := by rw [hsl, hu]; simp
                  rw [hmapeq, hleneq]
                  obtain ⟨n1, n2⟩ := hR.newAt hbel (o := .cells ((a :: l').map (fun x => AV.str (x.map UInt8.toNat))) true false) (lim := cur.size) hbase hgb rfl
                    ⟨cur, et, (0, 0), rfl, by simp, by simp only [List.length_map]; omega, hcells, fun _ => .inl rfl, fun _ _ => ⟨rfl, by simp at hcap; omega, rfl⟩⟩
                  exact ⟨_, n2, .sl (Pm.put_self _ _ _) r1 (.inr rfl) (.inr (by simp; omega)) (fun n hn => by cases hn), n1⟩
            · simp at hs
        · simp at hs
      · rename_i l hg
        obtain ⟨cm, hcell, hvm, hpo, hlt⟩ := plain_cell hR hg hp
        rw [hpo] at hcell ⊢
        cases hvm
        simp only [Option.some.injEq, Prod.mk.injEq] at hs
        obtain ⟨rfl, rfl⟩ := hs
        refine callRes_body hS.body (Calls.mono (hS.nil p.b w hcell hlt) fun e w' hpost => ?_)
        obtain ⟨rfl, hbel⟩ := hpost
        exact ⟨_, rfl, ρ, Ext.refl _ _, .nilsl, hR.below hbel⟩
      · simp at hs
    · simp at hs
  · simp at hs

end
end Go.Abs
end

section
namespace Go.Abs
open Go Go.Proofs Go.RowKit
set_option linter.unusedVariables false
set_option linter.unusedSimpArgs false

def FileAt (w : World) (a : Addr) : Prop := a.block < w.heap.size ∧ a.spot = none ∧ ∃ base n cap, w.cell? a = some (.slice base n cap) ∧ ((base = none ∧ n = 0 ∧ cap = 0) ∨ ∃ c, base = some c ∧ n ≤ cap ∧ (cap = 0 ∨ c.spot = none))
abbrev File (w : World) := { a : Addr // FileAt w a }
def encF {w : World} (x : File w) : Value := .pointer (some x.1)
open Classical in
noncomputable def relF (w : World) (v : Value) : Option (DataW Value × List MemPlace) :=
  if ∃ x : File w, v = encF x then some (.held v, []) else none
theorem relF_inv {w : World} : ∀ v y, relF w v = some y → ∃ c : File w, v = encF c := fun v y h => by
  unfold relF at h
  split at h
  · assumption
  · cases h
theorem relF_eq {w : World} {v : Value} {y : DataW Value × List MemPlace} (h : relF w v = some y) : y = (.held v, []) := by
  unfold relF at h
  split at h
  · exact (Option.some.inj h).symm
  · cases h
theorem relF_file {w : World} (x : File w) : relF w (encF x) = some (.held (encF x), []) := by
  unfold relF
  rw [if_pos ⟨x, rfl⟩]
def ValAtF {w : World} (D0 : DataW Value) (p : List UInt8 × File w) : Prop := ∀ zd, D0.atKey (.string p.1) zd = .held (encF p.2)
def AllF {w : World} (D0 : DataW Value) (xs : List (File w)) : Prop := ∃ ps : List (List UInt8 × File w), (ps.map (·.1)).Perm (strKeys D0) ∧ (∀ p ∈ ps, ValAtF D0 p) ∧ xs = ps.map (·.2)
def lenF {w : World} (x : File w) : Int := match w.cell? x.1 with
  | some (.slice _ n _) => n
  | _ => 0

section
variable {P : Program} {ρ : Pm} {w w' : World} {K : Kp} {h : AH}

structure UsedAt (P : Program) (f : FuncId) (k : TypeId) : Prop where
  key : P.underlying k = some .string
  body : bodied P f = true
  used : ∀ (tb to b nn : Nat) (D0 : DataW Value) (w : World), w.cell? ⟨tb, to + 2, none⟩ = some (.map (some b)) → w.ownsMap P k (relF w) b nn D0 →
    Calls P f #[.pointer (some ⟨tb, to, none⟩)] w fun e w' => (∃ xs : List (File w), AllF D0 xs ∧ e = .returned (.int .i64 (wrap64 ((xs.map lenF).sum)))) ∧ Below w.heap.size w w'

noncomputable def lensA (h : AH) : List (AV × AV) → Option Nat
  | [] => some 0
  | (_, .ptr fi fo) :: r => match h.get fi with
    | some (.cells cs _ _) => match cs[fo]? with
      | some (.sl _ _ n _ _) => (lensA h r).map (n + ·)
      | some .nilsl => lensA h r
      | _ => none
    | _ => none
  | _ => none

noncomputable def sumUsed (args : List AV) (h : AH) : Option (AV × AH) :=
  match args with
  | [.ptr id off] => match h.get id with
    | some (.cells cs _ _) => match cs[off + 2]? with
      | some (.map m) => match h.get m with
        | some (.map es _ _) => match keysA es, lensA h es with
          | some _, some n => if es.length ≤ 1099511627776 && n ≤ 1099511627776 then some (.int .i64 (Int.ofNat n), h) else none
          | _, _ => none
        | _ => none
      | _ => none
    | _ => none
  | _ => none

theorem cellAt {id off : Nat} {cs : List AV} {o t : Bool} {a : AV} {p : Pl} (hR : Rel K ρ h w) (hg : h.get id = some (.cells cs o t)) (hp : ρ id = some p) (ha : cs[off]? = some a) : ∃ v, w.cell? ⟨p.b, p.o + off, none⟩ = some v ∧ VR ρ a v ∧ p.b < w.heap.size := by
  obtain ⟨q, hq, ⟨c, e, fr, h1, _, _, h4, _⟩, _⟩ := hR.obj id _ hg
  rw [hp] at hq; cases hq
  obtain ⟨v, hv, hr⟩ := h4 off a ha
  exact ⟨v, by simp only [World.cell?, h1]; simpa using hv, hr, hR.lt hg hp⟩

def lenV (w : World) : Value → Int
  | .pointer (some a) => match w.cell? a with
    | some (.slice _ n _) => n
    | _ => 0
  | _ => 0

theorem lensA_sound (hR : Rel K ρ h w) : ∀ {es : List (AV × AV)} {l : List MapEntry} {n : Nat}, MR ρ es l → lensA h es = some n →
    (∀ e ∈ l, ∃ x : File w, e.val = encF x) ∧ (l.map fun e => lenV w e.val).sum = (n : Int)
  | [], [], n, _, hn => by
    simp only [lensA, Option.some.injEq] at hn
    subst hn
    exact ⟨by simp, rfl⟩
  | (k, v) :: es, e :: l, n, ⟨h1, h2, h3⟩, hn => by
    unfold lensA at hn
    split at hn
    · rename_i heq; cases heq
    · rename_i k' fi fo r heq
      simp only [List.cons.injEq, Prod.mk.injEq] at heq
      obtain ⟨⟨rfl, rfl⟩, rfl⟩ := heq
      generalize hev : e.val = ev at h2
      cases h2 with
      | ptr hp =>
      rename_i p
      split at hn
      · rename_i cs o t hg
        split at hn
        · rename_i sid soff sn ssz sc hc
          obtain ⟨cv, c1, c2, c3⟩ := cellAt hR hg hp hc
          cases hr : lensA h es with
          | none => simp [hr] at hn
          | some m =>
            simp only [hr, Option.map_some, Option.some.injEq] at hn
            subst hn
            obtain ⟨i1, i2⟩ := lensA_sound hR h3 hr
            cases c2 with
            | sl q1 q2 q3 q4 q5 =>
            rename_i sp sa scap
            have hx : FileAt w ⟨p.b, p.o + fo, none⟩ := ⟨c3, rfl, _, _, _, c1, .inr ⟨sa, rfl, q2, q3.imp id (fun hh => by rw [hh])⟩⟩
            refine ⟨fun e' he' => ?_, ?_⟩
            · rcases List.mem_cons.1 he' with rfl | he'
              · exact ⟨⟨_, hx⟩, hev⟩
              · exact i1 e' he'
            · rw [List.map_cons, List.sum_cons, i2, hev]
              simp only [lenV, c1]
              omega
        · rename_i hc
          obtain ⟨cv, c1, c2, c3⟩ := cellAt hR hg hp hc
          obtain ⟨i1, i2⟩ := lensA_sound hR h3 hn
          cases c2
          have hx : FileAt w ⟨p.b, p.o + fo, none⟩ := ⟨c3, rfl, _, _, _, c1, .inl ⟨rfl, rfl, rfl⟩⟩
          refine ⟨fun e' he' => ?_, ?_⟩
          · rcases List.mem_cons.1 he' with rfl | he'
            · exact ⟨⟨_, hx⟩, hev⟩
            · exact i1 e' he'
          · rw [List.map_cons, List.sum_cons, i2, hev]
            simp only [lenV, c1]
            omega
        · simp at hn
      · simp at hn
    · simp at hn
  | [], _ :: _, _, hh, _ => hh.elim
  | (_, _) :: _, [], _, hh, _ => hh.elim

theorem rd_file {k : TypeId} (hk : P.underlying k = some .string) {e : MapEntry} {x : List UInt8} (he : e.key = encStr x) (hx : x.length ≤ maxLen) {f : File w} (hf : e.val = encF f) : WideElems.rd P k (relF w) e = some (.string x, .held e.val) := by
  unfold WideElems.rd
  have : keyOf P k e.key = some (.string x) := by
    rw [he]
    have := WideMaps.keyOf_string_mk (P := P) hk (s := ⟨x.toArray⟩) (by show x.toArray.size ≤ maxLen; simpa using hx)
    simpa [encStr] using this
  rw [this, hf, relF_file]
  rfl

theorem owns_files {k : TypeId} (hk : P.underlying k = some .string) {b : Nat} {ces : Array MapEntry} {clock : Nat} {xs : List (List UInt8)} (hh : w.heap[b]? = some (.map ces clock)) (hst : MapKept.Stamped ces clock)
    (hkeys : ces.toList.map (·.key) = xs.map encStr) (hlen : ∀ x ∈ xs, x.length ≤ maxLen) (hsz : ces.size ≤ maxLen) (hfiles : ∀ e ∈ ces.toList, ∃ x : File w, e.val = encF x) :
    ∃ D : DataW Value, w.ownsMap P k (relF w) b ces.size D ∧ (strKeys D).Perm xs ∧ ∀ (i : Nat) (e : MapEntry) (x : List UInt8), ces.toList[i]? = some e → xs[i]? = some x → D.atKey (.string x) .nil = .held e.val := by
  have hall : ∀ (i : Nat) (e : MapEntry), ces.toList[i]? = some e → ∃ x, xs[i]? = some x ∧ e.key = encStr x ∧ WideElems.rd P k (relF w) e = some (.string x, .held e.val) := fun i e hi => by
    have h1 : (ces.toList.map (·.key))[i]? = some e.key := by simp [hi]
    rw [hkeys, List.getElem?_map] at h1
    cases hx : xs[i]? with
    | none => simp [hx] at h1
    | some x =>
      simp only [hx, Option.map_some, Option.some.injEq] at h1
      obtain ⟨f, hf⟩ := hfiles e (List.mem_of_getElem? hi)
      exact ⟨x, rfl, h1.symm, rd_file hk h1.symm (hlen x (List.mem_of_getElem? hx)) hf⟩
  refine ⟨_, ⟨ces, clock, hh, ⟨hsz, hst, fun e he => ?_⟩, Nat.le_refl _, rfl⟩, ?_, fun i e x hi hx => ?_⟩
  · obtain ⟨i, hi⟩ := List.mem_iff_getElem?.1 he
    obtain ⟨x, _, _, h3⟩ := hall i e hi
    exact ⟨_, h3⟩
  · have hmap : (ces.toList.map (WideElems.rg P k (relF w))).map (fun p => strOf p.1) = xs := by
      apply List.ext_getElem?
      intro i
      cases hi : ces.toList[i]? with
      | none =>
        have : xs[i]? = none := by
          rw [List.getElem?_eq_none_iff] at hi ⊢
          have := congrArg List.length hkeys
          simp at this hi ⊢; omega
        simp [hi, this]
      | some e =>
        obtain ⟨x, h1, h2, h3⟩ := hall i e hi
        simp only [List.getElem?_map, hi, Option.map_some, h1, WideElems.rg, h3, Option.getD_some, strOf]
    show ((List.foldr DataW.insert [] (ces.toList.map (WideElems.rg P k (relF w)))).map fun p => strOf p.1).Perm xs
    have := (foldr_insert_perm (ces.toList.map (WideElems.rg P k (relF w)))).map (fun p => strOf p.1)
    rw [hmap] at this
    exact this
  · have hperm := foldr_insert_perm (ces.toList.map (WideElems.rg P k (relF w)))
    simp only [DataW.atKey]
    obtain ⟨x', e1, e2, e3⟩ := hall i e hi
    rw [hx] at e1; cases e1
    have hmem : (Lit.string x, DataW.held e.val) ∈ List.foldr DataW.insert [] (ces.toList.map (WideElems.rg P k (relF w))) := by
      rw [hperm.mem_iff]
      exact List.mem_map.2 ⟨e, List.mem_of_getElem? hi, by simp only [WideElems.rg, e3, Option.getD_some]⟩
    cases hfind : (List.foldr DataW.insert [] (ces.toList.map (WideElems.rg P k (relF w)))).find? (fun p => p.1.sameKey (.string x)) with
    | none =>
      exfalso
      rw [List.find?_eq_none] at hfind
      have := hfind _ hmem
      simp [Lit.sameKey] at this
    | some p =>
      have hpm := List.mem_of_find?_eq_some hfind
      have hps := List.find?_some hfind
      rw [hperm.mem_iff] at hpm
      obtain ⟨e', he', rfl⟩ := List.mem_map.1 hpm
      obtain ⟨j, hj⟩ := List.mem_iff_getElem?.1 he'
      obtain ⟨x', f1, f2, f3⟩ := hall j e' hj
      simp only [WideElems.rg, f3, Option.getD_some] at hps ⊢
      have hxx : x' = x := by simpa [Lit.sameKey] using hps
      subst hxx
      have hkk : e'.key = e.key := by rw [f2, e2]
      have hnd := hst.2.2
      have hij : j = i := by
        have hj' : (ces.toList.map (·.key))[j]? = some e.key := by simp [hj, hkk]
        have hi' : (ces.toList.map (·.key))[i]? = some e.key := by simp [hi]
        have hlj : j < (ces.toList.map (·.key)).length := (List.getElem?_eq_some_iff.1 hj').1
        exact (List.getElem?_inj hlj hnd).1 (hj'.trans hi'.symm)
      subst hij
      rw [hj] at hi; cases hi; rfl

theorem perm_sum {l l' : List Int} (hp : l.Perm l') : l.sum = l'.sum := by
  induction hp with
  | nil => rfl
  | cons a _ ih => simp only [List.sum_cons, ih]
  | swap a b l => simp only [List.sum_cons]; omega
  | trans _ _ h1 h2 => exact h1.trans h2

theorem sumUsed_ok {f : FuncId} {k : TypeId} (hU : UsedAt P f k) {args : List AV} {cargs : Array Value} {v : AV} {h' : AH} (hR : Rel K ρ h w) (hv : VRs ρ args cargs.toList) (hs : sumUsed args h = some (v, h')) : CallRes P f cargs w (CallPost K h ρ v h') := by
  unfold sumUsed at hs
  split at hs
  · rename_i id off
    obtain ⟨cx, rfl, h1⟩ := args1 hv
    cases h1 with
    | ptr hp =>
    rename_i p
    split at hs
    · rename_i cs o t hg
      split at hs
      · rename_i m hc
        obtain ⟨cv, c1, c2, c3⟩ := cellAt hR hg hp hc
        cases c2 with
        | map hpm =>
        rename_i q
        split at hs
        · rename_i es _ clock hgm
          obtain ⟨q', ces, hq', hh, hmr, -, hst⟩ := hR.map hgm
          rw [hpm] at hq'; cases hq'
          split at hs
          · rename_i ks n hk hl
            split at hs
            · rename_i hlim
              simp only [Bool.and_eq_true, decide_eq_true_eq] at hlim
              simp only [Option.some.injEq, Prod.mk.injEq] at hs
              obtain ⟨rfl, rfl⟩ := hs
              obtain ⟨xs, e1, e2, e3⟩ := keysA_sound hmr hk
              obtain ⟨i1, i2⟩ := lensA_sound hR hmr hl
              have hlen2 : ces.size = es.length := by have := hmr.length; simp at this; omega
              have hm : maxLen = 9223372036854775807 := by decide
              obtain ⟨D, d1, d2, d3⟩ := owns_files (w := w) hU.key hh hst e1 e3 (by omega) i1
              refine callRes_body hU.body (Calls.mono (hU.used p.b (p.o + off) q.b ces.size D w (by rw [Nat.add_assoc]; exact c1) d1) fun e w' hpost => ?_)
              obtain ⟨⟨fs, ⟨ps, p1, p2, rfl⟩, rfl⟩, hbel⟩ := hpost
              have hsum : ((ps.map (·.2)).map lenF).sum = (n : Int) := by
                let fk : List UInt8 → Int := fun x => match D.atKey (.string x) .nil with
                  | .held v => lenV w v
                  | _ => 0
                have s1 : (ps.map (·.2)).map lenF = (ps.map (·.1)).map fk := by
                  rw [List.map_map, List.map_map]
                  apply List.map_congr_left
                  intro p hp
                  have := p2 p hp .nil
                  simp only [Function.comp, fk, this, lenF, lenV, encF]
                have s2 : xs.map fk = ces.toList.map fun e => lenV w e.val := by
                  apply List.ext_getElem?
                  intro i
                  rw [List.getElem?_map, List.getElem?_map]
                  cases hi : ces.toList[i]? with
                  | none =>
                    have : xs[i]? = none := by
                      rw [List.getElem?_eq_none_iff] at hi ⊢
                      have := congrArg List.length e1
                      simp at this hi ⊢; omega
                    simp [this]
                  | some e =>
                    cases hx : xs[i]? with
                    | none =>
                      rw [List.getElem?_eq_none_iff] at hx
                      have h2 := (List.getElem?_eq_some_iff.1 hi).1
                      have := congrArg List.length e1
                      simp at this h2 hx; omega
                    | some x =>
                      simp only [Option.map_some, fk, d3 i e x hi hx]
                rw [s1, perm_sum ((p1.trans d2).map fk), s2, i2]
              rw [hsum]
              have : wrap64 (n : Int) = Int.ofNat n := by unfold wrap64; simp only [Int.ofNat_eq_natCast]; omega
              rw [this]
              exact ⟨_, rfl, ρ, Ext.refl _ _, .int _ _, hR.below hbel⟩
            · simp at hs
          · simp at hs
        · simp at hs
      · simp at hs
    · simp at hs
  · simp at hs

end
end Go.Abs
end

section
namespace Go.Abs
open Go

structure Rec.le (R R' : Rec) : Prop where
  call : ∀ f a h r, R.call f a h = some r → R'.call f a h = some r
  round : ∀ i a h r, R.round i a h = some r → R'.round i a h = some r
  loop : ∀ r fn n c s x, R.loop r fn n c s = some x → R'.loop r fn n c s = some x

theorem Rec.le_refl (R : Rec) : R.le R := ⟨fun _ _ _ _ h => h, fun _ _ _ _ h => h, fun _ _ _ _ _ _ h => h⟩

theorem evOp1_mono {P : Program} {R R' : Rec} (hle : R.le R') {n : Nat} {ops : Array Oper} {o : Oper} {t : Env} {h : AH} {x : Env × AH} (hx : evOp1 P R n ops o t h = some x) : evOp1 P R' n ops o t h = some x := by
  unfold evOp1 at hx ⊢
  cases hw : wantedA ops t o with
  | none => rw [hw] at hx; cases hx
  | some b =>
    rw [hw] at hx
    cases b with
    | false => exact hx
    | true =>
      simp only at hx ⊢
      cases he : evOper P (opnd t) o h with
      | none => rw [he] at hx; cases hx
      | some r =>
        rw [he] at hx
        cases r with
        | val v h' => exact hx
        | skip h' => exact hx
        | call f args =>
          simp only at hx ⊢
          cases hc : R.call f args h with
          | none => rw [hc] at hx; cases hx
          | some y => rw [hc] at hx; rw [hle.call _ _ _ _ hc]; exact hx
        | yield id args =>
          simp only at hx ⊢
          cases hc : R.round id args h with
          | none => rw [hc] at hx; cases hx
          | some y => rw [hc] at hx; rw [hle.round _ _ _ _ hc]; exact hx

theorem evOps_mono {P : Program} {R R' : Rec} (hle : R.le R') {n : Nat} {ops : Array Oper} : ∀ {l : List Oper} {t : Env} {h : AH} {x : Env × AH}, evOps P R n ops l t h = some x → evOps P R' n ops l t h = some x
  | [], _, _, _, hx => hx
  | o :: r, t, h, x, hx => by
    unfold evOps at hx ⊢
    cases h1 : evOp1 P R n ops o t h with
    | none => rw [h1] at hx; cases hx
    | some y => rw [h1] at hx; rw [evOp1_mono hle h1]; exact evOps_mono hle hx

theorem drawStep_mono {P : Program} {R R' : Rec} (hle : R.le R') {n : Nat} {ops : Array Oper} {base i : Nat} {o : Oper} {s x : DS} (hx : drawStep P R n ops base i o s = some x) : drawStep P R' n ops base i o s = some x := by
  unfold drawStep at hx ⊢
  split at hx
  · exact hx
  · cases h1 : evOp1 P R n ops o (restr s.t (o.looksAt ops) .nil) (absorb s.pend s.h) with
    | none => rw [h1] at hx; cases hx
    | some y => rw [h1] at hx; rw [evOp1_mono hle h1]; exact hx
  · cases h1 : evOp1 P R n ops o (restr s.t (o.looksAt ops) .nil) s.h with
    | none => rw [h1] at hx; cases hx
    | some y => rw [h1] at hx; rw [evOp1_mono hle h1]; exact hx

theorem drawGo_mono {P : Program} {R R' : Rec} (hle : R.le R') {n : Nat} {ops : Array Oper} {base : Nat} : ∀ {l : List Oper} {i : Nat} {s : DS} {x : List DS}, drawGo P R n ops base l i s = some x → drawGo P R' n ops base l i s = some x
  | [], _, _, _, hx => hx
  | o :: r, i, s, x, hx => by
    unfold drawGo at hx ⊢
    cases h1 : drawStep P R n ops base i o s with
    | none => rw [h1] at hx; cases hx
    | some y =>
      rw [h1] at hx; rw [drawStep_mono hle h1]
      simp only at hx ⊢
      cases h2 : drawGo P R n ops base r (i + 1) y with
      | none => rw [h2] at hx; cases hx
      | some z => rw [h2] at hx; rw [drawGo_mono hle h2]; exact hx

theorem sameAt_mono {P : Program} {R R' : Rec} (hle : R.le R') {n : Nat} {ops : Array Oper} {i : Nat} {t t' : Env} {h : AH} (hx : sameAt P R n ops i t t' h = true) : sameAt P R' n ops i t t' h = true := by
  unfold sameAt at hx ⊢
  cases ho : ops[i]? with
  | none => rw [ho] at hx; cases hx
  | some o =>
    rw [ho] at hx
    simp only at hx ⊢
    cases h1 : evOp1 P R n ops o (restr t (o.looksAt ops) .nil) h with
    | none => rw [h1] at hx; cases hx
    | some y => rw [h1] at hx; rw [evOp1_mono hle h1]; exact hx

theorem sameAll_mono {P : Program} {R R' : Rec} (hle : R.le R') {n : Nat} {ops : Array Oper} {ss : List DS} : ∀ {l : List (Nat × Nat)}, sameAll P R n ops ss l = true → sameAll P R' n ops ss l = true
  | [], _ => rfl
  | (j, i) :: r, hx => by
    unfold sameAll at hx ⊢
    rw [Bool.and_eq_true] at hx ⊢
    refine ⟨?_, sameAll_mono hle hx.2⟩
    have h1 := hx.1
    split at h1
    · split
      · rename_i hc; rw [if_pos hc] at h1; exact sameAt_mono hle h1
      · rename_i hc; rw [if_neg hc] at h1; exact sameAt_mono hle h1
    · cases h1

theorem evDraw_mono {P : Program} {R R' : Rec} (hle : R.le R') {n : Nat} {ops : Array Oper} {t : Env} {h : AH} {x : Env × AH} (hx : evDraw P R n ops t h = some x) : evDraw P R' n ops t h = some x := by
  unfold evDraw at hx ⊢
  split at hx
  · rename_i hf
    rw [if_pos hf]
    cases h1 : statGo P ops ops.toList 0 [] [] [] with
    | none => rw [h1] at hx; cases hx
    | some prs =>
      rw [h1] at hx
      simp only at hx ⊢
      cases h2 : drawGo P R n ops h.nx ops.toList 0 { t, h := { h with nx := h.nx + ops.size }, pend := [] } with
      | none => rw [h2] at hx; cases hx
      | some ss =>
        rw [h2] at hx; rw [drawGo_mono hle h2]
        simp only at hx ⊢
        split at hx
        · rename_i hs; rw [if_pos (sameAll_mono hle hs)]; exact hx
        · cases hx
  · cases hx

theorem evCode_mono {P : Program} {R R' : Rec} (hle : R.le R') {r : Option Nat} {fn : FuncId} {n : Nat} : ∀ {c : Code} {s : St} {x : Ex × St}, evCode P R r fn n c s = some x → evCode P R' r fn n c s = some x := by
  intro c
  induction c with
  | skip => intro s x hx; exact hx
  | label l => intro s x hx; exact hx
  | region id ops d =>
    intro s x hx
    cases d with
    | false =>
      unfold evCode at hx ⊢
      cases h1 : evOps P R n ops ops.toList s.t s.h with
      | none => rw [h1] at hx; cases hx
      | some y => rw [h1] at hx; rw [evOps_mono hle h1]; exact hx
    | true =>
      unfold evCode at hx ⊢
      cases h1 : evDraw P R n ops s.t s.h with
      | none => rw [h1] at hx; cases hx
      | some y => rw [h1] at hx; rw [evDraw_mono hle h1]; exact hx
  | seq a b iha ihb =>
    intro s x hx
    unfold evCode at hx ⊢
    cases h1 : evCode P R r fn n a s with
    | none => rw [h1] at hx; cases hx
    | some y =>
      rw [h1] at hx; rw [iha h1]
      obtain ⟨ex, s'⟩ := y
      cases ex with
      | normal => exact ihb hx
      | exit _ => exact hx
      | ret => exact hx
  | cond c a b iha ihb =>
    intro s x hx
    unfold evCode at hx ⊢
    split at hx
    · rename_i t ht
      cases t with
      | true => exact iha hx
      | false => exact ihb hx
    · cases hx
  | block id c ih =>
    intro s x hx
    unfold evCode at hx ⊢
    cases h1 : evCode P R r fn n c s with
    | none => rw [h1] at hx; cases hx
    | some y => rw [h1] at hx; rw [ih h1]; exact hx
  | loop c ih => intro s x hx; exact hle.loop _ _ _ _ _ _ hx
  | rangeFunc g ps a b iha ihb =>
    intro s x hx
    unfold evCode at hx ⊢
    cases h1 : loopHead r s with
    | none => rw [h1] at hx; cases hx
    | some y =>
      obtain ⟨d, h1', ds⟩ := y
      rw [h1] at hx
      simp only at hx ⊢
      split at hx
      · rename_i f first captured hg
        split at hx
        · rename_i hb
          rw [if_pos hb]
          split at hx
          · rename_i v h3 hc
            rw [hle.call _ _ _ _ hc]
            exact hx
          · cases hx
        · cases hx
      · cases hx
  | exit id => intro s x hx; exact hx
  | scope c ih => intro s x hx; unfold evCode at hx ⊢; exact ih hx
  | goto l => intro s x hx; exact hx
  | ret => intro s x hx; exact hx
  | refuse w => intro s x hx; exact hx

theorem evFn_mono {P : Program} {S : Sums} {R R' : Rec} (hle : R.le R') {f : FuncId} {args : List AV} {h : AH} {x : AV × AH} (hx : evFn P S R f args h = some x) : evFn P S R' f args h = some x := by
  unfold evFn at hx ⊢
  cases hs : S f args h with
  | some r => rw [hs] at hx; exact hx
  | none =>
    rw [hs] at hx
    simp only at hx ⊢
    split at hx
    · cases hx
    · rename_i hb
      rw [if_neg hb]
      cases hf : P.funcs[f]? with
      | none => rw [hf] at hx; cases hx
      | some fn =>
        rw [hf] at hx
        simp only at hx ⊢
        cases hc : fn.body with
        | none => rw [hc] at hx; cases hx
        | some c =>
          rw [hc] at hx
          simp only at hx ⊢
          cases h1 : evCode P R none f (nTmps fn args) c { t := argsEnv args 0 .nil, h, d := [] } with
          | none => rw [h1] at hx; cases hx
          | some y => rw [h1] at hx; rw [evCode_mono hle h1]; exact hx

theorem evRound_mono {P : Program} {R R' : Rec} (hle : R.le R') {l : Nat} {args : List AV} {h : AH} {x : AV × AH} (hx : evRound P R l args h = some x) : evRound P R' l args h = some x := by
  unfold evRound at hx ⊢
  split at hx
  · rename_i st pend fn t n ps a b d hg
    cases hs : setArgs ps.toList args n t with
    | none => rw [hs] at hx; cases hx
    | some t' =>
      rw [hs] at hx
      simp only at hx ⊢
      cases h1 : evCode P R (some l) fn n a { t := t', h, d := [] } with
      | none => rw [h1] at hx; cases hx
      | some y =>
        rw [h1] at hx; rw [evCode_mono hle h1]
        obtain ⟨ex1, s1⟩ := y
        cases ex1 with
        | normal =>
          simp only at hx ⊢
          split at hx
          · rename_i pend fn1 t1 n1 ps1 a1 b1 d1 h2
            cases h3 : evCode P R (some l) fn n b { s1 with h := s1.h.put l (.loop .busy pend fn1 t1 n1 ps1 a1 b1 d1) } with
            | none => rw [h3] at hx; cases hx
            | some z => rw [h3] at hx; rw [evCode_mono hle h3]; exact hx
          · cases hx
        | exit _ => exact hx
        | ret => exact hx
  · cases hx

theorem evN_mono1 (P : Program) (S : Sums) : ∀ k, (evN P S k).le (evN P S (k + 1))
  | 0 => ⟨(fun _ _ _ _ h => by cases h), (fun _ _ _ _ h => by cases h), (fun _ _ _ _ _ _ h => by cases h)⟩
  | k + 1 => by
    have ih := evN_mono1 P S k
    refine ⟨fun f a h r hx => evFn_mono ih hx, fun i a h r hx => evRound_mono ih hx, fun r fn n c s x hx => ?_⟩
    have hx' : (match evCode P (evN P S k) r fn n c s with | some (.normal, s') => (evN P S k).loop r fn n c s' | x => x) = some x := hx
    show (match evCode P (evN P S (k + 1)) r fn n c s with | some (.normal, s') => (evN P S (k + 1)).loop r fn n c s' | x => x) = some x
    cases h1 : evCode P (evN P S k) r fn n c s with
    | none => rw [h1] at hx'; cases hx'
    | some y =>
      rw [h1] at hx'; rw [evCode_mono ih h1]
      obtain ⟨ex, s'⟩ := y
      cases ex with
      | normal => exact ih.loop _ _ _ _ _ _ hx'
      | exit _ => exact hx'
      | ret => exact hx'

theorem Rec.le_trans {a b c : Rec} (h : a.le b) (k : b.le c) : a.le c := ⟨fun _ _ _ _ x => k.call _ _ _ _ (h.call _ _ _ _ x), fun _ _ _ _ x => k.round _ _ _ _ (h.round _ _ _ _ x), fun _ _ _ _ _ _ x => k.loop _ _ _ _ _ _ (h.loop _ _ _ _ _ _ x)⟩

theorem evN_mono {P : Program} {S : Sums} {k j : Nat} (h : k ≤ j) : (evN P S k).le (evN P S j) := by
  induction h with
  | refl => exact Rec.le_refl _
  | step _ ih => exact Rec.le_trans ih (evN_mono1 P S _)

end Go.Abs
end

section
namespace Go.Abs
open Go
universe u
set_option linter.unusedVariables false
set_option linter.unusedSimpArgs false

section
variable (P : Program) (S : Sums)

def RnC (f : FuncId) (args : List AV) (h : AH) (Q : AV → AH → Prop) : Prop := ∃ k v h', (evN P S k).call f args h = some (v, h') ∧ Q v h'
def RnR (l : Nat) (args : List AV) (h : AH) (Q : AV → AH → Prop) : Prop := ∃ k v h', (evN P S k).round l args h = some (v, h') ∧ Q v h'
def RnL (r : Option Nat) (fn : FuncId) (n : Nat) (c : Code) (s : St) (Q : Ex → St → Prop) : Prop := ∃ k ex s', (evN P S k).loop r fn n c s = some (ex, s') ∧ Q ex s'

variable {P S}
theorem RnC.mono {f : FuncId} {args : List AV} {h : AH} {Q Q' : AV → AH → Prop} (hx : RnC P S f args h Q) (hq : ∀ v h', Q v h' → Q' v h') : RnC P S f args h Q' :=
  let ⟨k, v, h', h1, h2⟩ := hx; ⟨k, v, h', h1, hq v h' h2⟩
theorem RnR.mono {l : Nat} {args : List AV} {h : AH} {Q Q' : AV → AH → Prop} (hx : RnR P S l args h Q) (hq : ∀ v h', Q v h' → Q' v h') : RnR P S l args h Q' :=
  let ⟨k, v, h', h1, h2⟩ := hx; ⟨k, v, h', h1, hq v h' h2⟩
theorem RnL.mono {r : Option Nat} {fn : FuncId} {n : Nat} {c : Code} {s : St} {Q Q' : Ex → St → Prop} (hx : RnL P S r fn n c s Q) (hq : ∀ ex s', Q ex s' → Q' ex s') : RnL P S r fn n c s Q' :=
  let ⟨k, ex, s', h1, h2⟩ := hx; ⟨k, ex, s', h1, hq ex s' h2⟩
variable (P S)

structure Blk {α : Sort u} (K : α) : Type where
def bnd {α : Type} (o : Option α) (K : α → Prop) (_ : Blk K) : Prop := ∃ a, o = some a ∧ K a
def ltv {α : Type} (v : α) (K : α → Prop) (_ : Blk K) : Prop := K v
def chk (p K : Prop) (_ : Blk K) : Prop := p ∧ K
def ifB (v : AV) (A B : Prop) (_ : Blk A) (_ : Blk B) : Prop := ∃ t, v = .bool t ∧ (t = true → A) ∧ (t = false → B)
def clsK (c : Nat) (A B C : Prop) (_ : Blk A) (_ : Blk B) (_ : Blk C) : Prop :=
  match c with
  | 2 => A
  | 3 => B
  | _ => C
def callK (f : FuncId) (args : List AV) (h : AH) (K : AV → AH → Prop) (_ : Blk K) : Prop := RnC P S f args h K
def yldK (l : Nat) (args : List AV) (h : AH) (K : AV → AH → Prop) (_ : Blk K) : Prop := RnR P S l args h K
def loopK (r : Option Nat) (fn n : Nat) (c : Code) (s : St) (Q : Ex → St → Prop) (_ : Blk c) (_ : Blk s) (_ : Blk Q) : Prop := RnL P S r fn n c s Q

def resK (h : AH) (K : AV → AH → Prop) (r : ORes) : Prop :=
  match r with
  | .val v h' => K v h'
  | .skip h' => K (.tup []) h'
  | .call f args => callK P S f args h K ⟨⟩
  | .yield id args => yldK P S id args h K ⟨⟩

def syV (fv : AV) (args : List AV) (h : AH) (K : AV → AH → Prop) : Prop :=
  match fv with
  | .func (.func g) first captured => callK P S g (first ++ args ++ captured) h K ⟨⟩
  | .func fn first captured => bnd (evInvoke P fn (first ++ args) captured) (resK P S h K) ⟨⟩
  | .yld id => yldK P S id args h K ⟨⟩
  | _ => False

def syO (E : Operand → AV) (op : Op) (h : AH) (K : AV → AH → Prop) : Prop :=
  match op with
  | .move x => ltv (E x) (fun v => K v h) ⟨⟩
  | .assign x => ltv (E x) (fun v => K v h) ⟨⟩
  | .pick c a b => ifB (E c) (ltv (E a) (fun v => K v h) ⟨⟩) (ltv (E b) (fun v => K v h) ⟨⟩) ⟨⟩ ⟨⟩
  | .load t a => bnd (evLoad P h t (E a)) (fun v => K v h) ⟨⟩
  | .store t a x => bnd (evStore P h t (E a) (E x)) (fun h' => K (.tup []) h') ⟨⟩
  | .build t parts => bnd (evBuild P t (parts.toList.map fun (i, x) => (i, E x))) (fun v => K v h) ⟨⟩
  | .binOp op t x y _ => bnd (binA P h op t (E x) (E y)) (fun v => K v h) ⟨⟩
  | .unOp op _ x => bnd (unA op (E x)) (fun v => K v h) ⟨⟩
  | .slice t x lo hi mx => bnd (evSlice P h t (E x) (lo.map E) (hi.map E) (mx.map E)) (fun v => K v h) ⟨⟩
  | .indexAddr t x i => bnd (evIndexAddr P t (E x) (E i)) (fun v => K v h) ⟨⟩
  | .index t x i => bnd (evIndex P t (E x) (E i)) (fun v => K v h) ⟨⟩
  | .lookup t x i ok => bnd (evLookup P h t (E x) (E i) ok) (fun v => K v h) ⟨⟩
  | .call c => match c.callee with
    | .value f => ltv (E f) (fun fv => ltv (c.args.toList.map E) (fun args => syV P S fv args h K) ⟨⟩) ⟨⟩
    | _ => bnd (evCall P h E c) (resK P S h K) ⟨⟩
  | op => bnd (evOper P E { dst := none, op, type := 0, pos := "", after := #[], guard := none } h) (resK P S h K) ⟨⟩

def syPut (n : Nat) (t : Env) (dst : Option Tmp) (v : AV) (K : Env → Prop) : Prop :=
  match dst with
  | none => K t
  | some d => chk (d < n) (K (t.set d (some v))) ⟨⟩

def sy1 (n : Nat) (ops : Array Oper) (o : Oper) (t : Env) (h : AH) (K : Env → AH → Prop) : Prop :=
  match o.guard with
  | none => syO P S (opnd t) o.op h fun v h' => syPut n t o.dst v fun t' => K t' h'
  | some _ => bnd (wantedA ops t o) (fun b => ifB (.bool b) (syO P S (opnd t) o.op h fun v h' => syPut n t o.dst v fun t' => K t' h') (syPut n t o.dst (.tup []) fun t' => K t' h) ⟨⟩ ⟨⟩) ⟨⟩

def syOps (n : Nat) (ops : Array Oper) : List Oper → Env → AH → (Env → AH → Prop) → Prop
  | [], t, h, K => K t h
  | o :: r, t, h, K => sy1 P S n ops o t h fun t' h' => syOps n ops r t' h' K

def syDS (n : Nat) (ops : Array Oper) (base i : Nat) (o : Oper) (t : Env) (h : AH) (pend : List (Nat × AO)) (K : Env → AH → List (Nat × AO) → Prop) : Prop :=
  clsK (clsOf P o.op)
    (bnd (wantedA ops t o) (fun b => ifB (.bool b)
      (bnd (allocA P (opnd t) o.op) (fun x => syPut n t o.dst (x.2 (base + i)) fun t' => K t' h (pend ++ [(base + i, x.1)])) ⟨⟩)
      (syPut n t o.dst (.tup []) fun t' => K t' h pend) ⟨⟩ ⟨⟩) ⟨⟩)
    (sy1 P S n ops o t (absorb pend h) fun t' h' => K t' h' [])
    (sy1 P S n ops o t h fun t' _ => K t' h pend) ⟨⟩ ⟨⟩ ⟨⟩

def syGo (n : Nat) (ops : Array Oper) (base : Nat) : List Oper → Nat → Env → AH → List (Nat × AO) → List DS → (List DS → Env → AH → Prop) → Prop
  | [], _, t, h, pend, acc, K => K (acc ++ [{ t, h, pend }]) t (absorb pend h)
  | o :: r, i, t, h, pend, acc, K => syDS P S n ops base i o t h pend fun t' h' pend' => syGo n ops base r (i + 1) t' h' pend' (acc ++ [{ t, h, pend }]) K

def syGo0 (n : Nat) (ops : Array Oper) (base : Nat) : List Oper → Nat → Env → AH → List (Nat × AO) → (Env → AH → Prop) → Prop
  | [], _, t, h, pend, K => K t (absorb pend h)
  | o :: r, i, t, h, pend, K => syDS P S n ops base i o t h pend fun t' h' pend' => syGo0 n ops base r (i + 1) t' h' pend' K

def syDraw (n : Nat) (ops : Array Oper) (t : Env) (h : AH) (K : Env → AH → Prop) (_ : Blk ops) (_ : Blk t) (_ : Blk h) (_ : Blk K) : Prop :=
  P.follows .mixedOrders = true ∧ ∃ prs, statGo P ops ops.toList 0 [] [] [] = some prs ∧
    syGo P S n ops h.nx ops.toList 0 t { tr := h.tr, nx := h.nx + ops.size } [] [] fun ss t' h' => sameAll P (evN P S 0) n ops ss prs = true ∧ K t' h'

def thenK (A : St → Prop) (Q : Ex → St → Prop) (ex : Ex) (s : St) : Prop :=
  match ex with
  | .normal => A s
  | .exit i => Q (.exit i) s
  | .ret => Q .ret s
def blkK (id : Nat) (Q : Ex → St → Prop) (ex : Ex) (s : St) : Prop :=
  match ex with
  | .normal => Q .normal s
  | .exit j => Q (cond (Nat.beq j id) .normal (.exit j)) s
  | .ret => Q .ret s
def rngK (t : Env) (fn n : Nat) (ps : Array Tmp) (assign body : Code) (Q : Ex → St → Prop) (x : Nat × AH × List Nat) (g : AV) : Prop :=
  match g with
  | .func (.func f) first captured => chk (bodied P f = true) (callK P S f (first ++ [.yld x.2.1.nx] ++ captured) (x.2.1.new (.loop .ready none fn t n ps assign body x.1)) (fun _ h3 =>
      bnd (loopTail t x.2.2 x.2.1.nx h3) (fun y => Q y.1 y.2) ⟨⟩) ⟨⟩) ⟨⟩
  | _ => False

def syC (r : Option Nat) (fn : FuncId) (n : Nat) : Code → St → (Ex → St → Prop) → Prop
  | .skip, s, Q => Q .normal s
  | .label _, s, Q => Q .normal s
  | .scope c, s, Q => syC r fn n c s Q
  | .region _ ops false, s, Q => syOps P S n ops ops.toList s.t s.h fun t h => Q .normal { t, h, d := s.d }
  | .region _ ops true, s, Q => syDraw P S n ops s.t s.h (fun t h => Q .normal { t, h, d := s.d }) ⟨⟩ ⟨⟩ ⟨⟩ ⟨⟩
  | .seq a b, s, Q => syC r fn n a s (thenK (fun s' => syC r fn n b s' Q) Q)
  | .cond c a b, s, Q => ifB (opnd s.t c) (syC r fn n a s Q) (syC r fn n b s Q) ⟨⟩ ⟨⟩
  | .block id c, s, Q => syC r fn n c s (blkK id Q)
  | .loop c, s, Q => loopK P S r fn n c s Q ⟨⟩ ⟨⟩ ⟨⟩
  | .exit id, s, Q => Q (.exit id) s
  | .ret, s, Q => Q .ret s
  | .rangeFunc g ps assign body, s, Q => bnd (loopHead r s) (fun x => ltv (opnd s.t g) (fun gv => rngK P S s.t fn n ps assign body Q x gv) ⟨⟩) ⟨⟩
  | _, _, _ => False
end

section
variable {P : Program} {S : Sums}

def stepR (R : Rec) (o : Option ORes) (h : AH) : Option (AV × AH) :=
  match o with
  | some (.val v h') => some (v, h')
  | some (.skip h') => some (.tup [], h')
  | some (.call f args) => R.call f args h
  | some (.yield id args) => R.round id args h
  | none => none

theorem evOp1_eq (P : Program) (R : Rec) (n : Nat) (ops : Array Oper) (o : Oper) (t : Env) (h : AH) : evOp1 P R n ops o t h =
    match wantedA ops t o with
    | some true => match stepR R (evOper P (opnd t) o h) h with
      | some (v, h') => (putA n t o.dst v).map (·, h')
      | none => none
    | some false => (putA n t o.dst (.tup [])).map (·, h)
    | none => none := by
  unfold evOp1 stepR
  cases wantedA ops t o with
  | none => rfl
  | some b =>
    cases b with
    | false => rfl
    | true =>
      simp only
      cases evOper P (opnd t) o h with
      | none => rfl
      | some r => cases r <;> rfl

theorem resK_sound {o : Option ORes} {h : AH} {K : AV → AH → Prop} (hw : bnd o (resK P S h K) ⟨⟩) : ∃ k v h', stepR (evN P S k) o h = some (v, h') ∧ K v h' := by
  obtain ⟨r, rfl, hr⟩ := hw
  cases r with
  | val v h' => exact ⟨0, v, h', rfl, hr⟩
  | skip h' => exact ⟨0, _, h', rfl, hr⟩
  | call f args => exact hr
  | yield id args => exact hr

theorem syV_sound {E : Operand → AV} {c : Call} {f : Operand} (hc : c.callee = .value f) {h : AH} {K : AV → AH → Prop} (hw : syV P S (E f) (c.args.toList.map E) h K) : ∃ k v h', stepR (evN P S k) (evCall P h E c) h = some (v, h') ∧ K v h' := by
  unfold evCall
  simp only [hc]
  unfold syV at hw
  split at hw
  · rename_i g first captured he; rw [he]; exact hw
  · rename_i fn first captured hne he; rw [he]; exact resK_sound hw
  · rename_i id he; rw [he]; exact hw
  · exact hw.elim

theorem syO_sound {E : Operand → AV} {o : Oper} {h : AH} {K : AV → AH → Prop} (hw : syO P S E o.op h K) : ∃ k v h', stepR (evN P S k) (evOper P E o h) h = some (v, h') ∧ K v h' := by
  unfold syO at hw
  split at hw
  · rename_i x ho; exact ⟨0, _, h, by simp [evOper, ho, stepR], hw⟩
  · rename_i x ho; exact ⟨0, _, h, by simp [evOper, ho, stepR], hw⟩
  · rename_i c a b ho
    obtain ⟨t, h1, h2, h3⟩ := hw
    cases t with
    | true => exact ⟨0, _, h, by simp only [evOper, ho, stepR, h1, if_true], h2 rfl⟩
    | false => exact ⟨0, _, h, by simp only [evOper, ho, stepR, h1]; rfl, h3 rfl⟩
  · rename_i ho; obtain ⟨v, h1, h2⟩ := hw; exact ⟨0, v, h, by simp only [evOper, ho, stepR, h1, val?], h2⟩
  · rename_i ho; obtain ⟨v, h1, h2⟩ := hw; exact ⟨0, _, v, by simp only [evOper, ho, stepR, h1, Option.map_some], h2⟩
  · rename_i ho; obtain ⟨v, h1, h2⟩ := hw; exact ⟨0, v, h, by simp only [evOper, ho, stepR, h1, val?], h2⟩
  · rename_i ho; obtain ⟨v, h1, h2⟩ := hw; exact ⟨0, v, h, by simp only [evOper, ho, stepR, h1, val?], h2⟩
  · rename_i ho; obtain ⟨v, h1, h2⟩ := hw; exact ⟨0, v, h, by simp only [evOper, ho, stepR, h1, val?], h2⟩
  · rename_i ho; obtain ⟨v, h1, h2⟩ := hw; exact ⟨0, v, h, by simp only [evOper, ho, stepR, h1, val?], h2⟩
  · rename_i ho; obtain ⟨v, h1, h2⟩ := hw; exact ⟨0, v, h, by simp only [evOper, ho, stepR, h1, val?], h2⟩
  · rename_i ho; obtain ⟨v, h1, h2⟩ := hw; exact ⟨0, v, h, by simp only [evOper, ho, stepR, h1, val?], h2⟩
  · rename_i ho; obtain ⟨v, h1, h2⟩ := hw; exact ⟨0, v, h, by simp only [evOper, ho, stepR, h1, val?], h2⟩
  · rename_i c ho
    have he : evOper P E o h = evCall P h E c := by simp only [evOper, ho]
    rw [he]
    split at hw
    · rename_i f hf; exact syV_sound hf hw
    · exact resK_sound hw
  · exact resK_sound hw

theorem syPut_sound {n : Nat} {t : Env} {dst : Option Tmp} {v : AV} {K : Env → Prop} (hp : syPut n t dst v K) : ∃ t', putA n t dst v = some t' ∧ K t' := by
  unfold syPut at hp
  unfold putA
  cases dst with
  | none => exact ⟨t, rfl, hp⟩
  | some d => exact ⟨_, if_pos hp.1, hp.2⟩

theorem ifB_bool {b : Bool} {A B : Prop} (h : ifB (.bool b) A B ⟨⟩ ⟨⟩) : (b = true ∧ A) ∨ (b = false ∧ B) := by
  obtain ⟨t, ht, h1, h2⟩ := h
  cases ht
  cases b with
  | true => exact .inl ⟨rfl, h1 rfl⟩
  | false => exact .inr ⟨rfl, h2 rfl⟩

theorem sy1_sound' {n : Nat} {ops : Array Oper} {o : Oper} {t : Env} {h : AH} {K : Env → AH → Prop} (hw : sy1 P S n ops o t h K) :
    ∃ b, wantedA ops t o = some b ∧ ((b = true ∧ ∃ k v h', stepR (evN P S k) (evOper P (opnd t) o h) h = some (v, h') ∧ syPut n t o.dst v fun t' => K t' h') ∨ (b = false ∧ syPut n t o.dst (.tup []) fun t' => K t' h)) := by
  unfold sy1 at hw
  split at hw
  · rename_i hg
    exact ⟨true, by simp [wantedA, hg], .inl ⟨rfl, syO_sound hw⟩⟩
  · obtain ⟨b, h1, h2⟩ := hw
    rcases ifB_bool h2 with ⟨rfl, h3⟩ | ⟨rfl, h3⟩
    · exact ⟨true, h1, .inl ⟨rfl, syO_sound h3⟩⟩
    · exact ⟨false, h1, .inr ⟨rfl, h3⟩⟩

theorem sy1_sound {n : Nat} {ops : Array Oper} {o : Oper} {t : Env} {h : AH} {K : Env → AH → Prop} (hw : sy1 P S n ops o t h K) : ∃ k t' h', evOp1 P (evN P S k) n ops o t h = some (t', h') ∧ K t' h' := by
  obtain ⟨b, h1, h2⟩ := sy1_sound' hw
  rcases h2 with ⟨rfl, k, v, h', h3, h4⟩ | ⟨rfl, h3⟩
  · obtain ⟨t', h5, h6⟩ := syPut_sound h4
    exact ⟨k, t', h', by rw [evOp1_eq, h1]; simp only [h3, h5, Option.map_some], h6⟩
  · obtain ⟨t', h5, h6⟩ := syPut_sound h3
    exact ⟨0, t', h, by rw [evOp1_eq, h1]; simp only [h5, Option.map_some], h6⟩

theorem evOps_cons {R : Rec} {n : Nat} {ops : Array Oper} {o : Oper} {r : List Oper} {t t' : Env} {h h' : AH} (h1 : evOp1 P R n ops o t h = some (t', h')) : evOps P R n ops (o :: r) t h = evOps P R n ops r t' h' := by
  rw [evOps, h1]

theorem syOps_sound {n : Nat} {ops : Array Oper} : ∀ {l : List Oper} {t : Env} {h : AH} {K : Env → AH → Prop}, syOps P S n ops l t h K → ∃ k t' h', evOps P (evN P S k) n ops l t h = some (t', h') ∧ K t' h'
  | [], t, h, K, hw => ⟨0, t, h, rfl, hw⟩
  | o :: r, t, h, K, hw => by
    obtain ⟨k1, t1, h1, e1, hw1⟩ := sy1_sound hw
    obtain ⟨k2, t2, h2, e2, hw2⟩ := syOps_sound hw1
    refine ⟨max k1 k2, t2, h2, ?_, hw2⟩
    rw [evOps_cons (evOp1_mono (evN_mono (Nat.le_max_left k1 k2)) e1)]
    exact evOps_mono (evN_mono (Nat.le_max_right k1 k2)) e2

theorem evOper_congr {E E' : Operand → AV} {o : Oper} (hE : ∀ x ∈ o.op.operands, E x = E' x) (h : AH) : evOper P E o h = evOper P E' o h := by
  obtain ⟨dst, op, ty, pos, after, guard⟩ := o
  simp only at hE
  have hl : ∀ (l : Array (Nat × Operand)), (∀ x ∈ (l.toList.map (·.2)).toArray, E x = E' x) → (l.toList.map fun (i, x) => (i, E x)) = (l.toList.map fun (i, x) => (i, E' x)) := fun l hx => by
    refine List.map_congr_left fun a ha => ?_
    obtain ⟨i, x⟩ := a
    simp only
    rw [hx x (by simp only [List.mem_toArray, List.mem_map]; exact ⟨_, ha, rfl⟩)]
  have ha : ∀ (l : Array Operand), (∀ x ∈ l, E x = E' x) → l.toList.map E = l.toList.map E' := fun l hx => List.map_congr_left fun a ha => hx a (by simpa using ha)
  cases op <;> simp only [Op.operands] at hE <;> simp only [evOper, allocA]
  case call c =>
    simp only [Call.operands] at hE
    unfold evCall
    have hargs : c.args.toList.map E = c.args.toList.map E' := ha _ fun x hx => hE x (by simp [hx])
    rw [hargs]
    cases hc : c.callee with
    | builtin b => rfl
    | invoke r name => simp only [hc] at hE; simp only [hE r (by simp)]
    | value f => simp only [hc] at hE; simp only [hE f (by simp)]
  case build t parts => rw [hl parts hE]
  case buildSlice t n parts => rw [hl parts hE]
  case makeFunc fn first captured =>
    rw [ha first fun x hx => hE x (by simp [hx]), ha captured fun x hx => hE x (by simp [hx])]
  case slice t x lo hi mx =>
    have h1 : lo.map E = lo.map E' := by cases lo with
      | none => rfl
      | some a => simp [hE a (by simp)]
    have h2 : hi.map E = hi.map E' := by cases hi with
      | none => rfl
      | some a => simp [hE a (by simp)]
    have h3 : mx.map E = mx.map E' := by cases mx with
      | none => rfl
      | some a => simp [hE a (by simp)]
    rw [hE x (by simp), h1, h2, h3]
  case makeMap t r =>
    have h1 : r.map E = r.map E' := by cases r with
      | none => rfl
      | some a => simp [hE a (by simp)]
    rw [h1]
  all_goals first
    | rfl
    | (simp at hE; simp only [hE])

theorem opnd_restr {t : Env} {l : List Tmp} {x : Operand} (hx : ∀ i, x = .tmp i → i ∈ l) : opnd (restr t l .nil) x = opnd t x := by
  have key : ∀ (l : List Tmp) (e : Env) (i : Nat), (restr t l e).get i = if i ∈ l then (match t.get i with | some v => some v | none => e.get i) else e.get i := by
    intro l
    induction l with
    | nil => intro e i; simp [restr]
    | cons d l ih =>
      intro e i
      simp only [restr]
      rw [ih]
      by_cases hd : i = d
      · subst hd
        cases ht : t.get i with
        | none => simp [ht]
        | some v => simp [ht, Tr.get_set]
      · cases t.get d with
        | none => simp [hd]
        | some v => simp [hd, Tr.get_set]
  cases x with
  | tmp i =>
    simp only [opnd]
    rw [key, if_pos (hx i rfl)]
    cases t.get i with
    | none => simp [Tr.get_nil]
    | some v => rfl
  | const v => rfl
  | global g => rfl
  | func f => rfl

theorem mem_looksAt {ops : Array Oper} {o : Oper} {x : Operand} (hx : x ∈ o.op.operands) : ∀ i, x = .tmp i → i ∈ o.looksAt ops := by
  rintro i rfl
  unfold Oper.looksAt
  refine List.mem_append_left _ (List.mem_filterMap.2 ⟨_, by simpa using hx, rfl⟩)

theorem evOper_restr {ops : Array Oper} {o : Oper} {t : Env} {h : AH} : evOper P (opnd (restr t (o.looksAt ops) .nil)) o h = evOper P (opnd t) o h :=
  evOper_congr (fun x hx => opnd_restr (mem_looksAt hx)) h

theorem allocA_restr {ops : Array Oper} {o : Oper} {t : Env} : allocA P (opnd (restr t (o.looksAt ops) .nil)) o.op = allocA P (opnd t) o.op := by
  have hE : ∀ x ∈ o.op.operands, opnd (restr t (o.looksAt ops) .nil) x = opnd t x := fun x hx => opnd_restr (mem_looksAt hx)
  revert hE
  generalize opnd (restr t (o.looksAt ops) .nil) = E
  generalize opnd t = E'
  intro hE
  have hl : ∀ (l : Array (Nat × Operand)), (∀ x ∈ (l.toList.map (·.2)).toArray, E x = E' x) → (l.toList.map fun (i, x) => (i, E x)) = (l.toList.map fun (i, x) => (i, E' x)) := fun l hx => by
    refine List.map_congr_left fun a ha => ?_
    obtain ⟨i, x⟩ := a
    simp only
    rw [hx x (by simp only [List.mem_toArray, List.mem_map]; exact ⟨_, ha, rfl⟩)]
  cases hop : o.op <;> rw [hop] at hE <;> simp only [Op.operands] at hE <;> simp only [allocA]
  case buildSlice t n parts => rw [hl parts hE]
  case makeMap t r =>
    have h1 : r.map E = r.map E' := by cases r with
      | none => rfl
      | some a => simp [hE a (by simp)]
    rw [h1]
  all_goals first
    | rfl
    | (simp at hE; simp only [hE])

theorem wantedA_restr {ops : Array Oper} {o : Oper} {t : Env} : wantedA ops (restr t (o.looksAt ops) .nil) o = wantedA ops t o := by
  unfold wantedA
  cases hg : o.guard with
  | none => rfl
  | some p =>
    obtain ⟨j, w⟩ := p
    simp only
    cases hd : (ops[j]?).bind (·.dst) with
    | none => rfl
    | some d =>
      simp only
      have hm : d ∈ o.looksAt ops := by
        unfold Oper.looksAt
        refine List.mem_append_right _ ?_
        rw [hg]
        simp [hd]
      have h1 := opnd_restr (t := t) (l := o.looksAt ops) (x := .tmp d) (by rintro i h; cases h; exact hm)
      simp only [opnd] at h1
      cases ht : t.get d with
      | none =>
        rw [ht] at h1
        cases hr : (restr t (o.looksAt ops) .nil).get d with
        | none => rfl
        | some v => have := (restr_get hr).2; rw [ht] at this; cases this
      | some v =>
        cases hr : (restr t (o.looksAt ops) .nil).get d with
        | none => rw [ht, hr] at h1; simp at h1; rw [← h1]
        | some u => have := (restr_get hr).2; rw [ht] at this; cases this; rfl

theorem backA_put {n : Nat} {t u t' : Env} {dst : Option Tmp} {v : AV} (hp : putA n u dst v = some t') : ∃ t2, putA n t dst v = some t2 ∧ backA t dst t' = t2 := by
  unfold putA at hp ⊢
  unfold backA
  cases dst with
  | none => exact ⟨t, rfl, rfl⟩
  | some d =>
    simp only at hp ⊢
    split at hp
    · rename_i hd
      rw [if_pos hd]
      cases hp
      exact ⟨_, rfl, by rw [Tr.get_set, if_pos rfl]⟩
    · cases hp

theorem evOp1_draw {R : Rec} {n : Nat} {ops : Array Oper} {o : Oper} {t t' : Env} {h h' : AH} (hx : evOp1 P R n ops o t h = some (t', h')) :
    ∃ t1, evOp1 P R n ops o (restr t (o.looksAt ops) .nil) h = some (t1, h') ∧ backA t o.dst t1 = t' := by
  rw [evOp1_eq] at hx ⊢
  rw [wantedA_restr, evOper_restr]
  cases hw : wantedA ops t o with
  | none => rw [hw] at hx; cases hx
  | some b =>
    rw [hw] at hx
    have put : ∀ v h2, (putA n t o.dst v).map (fun x => (x, h2)) = some (t', h') → ∃ t1, (putA n (restr t (o.looksAt ops) .nil) o.dst v).map (fun x => (x, h2)) = some (t1, h') ∧ backA t o.dst t1 = t' := by
      intro v h2 hp
      cases hq : putA n t o.dst v with
      | none => rw [hq] at hp; cases hp
      | some t2 =>
        rw [hq] at hp
        cases hp
        obtain ⟨t3, h3, _⟩ := backA_put (t := restr t (o.looksAt ops) .nil) hq
        obtain ⟨t4, h4, h5⟩ := backA_put (t := t) h3
        rw [hq] at h4
        cases h4
        exact ⟨t3, by rw [h3]; rfl, h5⟩
    cases b with
    | false => exact put _ _ hx
    | true =>
      simp only at hx ⊢
      cases hs : stepR R (evOper P (opnd t) o h) h with
      | none => rw [hs] at hx; cases hx
      | some y => obtain ⟨v, h2⟩ := y; rw [hs] at hx; exact put _ _ hx

theorem syDS_sound {n : Nat} {ops : Array Oper} {base i : Nat} {o : Oper} {s : DS} {K : Env → AH → List (Nat × AO) → Prop} (hw : syDS P S n ops base i o s.t s.h s.pend K) : ∃ k s', drawStep P (evN P S k) n ops base i o s = some s' ∧ K s'.t s'.h s'.pend := by
  unfold syDS at hw
  unfold drawStep
  generalize clsOf P o.op = c at hw
  unfold clsK at hw
  split at hw
  · obtain ⟨b, h1, h2⟩ := hw
    simp only [wantedA_restr, allocA_restr, h1]
    rcases ifB_bool h2 with ⟨rfl, h3⟩ | ⟨rfl, h3⟩
    · obtain ⟨⟨ob, mk⟩, h4, h5⟩ := h3
      obtain ⟨t', h6, h7⟩ := syPut_sound h5
      simp only at h6 h7
      exact ⟨0, { t := t', h := s.h, pend := s.pend ++ [(base + i, ob)] }, by simp only [h4, h6], h7⟩
    · obtain ⟨t', h6, h7⟩ := syPut_sound h3
      exact ⟨0, { t := t', h := s.h, pend := s.pend }, by simp only [h6], h7⟩
  · obtain ⟨k, t', h', h1, h2⟩ := sy1_sound hw
    obtain ⟨t1, h3, h4⟩ := evOp1_draw h1
    exact ⟨k, { t := backA s.t o.dst t1, h := h', pend := [] }, by simp only [h3], by rw [h4]; exact h2⟩
  · rename_i n2 n3
    obtain ⟨k, t', h', h1, h2⟩ := sy1_sound hw
    obtain ⟨t1, h3, h4⟩ := evOp1_draw h1
    refine ⟨k, { t := backA s.t o.dst t1, h := s.h, pend := s.pend }, ?_, by rw [h4]; exact h2⟩
    split
    · exact absurd rfl n2
    · exact absurd rfl n3
    · simp only [h3]

theorem syGo_sound {n : Nat} {ops : Array Oper} {base : Nat} : ∀ {l : List Oper} {i : Nat} {s : DS} {acc : List DS} {K : List DS → Env → AH → Prop}, syGo P S n ops base l i s.t s.h s.pend acc K →
    ∃ k ss s', drawGo P (evN P S k) n ops base l i s = some ss ∧ ss[l.length]? = some s' ∧ K (acc ++ ss) s'.t (absorb s'.pend s'.h)
  | [], i, s, acc, K, hw => ⟨0, [s], s, rfl, rfl, hw⟩
  | o :: r, i, s, acc, K, hw => by
    obtain ⟨k1, s1, e1, hw1⟩ := syDS_sound hw
    obtain ⟨k2, ss, s2, e2, e3, hw2⟩ := syGo_sound hw1
    refine ⟨max k1 k2, s :: ss, s2, ?_, by simpa using e3, by simpa using hw2⟩
    unfold drawGo
    rw [drawStep_mono (evN_mono (Nat.le_max_left k1 k2)) e1]
    simp only
    rw [drawGo_mono (evN_mono (Nat.le_max_right k1 k2)) e2]

theorem syGo_of0 {n : Nat} {ops : Array Oper} {base : Nat} {K : Env → AH → Prop} : ∀ {l : List Oper} {i : Nat} {t : Env} {h : AH} {pend : List (Nat × AO)} {acc : List DS}, syGo0 P S n ops base l i t h pend K → syGo P S n ops base l i t h pend acc fun _ t' h' => K t' h'
  | [], _, _, _, _, _, hw => hw
  | o :: r, i, t, h, pend, acc, hw => by
    have mono1 : ∀ {t : Env} {h : AH} {K1 K2 : Env → AH → Prop}, (∀ t' h', K1 t' h' → K2 t' h') → sy1 P S n ops o t h K1 → sy1 P S n ops o t h K2 := by
      intro t h K1 K2 hk hx
      have putm : ∀ {v : AV} {A B : Env → Prop}, (∀ t', A t' → B t') → syPut n t o.dst v A → syPut n t o.dst v B := fun {v A B} hab hx => by
        unfold syPut at hx ⊢
        split
        · rename_i hd; rw [hd] at hx; exact hab _ hx
        · rename_i hd; rw [hd] at hx; exact ⟨hx.1, hab _ hx.2⟩
      have resm : ∀ {ov : Option ORes} {A B : AV → AH → Prop}, (∀ v h', A v h' → B v h') → bnd ov (resK P S h A) ⟨⟩ → bnd ov (resK P S h B) ⟨⟩ := fun {ov A B} hab ⟨r, h1, h2⟩ => by
        refine ⟨r, h1, ?_⟩
        cases r with
        | val v h' => exact hab _ _ h2
        | skip h' => exact hab _ _ h2
        | call f args => exact RnC.mono h2 hab
        | yield id args => exact RnR.mono h2 hab
      have bm : ∀ {α : Type} {ov : Option α} {A B : α → Prop}, (∀ v, A v → B v) → bnd ov A ⟨⟩ → bnd ov B ⟨⟩ := fun hab ⟨a, h1, h2⟩ => ⟨a, h1, hab a h2⟩
      have om : ∀ {A B : AV → AH → Prop}, (∀ v h', A v h' → B v h') → syO P S (opnd t) o.op h A → syO P S (opnd t) o.op h B := fun {A B} hab hx => by
        unfold syO at hx ⊢
        split at hx
        · exact hab _ _ hx
        · exact hab _ _ hx
        · obtain ⟨tt, h1, h2, h3⟩ := hx; exact ⟨tt, h1, fun e => hab _ _ (h2 e), fun e => hab _ _ (h3 e)⟩
        · exact bm (fun _ => hab _ _) hx
        · exact bm (fun _ => hab _ _) hx
        · exact bm (fun _ => hab _ _) hx
        · exact bm (fun _ => hab _ _) hx
        · exact bm (fun _ => hab _ _) hx
        · exact bm (fun _ => hab _ _) hx
        · exact bm (fun _ => hab _ _) hx
        · exact bm (fun _ => hab _ _) hx
        · exact bm (fun _ => hab _ _) hx
        · split at hx
          · rename_i c _ _ f _
            change syV P S (opnd t f) (c.args.toList.map (opnd t)) h A at hx
            change syV P S (opnd t f) (c.args.toList.map (opnd t)) h B
            unfold syV at hx ⊢
            split at hx
            · exact RnC.mono hx hab
            · exact resm hab hx
            · exact RnR.mono hx hab
            · exact hx
          · exact resm hab hx
        · exact resm hab hx
      unfold sy1 at hx ⊢
      split at hx
      · exact om (fun v h' => putm fun t' => hk t' h') hx
      · obtain ⟨b, h1, tt, h2, h3, h4⟩ := hx
        exact ⟨b, h1, tt, h2, fun e => om (fun v h' => putm fun t' => hk t' h') (h3 e), fun e => putm (fun t' => hk t' h) (h4 e)⟩
    have next : ∀ (t' : Env) (h' : AH) (pend' : List (Nat × AO)), syGo0 P S n ops base r (i + 1) t' h' pend' K → syGo P S n ops base r (i + 1) t' h' pend' (acc ++ [({ t := t, h := h, pend := pend } : DS)]) fun _ t' h' => K t' h' := fun t' h' pend' hx => syGo_of0 hx
    unfold syGo0 syDS clsK at hw
    unfold syGo syDS clsK
    split at hw
    · obtain ⟨b, h1, tt, h2, h3, h4⟩ := hw
      refine ⟨b, h1, tt, h2, fun e => ?_, fun e => ?_⟩
      · obtain ⟨x, h5, h6⟩ := h3 e
        refine ⟨x, h5, ?_⟩
        unfold syPut at h6 ⊢
        split at h6
        · exact next _ _ _ h6
        · exact ⟨h6.1, next _ _ _ h6.2⟩
      · have h6 := h4 e
        unfold syPut at h6 ⊢
        split at h6
        · exact next _ _ _ h6
        · exact ⟨h6.1, next _ _ _ h6.2⟩
    · exact mono1 (fun t' h' => next t' h' _) hw
    · exact mono1 (fun t' h' => next t' h _) hw

theorem syDraw_sound {n : Nat} {ops : Array Oper} {t : Env} {h : AH} {K : Env → AH → Prop} (hw : syDraw P S n ops t h K ⟨⟩ ⟨⟩ ⟨⟩ ⟨⟩) : ∃ k t' h', evDraw P (evN P S k) n ops t h = some (t', h') ∧ K t' h' := by
  obtain ⟨hf, prs, h1, h2⟩ := hw
  obtain ⟨k, ss, s', e1, e2, e3, e4⟩ := syGo_sound (s := { t, h := { tr := h.tr, nx := h.nx + ops.size }, pend := [] }) h2
  refine ⟨k, s'.t, absorb s'.pend s'.h, ?_, e4⟩
  unfold evDraw
  rw [if_pos hf, h1]
  simp only
  rw [e1]
  simp only
  rw [if_pos (sameAll_mono (evN_mono (Nat.zero_le k)) (by simpa using e3))]
  rw [show ss[ops.size]? = some s' from e2]

def stat0 (P : Program) (ops : Array Oper) : Bool :=
  match statGo P ops ops.toList 0 [] [] [] with
  | some [] => P.follows .mixedOrders
  | _ => false

theorem syDraw.go0 {n : Nat} {l : List Oper} {t : Env} {h : AH} {K : Env → AH → Prop} (hs : stat0 P l.toArray = true) (hw : syGo0 P S n l.toArray h.nx l 0 t { tr := h.tr, nx := h.nx + l.length } [] K) : syDraw P S n l.toArray t h K ⟨⟩ ⟨⟩ ⟨⟩ ⟨⟩ := by
  unfold stat0 at hs
  split at hs
  · rename_i h1
    refine ⟨hs, [], h1, ?_⟩
    have := syGo_of0 (acc := []) hw
    simpa [sameAll] using this
  · cases hs

theorem syC_sound {r : Option Nat} {fn : FuncId} {n : Nat} : ∀ {c : Code} {s : St} {Q : Ex → St → Prop}, syC P S r fn n c s Q → ∃ k ex s', evCode P (evN P S k) r fn n c s = some (ex, s') ∧ Q ex s' := by
  intro c
  induction c with
  | skip => intro s Q hw; exact ⟨0, _, _, rfl, hw⟩
  | label l => intro s Q hw; exact ⟨0, _, _, rfl, hw⟩
  | region id ops d =>
    intro s Q hw
    cases d with
    | false =>
      obtain ⟨k, t', h', h1, h2⟩ := syOps_sound hw
      exact ⟨k, _, _, by unfold evCode; rw [h1], h2⟩
    | true =>
      obtain ⟨k, t', h', h1, h2⟩ := syDraw_sound hw
      exact ⟨k, _, _, by unfold evCode; rw [h1], h2⟩
  | seq a b iha ihb =>
    intro s Q hw
    obtain ⟨k1, ex, s1, e1, hw1⟩ := iha hw
    cases ex with
    | normal =>
      obtain ⟨k2, ex2, s2, e2, hw2⟩ := ihb hw1
      refine ⟨max k1 k2, ex2, s2, ?_, hw2⟩
      unfold evCode
      rw [evCode_mono (evN_mono (Nat.le_max_left k1 k2)) e1]
      exact evCode_mono (evN_mono (Nat.le_max_right k1 k2)) e2
    | exit i => exact ⟨k1, _, _, by unfold evCode; rw [e1], hw1⟩
    | ret => exact ⟨k1, _, _, by unfold evCode; rw [e1], hw1⟩
  | cond c a b iha ihb =>
    intro s Q hw
    obtain ⟨t, h1, h2, h3⟩ := hw
    cases t with
    | true => obtain ⟨k, ex, s', e1, e2⟩ := iha (h2 rfl); exact ⟨k, ex, s', by unfold evCode; rw [h1]; exact e1, e2⟩
    | false => obtain ⟨k, ex, s', e1, e2⟩ := ihb (h3 rfl); exact ⟨k, ex, s', by unfold evCode; rw [h1]; exact e1, e2⟩
  | block id c ih =>
    intro s Q hw
    obtain ⟨k, ex, s', e1, e2⟩ := ih hw
    cases ex with
    | normal => exact ⟨k, _, _, by unfold evCode; rw [e1], e2⟩
    | exit j => exact ⟨k, _, _, by unfold evCode; rw [e1], e2⟩
    | ret => exact ⟨k, _, _, by unfold evCode; rw [e1], e2⟩
  | loop c ih => intro s Q hw; exact hw
  | rangeFunc g ps a b iha ihb =>
    intro s Q hw
    obtain ⟨⟨d, h1, ds⟩, e1, e2⟩ := hw
    change rngK P S s.t fn n ps a b Q (d, h1, ds) (opnd s.t g) at e2
    unfold rngK at e2
    split at e2
    · rename_i f first captured hg
      obtain ⟨e3, k, v, h3, e4, ⟨ex, s'⟩, e5, e6⟩ := e2
      refine ⟨k, ex, s', ?_, e6⟩
      unfold evCode
      rw [e1]
      simp only
      rw [hg]
      simp only
      rw [if_pos e3, e4]
      exact e5
    · exact e2.elim
  | exit id => intro s Q hw; exact ⟨0, _, _, rfl, hw⟩
  | scope c ih =>
    intro s Q hw
    obtain ⟨k, ex, s', e1, e2⟩ := ih hw
    exact ⟨k, ex, s', by unfold evCode; exact e1, e2⟩
  | goto l => intro s Q hw; exact hw.elim
  | ret => intro s Q hw; exact ⟨0, _, _, rfl, hw⟩
  | refuse w => intro s Q hw; exact hw.elim

def syEnd (P : Program) (rs : List ResultVar) (Q : AV → AH → Prop) (ex : Ex) (s : St) : Prop :=
  match ex with
  | .exit _ => False
  | _ => bnd (takeMarks s.d s.h) (fun h' => bnd (resultsA P h' s.t rs) (fun v => Q v h') ⟨⟩) ⟨⟩

theorem RnC.enter {f : FuncId} {args : List AV} {h : AH} {Q : AV → AH → Prop} (fn : Func) (c : Code) (hs : S f args h = none) (hb : bodied P f = true) (hf : P.funcs[f]? = some fn) (hc : fn.body = some c)
    (hw : syC P S none f (nTmps fn args) c { t := argsEnv args 0 .nil, h, d := [] } (syEnd P fn.results.toList Q)) : RnC P S f args h Q := by
  obtain ⟨k, ex, s, h1, h2⟩ := syC_sound hw
  refine ⟨k + 1, ?_⟩
  show ∃ v h', evFn P S (evN P S k) f args h = some (v, h') ∧ Q v h'
  unfold evFn
  rw [hs]
  simp only
  rw [if_neg (by simp [hb]), hf]
  simp only
  rw [hc]
  simp only
  rw [h1]
  cases ex with
  | exit i => exact h2.elim
  | normal => obtain ⟨h', e1, v, e2, e3⟩ := h2; exact ⟨v, h', by simp only [e1, e2, Option.map_some], e3⟩
  | ret => obtain ⟨h', e1, v, e2, e3⟩ := h2; exact ⟨v, h', by simp only [e1, e2, Option.map_some], e3⟩

theorem RnL.rounds {r : Option Nat} {fn : FuncId} {n : Nat} {c : Code} {Q : Ex → St → Prop} (I : Nat → St → Prop)
    (step : ∀ m s, I m s → syC P S r fn n c s (thenK (fun s' => ∃ m', m' < m ∧ I m' s') Q)) : ∀ (m : Nat) {s : St}, I m s → RnL P S r fn n c s Q := by
  intro m
  induction m using Nat.strongRecOn with
  | _ m ih =>
    intro s hI
    obtain ⟨k1, ex, s1, e1, hw⟩ := syC_sound (step m s hI)
    cases ex with
    | normal =>
      obtain ⟨m', hm, hI'⟩ := hw
      obtain ⟨k2, ex2, s2, e2, hq⟩ := ih m' hm hI'
      refine ⟨max k1 k2 + 1, ex2, s2, ?_, hq⟩
      show (match evCode P (evN P S (max k1 k2)) r fn n c s with | some (.normal, s') => (evN P S (max k1 k2)).loop r fn n c s' | x => x) = some (ex2, s2)
      rw [evCode_mono (evN_mono (Nat.le_max_left k1 k2)) e1]
      exact (evN_mono (Nat.le_max_right k1 k2)).loop _ _ _ _ _ _ e2
    | exit i =>
      refine ⟨k1 + 1, _, s1, ?_, hw⟩
      show (match evCode P (evN P S k1) r fn n c s with | some (.normal, s') => (evN P S k1).loop r fn n c s' | x => x) = some (.exit i, s1)
      rw [e1]
    | ret =>
      refine ⟨k1 + 1, _, s1, ?_, hw⟩
      show (match evCode P (evN P S k1) r fn n c s with | some (.normal, s') => (evN P S k1).loop r fn n c s' | x => x) = some (.ret, s1)
      rw [e1]

end
end Go.Abs
end
