/- The abstract layer, part 27: how much all files of a tree hold. -/
import Derived.Test.YticccdaomgildaaGreatDoorAbs26
namespace Go.Abs
open Go Go.Proofs Go.RowKit
set_option linter.unusedVariables false
set_option linter.unusedSimpArgs false

/-- What a file's pointer leads to: a slice. -/
def FileAt (w : World) (a : Addr) : Prop := a.block < w.heap.size ∧ a.spot = none ∧ ∃ base n cap, w.cell? a = some (.slice base n cap) ∧ ((base = none ∧ n = 0 ∧ cap = 0) ∨ ∃ c, base = some c ∧ n ≤ cap ∧ (cap = 0 ∨ c.spot = none))
abbrev File (w : World) := { a : Addr // FileAt w a }
def encF {w : World} (x : File w) : Value := .pointer (some x.1)
open Classical in
noncomputable def relF (w : World) (v : Value) : Option (DataW Value × List MemPlace) :=
  if ∃ x : File w, v = encF x then some (.held v, []) else none
theorem relF_inv {w : World} : ∀ v y, relF w v = some y → ∃ c : File w, v = encF c := fun v y h => by
  unfold relF at h
  split at h
  · assumption
  · cases h
theorem relF_eq {w : World} {v : Value} {y : DataW Value × List MemPlace} (h : relF w v = some y) : y = (.held v, []) := by
  unfold relF at h
  split at h
  · exact (Option.some.inj h).symm
  · cases h
theorem relF_file {w : World} (x : File w) : relF w (encF x) = some (.held (encF x), []) := by
  unfold relF
  rw [if_pos ⟨x, rfl⟩]
def ValAtF {w : World} (D0 : DataW Value) (p : List UInt8 × File w) : Prop := ∀ zd, D0.atKey (.string p.1) zd = .held (encF p.2)
def AllF {w : World} (D0 : DataW Value) (xs : List (File w)) : Prop := ∃ ps : List (List UInt8 × File w), (ps.map (·.1)).Perm (strKeys D0) ∧ (∀ p ∈ ps, ValAtF D0 p) ∧ xs = ps.map (·.2)
def lenF {w : World} (x : File w) : Int := match w.cell? x.1 with
  | some (.slice _ n _) => n
  | _ => 0

section
variable {P : Program} {ρ : Pm} {w w' : World} {K : Kp} {h : AH}

/-- How much all files hold: the contract. -/
structure UsedAt (P : Program) (f : FuncId) (k : TypeId) : Prop where
  key : P.underlying k = some .string
  body : bodied P f = true
  used : ∀ (tb to b nn : Nat) (D0 : DataW Value) (w : World), w.cell? ⟨tb, to + 2, none⟩ = some (.map (some b)) → w.ownsMap P k (relF w) b nn D0 →
    Calls P f #[.pointer (some ⟨tb, to, none⟩)] w fun e w' => (∃ xs : List (File w), AllF D0 xs ∧ e = .returned (.int .i64 (wrap64 ((xs.map lenF).sum)))) ∧ Below w.heap.size w w'

noncomputable def lensA (h : AH) : List (AV × AV) → Option Nat
  | [] => some 0
  | (_, .ptr fi fo) :: r => match h.get fi with
    | some (.cells cs _ _) => match cs[fo]? with
      | some (.sl _ _ n _ _) => (lensA h r).map (n + ·)
      | some .nilsl => lensA h r
      | _ => none
    | _ => none
  | _ => none

noncomputable def sumUsed (args : List AV) (h : AH) : Option (AV × AH) :=
  match args with
  | [.ptr id off] => match h.get id with
    | some (.cells cs _ _) => match cs[off + 2]? with
      | some (.map m) => match h.get m with
        | some (.map es _ _) => match keysA es, lensA h es with
          | some _, some n => if es.length ≤ 1099511627776 && n ≤ 1099511627776 then some (.int .i64 (Int.ofNat n), h) else none
          | _, _ => none
        | _ => none
      | _ => none
    | _ => none
  | _ => none

theorem cellAt {id off : Nat} {cs : List AV} {o t : Bool} {a : AV} {p : Pl} (hR : Rel K ρ h w) (hg : h.get id = some (.cells cs o t)) (hp : ρ id = some p) (ha : cs[off]? = some a) : ∃ v, w.cell? ⟨p.b, p.o + off, none⟩ = some v ∧ VR ρ a v ∧ p.b < w.heap.size := by
  obtain ⟨q, hq, ⟨c, e, fr, h1, _, _, h4, _⟩, _⟩ := hR.obj id _ hg
  rw [hp] at hq; cases hq
  obtain ⟨v, hv, hr⟩ := h4 off a ha
  exact ⟨v, by simp only [World.cell?, h1]; simpa using hv, hr, hR.lt hg hp⟩

def lenV (w : World) : Value → Int
  | .pointer (some a) => match w.cell? a with
    | some (.slice _ n _) => n
    | _ => 0
  | _ => 0

theorem lensA_sound (hR : Rel K ρ h w) : ∀ {es : List (AV × AV)} {l : List MapEntry} {n : Nat}, MR ρ es l → lensA h es = some n →
    (∀ e ∈ l, ∃ x : File w, e.val = encF x) ∧ (l.map fun e => lenV w e.val).sum = (n : Int)
  | [], [], n, _, hn => by
    simp only [lensA, Option.some.injEq] at hn
    subst hn
    exact ⟨by simp, rfl⟩
  | (k, v) :: es, e :: l, n, ⟨h1, h2, h3⟩, hn => by
    unfold lensA at hn
    split at hn
    · rename_i heq; cases heq
    · rename_i k' fi fo r heq
      simp only [List.cons.injEq, Prod.mk.injEq] at heq
      obtain ⟨⟨rfl, rfl⟩, rfl⟩ := heq
      generalize hev : e.val = ev at h2
      cases h2 with
      | ptr hp =>
      rename_i p
      split at hn
      · rename_i cs o t hg
        split at hn
        · rename_i sid soff sn ssz sc hc
          obtain ⟨cv, c1, c2, c3⟩ := cellAt hR hg hp hc
          cases hr : lensA h es with
          | none => simp [hr] at hn
          | some m =>
            simp only [hr, Option.map_some, Option.some.injEq] at hn
            subst hn
            obtain ⟨i1, i2⟩ := lensA_sound hR h3 hr
            cases c2 with
            | sl q1 q2 q3 q4 q5 =>
            rename_i sp sa scap
            have hx : FileAt w ⟨p.b, p.o + fo, none⟩ := ⟨c3, rfl, _, _, _, c1, .inr ⟨sa, rfl, q2, q3.imp id (fun hh => by rw [hh])⟩⟩
            refine ⟨fun e' he' => ?_, ?_⟩
            · rcases List.mem_cons.1 he' with rfl | he'
              · exact ⟨⟨_, hx⟩, hev⟩
              · exact i1 e' he'
            · rw [List.map_cons, List.sum_cons, i2, hev]
              simp only [lenV, c1]
              omega
        · rename_i hc
          obtain ⟨cv, c1, c2, c3⟩ := cellAt hR hg hp hc
          obtain ⟨i1, i2⟩ := lensA_sound hR h3 hn
          cases c2
          have hx : FileAt w ⟨p.b, p.o + fo, none⟩ := ⟨c3, rfl, _, _, _, c1, .inl ⟨rfl, rfl, rfl⟩⟩
          refine ⟨fun e' he' => ?_, ?_⟩
          · rcases List.mem_cons.1 he' with rfl | he'
            · exact ⟨⟨_, hx⟩, hev⟩
            · exact i1 e' he'
          · rw [List.map_cons, List.sum_cons, i2, hev]
            simp only [lenV, c1]
            omega
        · simp at hn
      · simp at hn
    · simp at hn
  | [], _ :: _, _, hh, _ => hh.elim
  | (_, _) :: _, [], _, hh, _ => hh.elim

theorem rd_file {k : TypeId} (hk : P.underlying k = some .string) {e : MapEntry} {x : List UInt8} (he : e.key = encStr x) (hx : x.length ≤ maxLen) {f : File w} (hf : e.val = encF f) : WideElems.rd P k (relF w) e = some (.string x, .held e.val) := by
  unfold WideElems.rd
  have : keyOf P k e.key = some (.string x) := by
    rw [he]
    have := WideMaps.keyOf_string_mk (P := P) hk (s := ⟨x.toArray⟩) (by show x.toArray.size ≤ maxLen; simpa using hx)
    simpa [encStr] using this
  rw [this, hf, relF_file]
  rfl

theorem owns_files {k : TypeId} (hk : P.underlying k = some .string) {b : Nat} {ces : Array MapEntry} {clock : Nat} {xs : List (List UInt8)} (hh : w.heap[b]? = some (.map ces clock)) (hst : MapKept.Stamped ces clock)
    (hkeys : ces.toList.map (·.key) = xs.map encStr) (hlen : ∀ x ∈ xs, x.length ≤ maxLen) (hsz : ces.size ≤ maxLen) (hfiles : ∀ e ∈ ces.toList, ∃ x : File w, e.val = encF x) :
    ∃ D : DataW Value, w.ownsMap P k (relF w) b ces.size D ∧ (strKeys D).Perm xs ∧ ∀ (i : Nat) (e : MapEntry) (x : List UInt8), ces.toList[i]? = some e → xs[i]? = some x → D.atKey (.string x) .nil = .held e.val := by
  have hall : ∀ (i : Nat) (e : MapEntry), ces.toList[i]? = some e → ∃ x, xs[i]? = some x ∧ e.key = encStr x ∧ WideElems.rd P k (relF w) e = some (.string x, .held e.val) := fun i e hi => by
    have h1 : (ces.toList.map (·.key))[i]? = some e.key := by simp [hi]
    rw [hkeys, List.getElem?_map] at h1
    cases hx : xs[i]? with
    | none => simp [hx] at h1
    | some x =>
      simp only [hx, Option.map_some, Option.some.injEq] at h1
      obtain ⟨f, hf⟩ := hfiles e (List.mem_of_getElem? hi)
      exact ⟨x, rfl, h1.symm, rd_file hk h1.symm (hlen x (List.mem_of_getElem? hx)) hf⟩
  refine ⟨_, ⟨ces, clock, hh, ⟨hsz, hst, fun e he => ?_⟩, Nat.le_refl _, rfl⟩, ?_, fun i e x hi hx => ?_⟩
  · obtain ⟨i, hi⟩ := List.mem_iff_getElem?.1 he
    obtain ⟨x, _, _, h3⟩ := hall i e hi
    exact ⟨_, h3⟩
  · have hmap : (ces.toList.map (WideElems.rg P k (relF w))).map (fun p => strOf p.1) = xs := by
      apply List.ext_getElem?
      intro i
      cases hi : ces.toList[i]? with
      | none =>
        have : xs[i]? = none := by
          rw [List.getElem?_eq_none_iff] at hi ⊢
          have := congrArg List.length hkeys
          simp at this hi ⊢; omega
        simp [hi, this]
      | some e =>
        obtain ⟨x, h1, h2, h3⟩ := hall i e hi
        simp only [List.getElem?_map, hi, Option.map_some, h1, WideElems.rg, h3, Option.getD_some, strOf]
    show ((List.foldr DataW.insert [] (ces.toList.map (WideElems.rg P k (relF w)))).map fun p => strOf p.1).Perm xs
    have := (foldr_insert_perm (ces.toList.map (WideElems.rg P k (relF w)))).map (fun p => strOf p.1)
    rw [hmap] at this
    exact this
  · have hperm := foldr_insert_perm (ces.toList.map (WideElems.rg P k (relF w)))
    simp only [DataW.atKey]
    obtain ⟨x', e1, e2, e3⟩ := hall i e hi
    rw [hx] at e1; cases e1
    have hmem : (Lit.string x, DataW.held e.val) ∈ List.foldr DataW.insert [] (ces.toList.map (WideElems.rg P k (relF w))) := by
      rw [hperm.mem_iff]
      exact List.mem_map.2 ⟨e, List.mem_of_getElem? hi, by simp only [WideElems.rg, e3, Option.getD_some]⟩
    cases hfind : (List.foldr DataW.insert [] (ces.toList.map (WideElems.rg P k (relF w)))).find? (fun p => p.1.sameKey (.string x)) with
    | none =>
      exfalso
      rw [List.find?_eq_none] at hfind
      have := hfind _ hmem
      simp [Lit.sameKey] at this
    | some p =>
      have hpm := List.mem_of_find?_eq_some hfind
      have hps := List.find?_some hfind
      rw [hperm.mem_iff] at hpm
      obtain ⟨e', he', rfl⟩ := List.mem_map.1 hpm
      obtain ⟨j, hj⟩ := List.mem_iff_getElem?.1 he'
      obtain ⟨x', f1, f2, f3⟩ := hall j e' hj
      simp only [WideElems.rg, f3, Option.getD_some] at hps ⊢
      have hxx : x' = x := by simpa [Lit.sameKey] using hps
      subst hxx
      have hkk : e'.key = e.key := by rw [f2, e2]
      have hnd := hst.2.2
      have hij : j = i := by
        have hj' : (ces.toList.map (·.key))[j]? = some e.key := by simp [hj, hkk]
        have hi' : (ces.toList.map (·.key))[i]? = some e.key := by simp [hi]
        have hlj : j < (ces.toList.map (·.key)).length := (List.getElem?_eq_some_iff.1 hj').1
        exact (List.getElem?_inj hlj hnd).1 (hj'.trans hi'.symm)
      subst hij
      rw [hj] at hi; cases hi; rfl

theorem perm_sum {l l' : List Int} (hp : l.Perm l') : l.sum = l'.sum := by
  induction hp with
  | nil => rfl
  | cons a _ ih => simp only [List.sum_cons, ih]
  | swap a b l => simp only [List.sum_cons]; omega
  | trans _ _ h1 h2 => exact h1.trans h2

theorem sumUsed_ok {f : FuncId} {k : TypeId} (hU : UsedAt P f k) {args : List AV} {cargs : Array Value} {v : AV} {h' : AH} (hR : Rel K ρ h w) (hv : VRs ρ args cargs.toList) (hs : sumUsed args h = some (v, h')) : CallRes P f cargs w (CallPost K h ρ v h') := by
  unfold sumUsed at hs
  split at hs
  · rename_i id off
    obtain ⟨cx, rfl, h1⟩ := args1 hv
    cases h1 with
    | ptr hp =>
    rename_i p
    split at hs
    · rename_i cs o t hg
      split at hs
      · rename_i m hc
        obtain ⟨cv, c1, c2, c3⟩ := cellAt hR hg hp hc
        cases c2 with
        | map hpm =>
        rename_i q
        split at hs
        · rename_i es _ clock hgm
          obtain ⟨q', ces, hq', hh, hmr, -, hst⟩ := hR.map hgm
          rw [hpm] at hq'; cases hq'
          split at hs
          · rename_i ks n hk hl
            split at hs
            · rename_i hlim
              simp only [Bool.and_eq_true, decide_eq_true_eq] at hlim
              simp only [Option.some.injEq, Prod.mk.injEq] at hs
              obtain ⟨rfl, rfl⟩ := hs
              obtain ⟨xs, e1, e2, e3⟩ := keysA_sound hmr hk
              obtain ⟨i1, i2⟩ := lensA_sound hR hmr hl
              have hlen2 : ces.size = es.length := by have := hmr.length; simp at this; omega
              have hm : maxLen = 9223372036854775807 := by decide
              obtain ⟨D, d1, d2, d3⟩ := owns_files (w := w) hU.key hh hst e1 e3 (by omega) i1
              refine callRes_body hU.body (Calls.mono (hU.used p.b (p.o + off) q.b ces.size D w (by rw [Nat.add_assoc]; exact c1) d1) fun e w' hpost => ?_)
              obtain ⟨⟨fs, ⟨ps, p1, p2, rfl⟩, rfl⟩, hbel⟩ := hpost
              have hsum : ((ps.map (·.2)).map lenF).sum = (n : Int) := by
                let fk : List UInt8 → Int := fun x => match D.atKey (.string x) .nil with
                  | .held v => lenV w v
                  | _ => 0
                have s1 : (ps.map (·.2)).map lenF = (ps.map (·.1)).map fk := by
                  rw [List.map_map, List.map_map]
                  apply List.map_congr_left
                  intro p hp
                  have := p2 p hp .nil
                  simp only [Function.comp, fk, this, lenF, lenV, encF]
                have s2 : xs.map fk = ces.toList.map fun e => lenV w e.val := by
                  apply List.ext_getElem?
                  intro i
                  rw [List.getElem?_map, List.getElem?_map]
                  cases hi : ces.toList[i]? with
                  | none =>
                    have : xs[i]? = none := by
                      rw [List.getElem?_eq_none_iff] at hi ⊢
                      have := congrArg List.length e1
                      simp at this hi ⊢; omega
                    simp [this]
                  | some e =>
                    cases hx : xs[i]? with
                    | none =>
                      rw [List.getElem?_eq_none_iff] at hx
                      have h2 := (List.getElem?_eq_some_iff.1 hi).1
                      have := congrArg List.length e1
                      simp at this h2 hx; omega
                    | some x =>
                      simp only [Option.map_some, fk, d3 i e x hi hx]
                rw [s1, perm_sum ((p1.trans d2).map fk), s2, i2]
              rw [hsum]
              have : wrap64 (n : Int) = Int.ofNat n := by unfold wrap64; simp only [Int.ofNat_eq_natCast]; omega
              rw [this]
              exact ⟨_, rfl, ρ, Ext.refl _ _, .int _ _, hR.below hbel⟩
            · simp at hs
          · simp at hs
        · simp at hs
      · simp at hs
    · simp at hs
  · simp at hs

end
end Go.Abs
