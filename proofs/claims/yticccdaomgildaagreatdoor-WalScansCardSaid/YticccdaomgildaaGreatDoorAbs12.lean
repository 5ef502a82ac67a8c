/- The abstract layer, part 12: maps' operations; conversions. -/
import Derived.Test.YticccdaomgildaaGreatDoorAbs11
namespace Go.Abs
open Go
set_option linter.unusedVariables false
set_option linter.unusedSimpArgs false

section
variable {P : Program} {ρ : Pm} {w : World} {K : Kp} {h : AH}

theorem evLookup_sound (hR : Rel K ρ h w) {t : TypeId} {m k a : AV} {cm ck : Value} {ok : Bool} (hm : VR ρ m cm) (hk : VR ρ k ck) (hb : evLookup P h t m k ok = some a) :
    ∃ cv, (Instr.lookup t cm ck ok).run P w = .ok cv w ∧ VR ρ a cv := by
  unfold evLookup at hb
  simp only [Option.bind_eq_bind] at hb
  split at hb
  · rename_i kt et hd
    split at hb
    · simp at hb
    · rename_i hck
      replace hck : checkA P 12 kt k = true := by
        cases hh : checkA P 12 kt k with
        | true => rfl
        | false => rw [hh] at hck; simp at hck
      -- the entries
      have hes : ∀ es ces, MR ρ es ces → ∀ r, findA P h kt k es 0 = some r → ∀ v b, lookRes P et r = some (v, b) →
          ∃ cv, (do
            Instr.checkKey ces.isEmpty 10000 kt ck
            let (v, ok') ← match ← Instr.findKey kt ck ces with
              | some (_, v) => pure (v, true)
              | none => pure (← zeroValue et, false)
            pure (if ok then .tuple #[v, .bool ok'] else v) : Sem Value).run P w = .ok cv w ∧ VR ρ (if ok then .tup [v, .bool b] else v) cv := by
        intro es ces hmr r hr v b hv
        obtain ⟨q, hq, hfr⟩ := findKey_sound (em := false) hR hk hck hmr hr
        have hchk := checkA_sound (P := P) (w := w) 12 10000 kt k ck ces.isEmpty (by omega) hk hck
        cases r with
        | none =>
          cases q with
          | some q => exact hfr.elim
          | none =>
          cases hz : tzero P et with
          | none => simp [lookRes, hz] at hv
          | some z =>
            simp only [lookRes, hz, Option.map_some, Option.some.injEq, Prod.mk.injEq] at hv
            obtain ⟨rfl, rfl⟩ := hv
            refine ⟨if ok then .tuple #[z, .bool false] else z, ?_, ?_⟩
            · simp only [Sem.run_bind, hchk, hq, Result.andThen_ok, run_zeroValue' hz, Sem.run_pure]
            · cases ok
              · exact toAV_sound z
              · exact .tup (.cons (toAV_sound z) (.cons (.bool _) .nil))
        | some r =>
          obtain ⟨i, k', v'⟩ := r
          cases q with
          | none => exact hfr.elim
          | some q =>
            obtain ⟨j, cv'⟩ := q
            obtain ⟨_, _, hv', _⟩ := hfr
            simp only [lookRes, Option.some.injEq, Prod.mk.injEq] at hv
            obtain ⟨rfl, rfl⟩ := hv
            refine ⟨if ok then .tuple #[cv', .bool true] else cv', ?_, ?_⟩
            · simp only [Sem.run_bind, hchk, hq, Result.andThen_ok, Sem.run_pure]
            · cases ok
              · exact hv'
              · exact .tup (.cons hv' (.cons (.bool _) .nil))
      unfold Instr.lookup
      simp only [Sem.run_bind, run_underlying' hd, Result.andThen_ok]
      cases m with
      | nilmap =>
        cases hm
        simp only [Option.bind_some] at hb
        cases hr : findA P h kt k [] 0 with
        | none => simp [hr] at hb
        | some r =>
          simp only [hr, Option.bind_some] at hb
          cases hv : lookRes P et r with
          | none => simp [hv] at hb
          | some vb =>
            obtain ⟨v, b⟩ := vb
            simp only [hv, Option.bind_some, Option.some.injEq] at hb
            subst hb
            obtain ⟨cv, h1, h2⟩ := hes [] [] trivial r hr v b hv
            refine ⟨cv, ?_, h2⟩
            simp only [Sem.run_bind] at h1 ⊢
            exact h1
      | map id =>
        cases hm with
        | map hp =>
        cases hg : h.get id with
        | none => simp [hg] at hb
        | some o =>
          cases o with
          | map es bs clock =>
            obtain ⟨p, ces, hq, hh, hmr, -, hstm⟩ := hR.map hg
            rw [hp] at hq; cases hq
            simp only [hg, Option.bind_some] at hb
            cases hr : findA P h kt k es 0 with
            | none => simp [hr] at hb
            | some r =>
              simp only [hr, Option.bind_some] at hb
              cases hv : lookRes P et r with
              | none => simp [hv] at hb
              | some vb =>
                obtain ⟨v, b⟩ := vb
                simp only [hv, Option.bind_some, Option.some.injEq] at hb
                subst hb
                obtain ⟨cv, h1, h2⟩ := hes es ces.toList hmr r hr v b hv
                refine ⟨cv, ?_, h2⟩
                simp only [Sem.run_bind, run_getObj' hh (fun _ _ _ hc => by cases hc), Result.andThen_ok, Sem.run_pure] at h1 ⊢
                have : ces.isEmpty = ces.toList.isEmpty := by simp
                rw [this]
                exact h1
          | _ => simp [hg] at hb
      | _ => simp at hb
  · simp at hb

theorem sameScalar_eq {a b : AV} (hh : sameScalar a b = true) : a = b := by
  unfold sameScalar at hh
  split at hh
  · simp at hh; rw [hh]
  · simp only [Bool.and_eq_true, beq_iff_eq] at hh; obtain ⟨h1, h2⟩ := hh
    rw [h1, h2]
  · rw [eqL_eq] at hh; simp at hh; rw [hh]
  · simp at hh
theorem sameList_eq : ∀ {l m : List AV}, sameList l m = true → l = m
  | [], [], _ => rfl
  | a :: l, b :: m, hh => by
    simp only [sameList, Bool.and_eq_true] at hh
    rw [sameScalar_eq hh.1, sameList_eq hh.2]
  | [], _ :: _, hh => by simp [sameList] at hh
  | _ :: _, [], hh => by simp [sameList] at hh
theorem sameSimple_eq {a b : AV} (hh : sameSimple a b = true) : a = b := by
  unfold sameSimple at hh
  split at hh
  · rw [sameList_eq hh]
  · exact sameScalar_eq hh

theorem bytesOf_inj {x y : ByteArray} (hh : bytesOf x = bytesOf y) : x = y := by
  have h1 : eqL (bytesOf x) (bytesOf y) = true := by rw [eqL_eq]; simp [hh]
  rw [eqL_bytes] at h1
  simp only [beq_iff_eq] at h1
  rw [ByteArray.toList_eq, ByteArray.toList_eq] at h1
  cases x; cases y
  simp only [Array.toList_inj] at h1
  rw [h1]

theorem scalar_unique {a : AV} {u v : Value} (hs : scalarA a = true) (hu : VR ρ a u) (hv : VR ρ a v) : u = v := by
  cases a <;> simp [scalarA] at hs
  · cases hu; cases hv; rfl
  · cases hu; cases hv; rfl
  · rename_i s
    generalize hs' : s = s' at hu
    cases hu with
    | str x =>
    rw [hs'] at hv
    generalize hb : bytesOf x = l at hv
    cases hv with
    | str y => rw [bytesOf_inj hb]

theorem simple_unique {a : AV} {u v : Value} (hs : simpleA a = true) (hu : VR ρ a u) (hv : VR ρ a v) : u = v := by
  cases a with
  | agg l =>
    simp only [simpleA] at hs
    cases hu with
    | agg h1 =>
    cases hv with
    | agg h2 =>
    rename_i c1 c2
    have : c1.toList = c2.toList := by
      generalize c1.toList = m1 at h1
      generalize c2.toList = m2 at h2
      clear c1 c2
      induction l generalizing m1 m2 with
      | nil => cases h1; cases h2; rfl
      | cons a l ih =>
        cases h1 with
        | cons a1 t1 =>
        cases h2 with
        | cons a2 t2 =>
        simp only [List.all_cons, Bool.and_eq_true] at hs
        rw [scalar_unique hs.1 a1 a2, ih hs.2 _ t1 _ t2]
    rw [Array.toList_inj.1 this]
  | bool b => exact scalar_unique (by simpa [simpleA] using hs) hu hv
  | int k n => exact scalar_unique (by simpa [simpleA] using hs) hu hv
  | str s => exact scalar_unique (by simpa [simpleA] using hs) hu hv
  | _ => simp [simpleA, scalarA] at hs

theorem sameBits_scalar {a : AV} {u : Value} (n : Nat) (hs : scalarA a = true) (hu : VR ρ a u) : Instr.sameBits n u u = true := by
  cases a <;> simp [scalarA] at hs <;> cases hu <;> cases n <;> simp [Instr.sameBits, beq_toListBytes]

theorem sameBits_simple {a : AV} {u : Value} (hs : simpleA a = true) (hu : VR ρ a u) : Instr.sameBits 10000 u u = true := by
  cases a with
  | agg l =>
    simp only [simpleA] at hs
    cases hu with
    | agg h1 =>
    rename_i c1
    show Instr.sameBits (9999 + 1) (.agg c1) (.agg c1) = true
    simp only [Instr.sameBits, beq_self_eq_true, Bool.true_and, List.all_eq_true]
    rintro ⟨x, y⟩ hxy
    have hxy' : x = y ∧ x ∈ c1.toList := by
      rw [List.mem_iff_getElem?] at hxy
      obtain ⟨i, hi⟩ := hxy
      rw [List.getElem?_zip_eq_some] at hi
      have : x = y := by have := hi.1.symm.trans hi.2; simpa using this
      exact ⟨this, List.mem_of_getElem? hi.1⟩
    obtain ⟨rfl, hm⟩ := hxy'
    obtain ⟨i, hi, rfl⟩ := List.getElem_of_mem hm
    have hil : i < l.length := by rw [h1.length]; exact hi
    obtain ⟨u', hu', rr⟩ := h1.get (List.getElem?_eq_getElem hil)
    rw [List.getElem?_eq_getElem hi] at hu'
    cases hu'
    simp only [List.all_eq_true] at hs
    exact sameBits_scalar _ (hs _ (List.getElem_mem hil)) rr
  | bool b => exact sameBits_scalar _ (by simpa [simpleA] using hs) hu
  | int k n => exact sameBits_scalar _ (by simpa [simpleA] using hs) hu
  | str s => exact sameBits_scalar _ (by simpa [simpleA] using hs) hu
  | _ => simp [simpleA, scalarA] at hs

theorem MR.get : ∀ {l : List (AV × AV)} {m : List MapEntry} {i : Nat} {k v : AV}, MR ρ l m → l[i]? = some (k, v) → ∃ e, m[i]? = some e ∧ VR ρ k e.key ∧ VR ρ v e.val
  | (k', v') :: l, e :: m, 0, k, v, ⟨h1, h2, _⟩, hi => by
    simp only [List.getElem?_cons_zero, Option.some.injEq, Prod.mk.injEq] at hi
    obtain ⟨rfl, rfl⟩ := hi
    exact ⟨e, rfl, h1, h2⟩
  | (k', v') :: l, e :: m, i + 1, k, v, ⟨_, _, h3⟩, hi => by
    simp only [List.getElem?_cons_succ] at hi ⊢
    exact MR.get h3 hi
  | [], _, _, _, _, _, hi => by simp at hi
  | (_, _) :: _, [], _, _, _, hh, _ => hh.elim

theorem MR.set : ∀ {l : List (AV × AV)} {m : List MapEntry} (i : Nat) {k v : AV} {ck cv : Value}, MR ρ l m → VR ρ k ck → VR ρ v cv → MR ρ (setNth (k, v) l i) (m.modify i fun e => { e with key := ck, val := cv })
  | [], [], i, _, _, _, _, _, _, _ => by cases i <;> simp [setNth, MR]
  | (k', v') :: l, e :: m, 0, _, _, _, _, ⟨_, _, h3⟩, hk, hv => by simp [setNth, List.modify_cons]; exact ⟨hk, hv, h3⟩
  | (k', v') :: l, e :: m, i + 1, _, _, _, _, ⟨h1, h2, h3⟩, hk, hv => by simp [setNth, List.modify_cons]; exact ⟨h1, h2, MR.set i h3 hk hv⟩
  | [], _ :: _, _, _, _, _, _, hh, _, _ => hh.elim
  | (_, _) :: _, [], _, _, _, _, _, hh, _, _ => hh.elim

theorem MR.snoc : ∀ {l : List (AV × AV)} {m : List MapEntry} {k v : AV} {e : MapEntry}, MR ρ l m → VR ρ k e.key → VR ρ v e.val → MR ρ (l ++ [(k, v)]) (m ++ [e])
  | [], [], _, _, _, _, hk, hv => ⟨hk, hv, trivial⟩
  | (_, _) :: _, _ :: _, _, _, _, ⟨h1, h2, h3⟩, hk, hv => ⟨h1, h2, MR.snoc h3 hk hv⟩
  | [], _ :: _, _, _, _, hh, _, _ => hh.elim
  | (_, _) :: _, [], _, _, _, hh, _, _ => hh.elim

theorem MR.erase : ∀ {l : List (AV × AV)} {m : List MapEntry} (i : Nat), MR ρ l m → MR ρ (eraseNth l i) (m.eraseIdx i)
  | [], [], i, _ => by simp [eraseNth, MR]
  | (_, _) :: _, _ :: _, 0, ⟨_, _, h3⟩ => by simpa [eraseNth] using h3
  | (_, _) :: _, _ :: _, i + 1, ⟨h1, h2, h3⟩ => by simp [eraseNth]; exact ⟨h1, h2, MR.erase i h3⟩
  | [], _ :: _, _, hh => hh.elim
  | (_, _) :: _, [], _, hh => hh.elim

theorem diffScalar_ne {a b : AV} {v : Value} (ha : VR ρ a v) (hb : VR ρ b v) : diffScalar a b = false := by
  cases a <;> cases b <;> first
    | rfl
    | (cases ha; cases hb; simp [diffScalar, eqL_eq]; done)

theorem diffList_ne : ∀ {l m : List AV} {vs : List Value}, VRs ρ l vs → VRs ρ m vs → diffList l m = false
  | [], _, _, _, _ => by simp [diffList]
  | _ :: _, [], _, _, _ => by simp [diffList]
  | a :: l, b :: m, _, h1, h2 => by
    cases h1 with
    | cons x1 t1 =>
      cases h2 with
      | cons x2 t2 => simp only [diffList, diffScalar_ne x1 x2, diffList_ne t1 t2, Bool.or_self]

theorem diffSimple_ne {a b : AV} {v : Value} (ha : VR ρ a v) (hb : VR ρ b v) : diffSimple a b = false := by
  cases a with
  | agg l =>
    cases ha with
    | agg h1 =>
      cases hb with
      | agg h2 => exact diffList_ne h1 h2
      | junk => rfl
  | _ => exact diffScalar_ne ha hb

theorem diffAll_ne {k : AV} {ck : Value} (hk : VR ρ k ck) : ∀ {es : List (AV × AV)} {l : List MapEntry}, MR ρ es l → diffAll k es = true → ∀ x ∈ l, x.key ≠ ck
  | [], [], _, _, x, hx => by cases hx
  | (k', v') :: es, e :: l, ⟨h1, h2, h3⟩, hd, x, hx => by
    simp only [diffAll, Bool.and_eq_true] at hd
    rcases List.mem_cons.1 hx with rfl | hx
    · intro he
      rw [diffSimple_ne h1 (by rw [he]; exact hk)] at hd
      cases hd.1
    · exact diffAll_ne hk h3 hd.2 x hx
  | [], _ :: _, hh, _, _, _ => hh.elim
  | (_, _) :: _, [], hh, _, _, _ => hh.elim

theorem born_modify (f : MapEntry → MapEntry) : ∀ (l : List MapEntry) (i : Nat), (∀ e, (f e).born = e.born) → (l.modify i f).map (·.born) = l.map (·.born)
  | [], _, _ => by simp
  | e :: l, 0, h => by simp [List.modify_zero_cons, h e]
  | e :: l, i + 1, h => by simp [List.modify_succ_cons, born_modify f l i h]
theorem map_eraseIdx' : ∀ (l : List MapEntry) (i : Nat), (l.map (·.born)).eraseIdx i = (l.eraseIdx i).map (·.born)
  | [], _ => by simp
  | e :: l, 0 => by simp
  | e :: l, i + 1 => by simp [map_eraseIdx' l i]
theorem evMapUpdate_sound (hR : Rel K ρ h w) {t : TypeId} {m k v : AV} {cm ck cv : Value} {r : ORes} (hm : VR ρ m cm) (hk : VR ρ k ck) (hv : VR ρ v cv) (hb : evMapUpdate P h t m k v = some r) :
    ∃ h' w', r = .skip h' ∧ (Instr.mapUpdate t cm ck cv).run P w = .ok () w' ∧ h.nx ≤ h'.nx ∧ Rel K ρ h' w' := by
  unfold evMapUpdate at hb
  split at hb
  · rename_i kt et id hd
    cases hm with
    | map hp =>
    rename_i p
    split at hb
    · rename_i es bs clock hg
      split at hb
      · simp at hb
      · rename_i hck
        simp only [Bool.or_eq_true, Bool.not_eq_true', not_or, Bool.not_eq_false] at hck
        obtain ⟨q, ces, hq, hh, hmr, hbs, hstm⟩ := hR.map hg
        rw [hp] at hq; cases hq
        cases hr : findA P h kt k es 0 with
        | none => simp [hr] at hb
        | some rr =>
          simp only [hr, Option.bind_eq_bind, Option.bind_some] at hb
          obtain ⟨q, hq1, hfr⟩ := findKey_sound (em := false) hR hk hck.1 hmr hr
          have hchk := checkA_sound (P := P) (w := w) 12 10000 kt k ck false (by omega) hk hck.1
          unfold Instr.mapUpdate
          simp only [Sem.run_bind, run_underlying' hd, Result.andThen_ok, run_getObj' hh (fun _ _ _ hc => by cases hc), hchk, hq1]
          cases rr with
          | none =>
            cases q with
            | some q => exact hfr.elim
            | none =>
            simp only at hb
            split at hb
            · rename_i hdiff
              simp only [Option.some.injEq] at hb
              subst hb
              refine ⟨_, _, rfl, by simp only [run_setObj' hh (fun _ _ _ hc => by cases hc)], Nat.le_refl _, hR.setObj hg hp rfl rfl (o' := .map (es ++ [(k, v)]) (bs ++ [clock]) (clock + 1)) (co' := .map (ces.push { key := ck, val := cv, born := clock }) (clock + 1)) ⟨_, rfl, ?_, ?_, MapKept.stamped_push hstm (diffAll_ne hk hmr hdiff)⟩⟩
              · rw [Array.toList_push]
                exact hmr.snoc hk hv
              · rw [Array.toList_push, List.map_append, hbs]; rfl
            · simp at hb
          | some rr =>
            obtain ⟨i, k', v'⟩ := rr
            cases q with
            | none => exact hfr.elim
            | some q =>
            obtain ⟨j, cv'⟩ := q
            obtain ⟨hij, _, _, e, hei, hke, _⟩ := hfr
            subst hij
            simp only at hb
            split at hb
            · rename_i hsame
              simp only [Bool.and_eq_true] at hsame
              simp only [Option.some.injEq] at hb
              subst hb
              have hkk := sameSimple_eq hsame.2
              subst hkk
              have hkey : e.key = ck := simple_unique hsame.1 hke hk
              have hei' : ces[i]? = some e := by simpa using hei
              refine ⟨_, _, rfl, ?_, Nat.le_refl _, hR.setObj hg hp rfl rfl (o' := .map (setNth (k', v) es i) bs clock) (co' := .map (ces.modify i fun e => { e with key := ck, val := cv }) clock) ⟨_, rfl, ?_, ?_, MapKept.stamped_modify hstm i _ (fun _ _ => rfl) (fun e' _ he' => by rw [hei'] at he'; cases he'; exact hkey.symm)⟩⟩
              · have hks : (Instr.keyThatStays (((ces[i]?).map (·.key)).getD ck) ck).run P w = .ok ck w := by
                  rw [hei']
                  simp only [Option.map_some, Option.getD_some, hkey, Instr.keyThatStays, sameBits_simple hsame.1 hk, if_true, Sem.run_pure]
                simp only [Sem.run_bind, hks, Result.andThen_ok, run_setObj' hh (fun _ _ _ hc => by cases hc)]
              · rw [Array.toList_modify]
                exact hmr.set i hk hv
              · rw [Array.toList_modify, hbs]
                exact (born_modify (fun e => { e with key := ck, val := cv }) _ _ fun _ => rfl).symm
            · simp at hb
    · simp at hb
  · simp at hb

theorem evDelete_sound (hR : Rel K ρ h w) {argTypes : Array TypeId} {ty : TypeId} {m k : AV} {cm ck : Value} {r : ORes} (hm : VR ρ m cm) (hk : VR ρ k ck) (hb : evDelete P h argTypes m k = some r) :
    ∃ a h' ρ' cv w', r = .val a h' ∧ (Builtin.delete_ argTypes ty #[cm, ck]).run P w = .ok cv w' ∧ Ext h.nx ρ h'.nx ρ' ∧ VR ρ' a cv ∧ Rel K ρ' h' w' := by
  unfold evDelete at hb
  cases h0 : argTypes[0]? with
  | none => simp [h0] at hb
  | some t =>
  simp only [h0, Option.bind_eq_bind, Option.bind_some] at hb
  have hz : VR ρ (.tup []) (.tuple #[]) := .tup .nil
  split at hb
  · rename_i kt et hd
    split at hb
    · simp at hb
    · rename_i hck
      replace hck : checkA P 12 kt k = true := by
        cases hh : checkA P 12 kt k with
        | true => rfl
        | false => rw [hh] at hck; simp at hck
      unfold Builtin.delete_
      simp only [h0, List.getElem?_toArray, List.getElem?_cons_zero, List.getElem?_cons_succ, Sem.run_bind, run_underlying' hd, Result.andThen_ok]
      split at hb
      · cases hm
        simp only [Option.some.injEq] at hb; subst hb
        refine ⟨_, _, ρ, _, w, rfl, ?_, Ext.refl _ _, hz, hR⟩
        simp only [Sem.run_bind, checkA_sound (P := P) (w := w) 12 10000 kt k ck true (by omega) hk hck, Result.andThen_ok, Sem.run_pure]
      · rename_i id
        cases hm with
        | map hp =>
        rename_i p
        split at hb
        · rename_i es bs clock hg
          obtain ⟨q, ces, hq, hh, hmr, hbs, hstm⟩ := hR.map hg
          rw [hp] at hq; cases hq
          cases hr : findA P h kt k es 0 with
          | none => simp [hr] at hb
          | some rr =>
            simp only [hr, Option.bind_some] at hb
            obtain ⟨q, hq1, hfr⟩ := findKey_sound (em := false) hR hk hck hmr hr
            have hchk := checkA_sound (P := P) (w := w) 12 10000 kt k ck ces.isEmpty (by omega) hk hck
            simp only [run_getObj' hh (fun _ _ _ hc => by cases hc), Result.andThen_ok, hchk, hq1, Sem.run_bind]
            cases rr with
            | none =>
              cases q with
              | some q => exact hfr.elim
              | none =>
              simp only [Option.some.injEq] at hb
              subst hb
              refine ⟨_, _, ρ, _, _, rfl, by simp only [Sem.run_bind, run_setObj' hh (fun _ _ _ hc => by cases hc), Result.andThen_ok, Sem.run_pure]; rfl, Ext.refl _ _, hz, ?_⟩
              have hrel := hR.setObj hg hp rfl rfl (o' := .map es bs clock) (co' := .map ces clock) ⟨ces, rfl, hmr, hbs, hstm⟩
              refine hrel.forget (fun j oj hj => ?_) (Nat.le_refl _)
              rw [AH.get_put]
              split
              · rename_i e; subst e; rw [hg] at hj; exact hj
              · exact hj
            | some rr =>
              obtain ⟨i, k', v'⟩ := rr
              cases q with
              | none => exact hfr.elim
              | some q =>
              obtain ⟨j, cv'⟩ := q
              obtain ⟨hij, _⟩ := hfr
              subst hij
              simp only [Option.some.injEq] at hb
              subst hb
              refine ⟨_, _, ρ, _, _, rfl, by simp only [Sem.run_bind, run_setObj' hh (fun _ _ _ hc => by cases hc), Result.andThen_ok, Sem.run_pure], Ext.refl _ _, hz, hR.setObj hg hp rfl rfl (o' := .map (eraseNth es i) (bs.eraseIdx i) clock) ⟨_, rfl, ?_, ?_, MapKept.stamped_erase hstm i⟩⟩
              · have : (ces.eraseIdxIfInBounds i).toList = ces.toList.eraseIdx i := by
                  unfold Array.eraseIdxIfInBounds
                  split
                  · simp
                  · rename_i hlt
                    rw [List.eraseIdx_of_length_le (by simpa using hlt)]
                rw [this]
                exact hmr.erase i
              · have : (ces.eraseIdxIfInBounds i).toList = ces.toList.eraseIdx i := by
                  unfold Array.eraseIdxIfInBounds
                  split
                  · simp
                  · rename_i hlt
                    rw [List.eraseIdx_of_length_le (by simpa using hlt)]
                rw [this, hbs, map_eraseIdx']
        · simp at hb
      · simp at hb
  · simp at hb

end
end Go.Abs
