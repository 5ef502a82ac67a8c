/- The abstract layer, part 14: every operation. -/
import Derived.Test.YticccdaomgildaaGreatDoorAbs13
import Derived.Laws.RangeString
namespace Go.Abs
open Go
set_option linter.unusedVariables false
set_option linter.unusedSimpArgs false

section
variable {P : Program} {ρ : Pm} {w : World} {K : Kp} {h : AH}

theorem VRs.of_map {E : Operand → AV} {ce : Operand → Value} (hE : ∀ x, VR ρ (E x) (ce x)) : ∀ (l : List Operand), VRs ρ (l.map E) (l.map ce)
  | [] => .nil
  | x :: l => .cons (hE x) (VRs.of_map hE l)

theorem OVR.of_map {E : Operand → AV} {ce : Operand → Value} (hE : ∀ x, VR ρ (E x) (ce x)) : ∀ (o : Option Operand), OVR ρ (o.map E) (o.map ce)
  | none => trivial
  | some x => hE x

theorem parts_ok {E : Operand → AV} {ce : Operand → Value} (hE : ∀ x, VR ρ (E x) (ce x)) (parts : Array (Nat × Operand)) :
    (parts.toList.map fun (i, x) => (i, E x)).map (·.1) = ((parts.map fun (i, x) => (i, ce x)).toList).map (·.1) ∧
    VRs ρ ((parts.toList.map fun (i, x) => (i, E x)).map (·.2)) (((parts.map fun (i, x) => (i, ce x)).toList).map (·.2)) := by
  rw [Array.toList_map]
  generalize parts.toList = l
  constructor
  · simp [Function.comp_def]
  · induction l with
    | nil => exact .nil
    | cons a l ih => exact .cons (hE _) ih

theorem methodA_sound {t : TypeId} {name : String} {f : FuncId} {v : Value} (n : Nat) (hm : methodA P t name = some f) : (method (n + 1) t v name).run P w = .ok (f, v) w := by
  unfold methodA at hm
  cases hi : P.info? t with
  | none => simp [hi] at hm
  | some i =>
  cases hf : i.methods.find? (·.name == name) with
  | none => simp [hi, hf] at hm
  | some m =>
  simp only [hi, hf, Option.bind_eq_bind, Option.bind_some] at hm
  split at hm
  · simp at hm
  · rename_i hpath
    have hp : m.path.toList = [] := by
      have : m.path.isEmpty = true := by
        cases hh : m.path.isEmpty with
        | true => rfl
        | false => rw [hh] at hpath; simp at hpath
      simpa using this
    unfold method
    simp only [Sem.run_bind, run_typeInfo' hi, Result.andThen_ok, hf, hp, follow, Sem.run_pure]
    split at hm
    · rename_i g pr hfn
      cases hd : P.underlying t with
      | none => simp [hd] at hm
      | some d =>
        simp only [hd, Option.bind_some] at hm
        simp only [hfn, Sem.run_bind]
        unfold receiverAt
        simp only [Sem.run_bind, run_underlying' hd, Result.andThen_ok]
        split at hm
        · simp only [Option.some.injEq] at hm; subst hm
          rfl
        · simp at hm
        · simp at hm
        · rename_i hnp
          simp only [Option.some.injEq] at hm; subst hm
          cases d <;> first | rfl | exact (hnp _ rfl).elim
    · simp at hm

theorem exists_depth (P : Program) : ∃ n, P.types.size + Made.depth = n + 1 := by
  have h0 : 0 < Made.depth := by decide
  exact ⟨P.types.size + Made.depth - 1, by omega⟩

theorem evInvoke_sound {fn : Fn} {args captured : List AV} {cargs ccap : Array Value} {r : ORes} (ha : VRs ρ args cargs.toList) (hc : VRs ρ captured ccap.toList) (hb : evInvoke P fn args captured = some r) :
    OpPost P K h ρ w ((invoke (.fn fn ccap) cargs).run P w) r := by
  unfold evInvoke at hb
  split at hb
  · simp only [Option.some.injEq] at hb
    subst hb
    exact ⟨cargs ++ ccap, rfl, by rw [Array.toList_append]; exact ha.append hc⟩
  · rename_i t name
    cases args with
    | nil => simp at hb
    | cons x args =>
      generalize hcl : cargs.toList = cl at ha
      cases ha with
      | cons hx ha =>
      rename_i cx cl
      have hc0 : cargs[0]? = some cx := by rw [← Array.getElem?_toList, hcl]; rfl
      have hce : (cargs.extract 1 cargs.size).toList = cl := by
        have hsz : cargs.size = cl.length + 1 := by rw [← Array.length_toList, hcl]; rfl
        simp [hcl, hsz]
      simp only [List.head?_cons, List.tail_cons, Option.bind_eq_bind, Option.bind_some] at hb
      split at hb
      · simp at hb
      · cases hd : P.underlying t with
        | none => simp [hd] at hb
        | some d =>
          simp only [hd, Option.bind_some] at hb
          split at hb
          · simp at hb
          · rename_i hni
            cases hm : methodA P t name with
            | none => simp [hm] at hb
            | some f =>
              simp only [hm, Option.bind_some, Option.some.injEq] at hb
              subst hb
              refine ⟨#[cx] ++ cargs.extract 1 cargs.size, ?_, by rw [Array.toList_append, hce]; exact .cons hx ha⟩
              unfold invoke
              simp only [hc0, Sem.run_bind, run_underlying' hd, Result.andThen_ok]
              have hrecv : (match d with | .interface _ => cx | _ => Value.iface t cx) = .iface t cx := by
                cases d <;> first | rfl | exact (hni _ rfl).elim
              have hcm : (callMethod (.iface t cx) name (cargs.extract 1 cargs.size)).run P w = (callFunc f (#[cx] ++ cargs.extract 1 cargs.size)).run P w := by
                unfold callMethod
                simp only [Sem.run_bind, run_program, Result.andThen_ok]
                have hdep : ∃ n, P.types.size + Made.depth = n + 1 := exists_depth P
                obtain ⟨n, hn⟩ := hdep
                rw [hn, methodA_sound n hm]
                rfl
              cases d <;> first | exact hcm | exact (hni _ rfl).elim
  · rename_i name
    cases args with
    | nil => simp at hb
    | cons x args =>
      generalize hcl : cargs.toList = cl at ha
      cases ha with
      | cons hx ha =>
      rename_i cx cl
      have hc0 : cargs[0]? = some cx := by rw [← Array.getElem?_toList, hcl]; rfl
      have hce : (cargs.extract 1 cargs.size).toList = cl := by
        have hsz : cargs.size = cl.length + 1 := by rw [← Array.length_toList, hcl]; rfl
        simp [hcl, hsz]
      simp only [List.head?_cons, List.tail_cons, Option.bind_eq_bind, Option.bind_some] at hb
      split at hb
      · rename_i t v
        cases hx with
        | iface hv =>
        rename_i cv
        cases hm : methodA P t name with
        | none => simp [hm] at hb
        | some f =>
          simp only [hm, Option.bind_some, Option.some.injEq] at hb
          subst hb
          refine ⟨#[cv] ++ cargs.extract 1 cargs.size, ?_, by rw [Array.toList_append, hce]; exact .cons hv ha⟩
          unfold invoke
          simp only [hc0]
          unfold callMethod
          simp only [Sem.run_bind, run_program, Result.andThen_ok]
          have hdep : ∃ n, P.types.size + Made.depth = n + 1 := exists_depth P
          obtain ⟨n, hn⟩ := hdep
          rw [hn, methodA_sound n hm]
          rfl
      · simp at hb
  · simp at hb

theorem map2 {α β : Type} {f : α → β} {a : Array α} {x y : β} (hh : a.toList.map f = [x, y]) : a.map f = #[x, y] := by
  apply Array.toList_inj.1; simpa using hh
theorem map1 {α β : Type} {f : α → β} {a : Array α} {x : β} (hh : a.toList.map f = [x]) : a.map f = #[x] := by
  apply Array.toList_inj.1; simpa using hh

theorem evCall_sound (hR : Rel K ρ h w) {E : Operand → AV} {ce : Operand → Value} (hE : ∀ x, VR ρ (E x) (ce x)) {c : Call} {ty : TypeId} {r : ORes} (hb : evCall P h E c = some r) :
    OpPost P K h ρ w ((do let d ← resolve ce c ty; invoke d.target d.args : Sem Next).run P w) r := by
  have hargs := VRs.of_map hE c.args.toList
  unfold evCall at hb
  simp only at hb
  unfold resolve
  split at hb
  · rename_i b hcal
    simp only [hcal, Sem.run_bind, Sem.run_pure, Result.andThen_ok]
    generalize hl : c.args.toList.map E = l at hb hargs
    generalize hm : c.args.toList.map ce = m at hargs
    split at hb
    · cases hargs with
      | cons h1 t => cases t with
        | cons h2 t => cases t with
          | nil =>
          rw [map2 hm]
          exact opPost_res (evAppend_sound hR h1 h2 hb)
    · cases hargs with
      | cons h1 t => cases t with
        | cons h2 t => cases t with
          | nil =>
          rw [map2 hm]
          exact opPost_res (evCopy_sound hR h1 h2 hb)
    · cases hargs with
      | cons h1 t => cases t with
        | nil =>
        rw [map1 hm]
        exact opPost_pure hR hb fun v hv => evLen_sound hR h1 hv
    · cases hargs with
      | cons h1 t => cases t with
        | nil =>
        rw [map1 hm]
        exact opPost_pure hR hb fun v hv => evCap_sound h1 hv
    · cases hargs with
      | cons h1 t => cases t with
        | nil =>
        rw [map1 hm]
        exact opPost_res (evClear_sound hR h1 hb)
    · cases hargs with
      | cons h1 t => cases t with
        | cons h2 t => cases t with
          | nil =>
          rw [map2 hm]
          exact opPost_res (evDelete_sound hR h1 h2 hb)
    · have hm' : (c.args.map ce).toList = m := by rw [← hm]; simp
      exact opPost_pure hR hb fun v hv => maxA_sound (by rw [hm']; exact hargs) hv
    · have hm' : (c.args.map ce).toList = m := by rw [← hm]; simp
      exact opPost_pure hR hb fun v hv => minA_sound (by rw [hm']; exact hargs) hv
    · simp at hb
  · rename_i x name hcal
    simp only [hcal, Sem.run_bind, Sem.run_pure, Result.andThen_ok]
    exact evInvoke_sound (by rw [Array.toList_append, Array.toList_map]; exact .cons (hE _) hargs) .nil hb
  · rename_i f hcal
    simp only [hcal, Sem.run_bind]
    have hf := hE f
    split at hb
    · rename_i fn first captured heq
      rw [heq] at hf
      generalize hcf : ce f = cf at hf
      cases hf with
      | func hp hl hm =>
      simp only [Deferred.ofValue, Sem.run_pure, Result.andThen_ok]
      exact evInvoke_sound (by rw [Array.toList_append, Array.toList_map]; exact hl.append hargs) hm hb
    · rename_i id heq
      rw [heq] at hf
      generalize hcf : ce f = cf at hf
      cases hf with
      | yld hp =>
      simp only [Option.some.injEq] at hb
      subst hb
      simp only [Deferred.ofValue, Sem.run_pure, Result.andThen_ok]
      exact ⟨_, _, hp, rfl, by rw [Array.toList_append, Array.toList_map]; exact hargs⟩
    · simp at hb

/-- What an operation does that makes a block, whichever name it gets. -/
def AllocNext (P : Program) (ρ : Pm) (s : Sem Next) (ob : AO) (mk : Nat → AV) : Prop :=
  ob.own = true ∧ ∀ w : World, ∃ co lim cv, s.run P w = .ok (.value cv) { w with heap := w.heap.push co } ∧
    ∀ (ρ' : Pm) (id : Nat), ρ.le ρ' → ρ' id = some ⟨w.heap.size, 0, lim⟩ → OR ρ' ⟨w.heap.size, 0, lim⟩ ob (some co) ∧ VR ρ' (mk id) cv

theorem AllocOk.next {s : Sem Value} {ob : AO} {mk : Nat → AV} (hh : AllocOk P ρ s ob mk) : AllocNext P ρ (do pure (.value (← s))) ob mk :=
  ⟨hh.1, fun w => let ⟨co, lim, cv, r1, r2⟩ := hh.2 w; ⟨co, lim, cv, by simp only [Sem.run_bind, r1, Result.andThen_ok, Sem.run_pure], r2⟩⟩

theorem allocA_sound {E : Operand → AV} {ce : Operand → Value} (hE : ∀ x, VR ρ (E x) (ce x)) {op : Op} {ty : TypeId} {dst : Option Tmp} {pos : String} {after : Array Edge} {guard : Option (Nat × Bool)} {ob : AO} {mk : Nat → AV} (hb : allocA P E op = some (ob, mk)) :
    AllocNext P ρ (execOp ce { dst, op, type := ty, pos, after, guard }) ob mk := by
  cases op <;> simp only [allocA] at hb <;> (first | (simp at hb; done) | skip) <;> unfold execOp <;> simp only
  case alloc e =>
    refine AllocOk.next ?_
    cases hz : tzero P e with
    | none => simp [hz] at hb
    | some z =>
    cases hzc : cellsA (toAV z) with
    | none => simp [hz, hzc] at hb
    | some zc =>
    simp only [hz, hzc, Option.bind_eq_bind, Option.bind_some] at hb
    simp only [Option.some.injEq, Prod.mk.injEq] at hb
    obtain ⟨rfl, rfl⟩ := hb
    have hzr := zero_cells (ρ := ρ) hzc
    have hlen : zc.isEmpty = false → 0 < z.cells.size := fun hne => by
      have := hzr.length
      cases zc with
      | nil => simp at hne
      | cons a l => simp at this; omega
    · refine ⟨rfl, fun w => ⟨.cells z.cells e (0, 0), z.cells.size, .pointer (some ⟨w.heap.size, 0, none⟩), ?_, fun ρ' id hle' hid => ⟨newOR hle' hzr.toCells (by rw [hzr.length]; simp) (fun ht => hlen ht), .ptr hid⟩⟩⟩
      simp only [Instr.alloc, Sem.run_bind, run_zeroValue' hz, Result.andThen_ok, newVar, newRow, run_newObj, Sem.run_pure]
  case box e x =>
    refine AllocOk.next ?_
    have hx := hE x
    cases hzc : cellsA (E x) with
    | none => simp [hzc] at hb
    | some zc =>
    simp only [hzc, Option.bind_eq_bind, Option.bind_some] at hb
    simp only [Option.some.injEq, Prod.mk.injEq] at hb
    obtain ⟨rfl, rfl⟩ := hb
    have hzr := cellsA_sound hx hzc
    have hlen : zc.isEmpty = false → 0 < (ce x).cells.size := fun hne => by
      have := hzr.length
      cases zc with
      | nil => simp at hne
      | cons a l => simp at this; omega
    · refine ⟨rfl, fun w => ⟨.cells (ce x).cells e (0, 0), (ce x).cells.size, .pointer (some ⟨w.heap.size, 0, none⟩), ?_, fun ρ' id hle' hid => ⟨newOR hle' hzr.toCells (by rw [hzr.length]; simp) (fun ht => hlen ht), .ptr hid⟩⟩⟩
      simp only [Instr.box, Sem.run_bind, Result.andThen_ok, newVar, newRow, run_newObj, Sem.run_pure]
  case buildSlice t len parts =>
    obtain ⟨p1, p2⟩ := parts_ok hE parts
    exact (bsA_sound p1 p2 hb).next
  case makeSlice t l c => exact (msA_sound (hE l) (hE c) hb).next
  case makeMap t r =>
    refine AllocOk.next ?_
    have key : ∀ w : World, ∃ co lim cv, ((do pure (.map (some (← newObj (.map #[] 0)))) : Sem Value)).run P w = .ok cv { w with heap := w.heap.push co } ∧
        ∀ (ρ' : Pm) (id : Nat), ρ.le ρ' → ρ' id = some ⟨w.heap.size, 0, lim⟩ → OR ρ' ⟨w.heap.size, 0, lim⟩ (.map [] [] 0) (some co) ∧ VR ρ' (.map id) cv := fun w =>
      ⟨.map #[] 0, 0, .map (some w.heap.size), rfl, fun ρ' id hle' hid => ⟨⟨#[], rfl, trivial, rfl, MapKept.stamped_empty 0⟩, .map hid⟩⟩
    cases r with
    | none =>
      simp only [Option.map_none] at hb
      have hb' : some ((.map [] [] 0, AV.map) : AO × (Nat → AV)) = some (ob, mk) := by
        cases hd : P.underlying t <;> simpa [hd] using hb
      simp only [Option.some.injEq, Prod.mk.injEq] at hb'
      obtain ⟨rfl, rfl⟩ := hb'
      exact ⟨rfl, fun w => key w⟩
    | some x =>
      have hx := hE x
      simp only [Option.map_some] at hb
      split at hb
      · rename_i hn; cases hn
      · rename_i kt et k n hd heq
        simp only [Option.some.injEq] at heq
        rw [heq] at hx
        generalize hcx : ce x = cx at hx
        cases hx
        simp only [Option.some.injEq, Prod.mk.injEq] at hb
        obtain ⟨rfl, rfl⟩ := hb
        refine ⟨rfl, fun w => ?_⟩
        obtain ⟨co, lim, cv, r1, r2⟩ := key w
        refine ⟨co, lim, cv, ?_, r2⟩
        unfold Instr.makeMap
        simp only [Option.map_some, hcx, Sem.run_bind, run_underlying' hd, Result.andThen_ok, asInt, asIntOf, Sem.run_pure] at r1 ⊢
        exact r1
      · simp at hb

theorem allocated_sound (hR : Rel K ρ h w) {s : Sem Next} {q : Option (AO × (Nat → AV))} {r : ORes} (hh : ∀ {ob mk}, q = some (ob, mk) → AllocNext P ρ s ob mk) (hb : allocated h q = some r) : OpPost P K h ρ w (s.run P w) r := by
  unfold allocated at hb
  split at hb
  · rename_i ob mk
    simp only [Option.some.injEq] at hb
    subst hb
    obtain ⟨hown, hw⟩ := hh rfl
    obtain ⟨co, lim, cv, r1, r2⟩ := hw w
    have hle : ρ.le (ρ.put h.nx ⟨w.heap.size, 0, lim⟩) := Pm.le_put (hR.fresh _ (Nat.le_refl _))
    obtain ⟨r3, r4⟩ := r2 _ h.nx hle (Pm.put_self _ _ _)
    obtain ⟨h1, h2⟩ := hR.push hown r3
    exact ⟨_, cv, _, r1, h2, r4, h1⟩
  · simp at hb

theorem bytesOf_get {bs : ByteArray} {pos : Nat} : (bytesOf bs)[pos]? = (bs.data[pos]?).map UInt8.toNat := by
  simp [bytesOf]
theorem evRange_sound (hR : Rel K ρ h w) {t : TypeId} {x : AV} {cx : Value} {r : ORes} (hx : VR ρ x cx) (hb : evRange P h t x = some r) :
    ∃ a h' ρ' cv w', r = .val a h' ∧ (Instr.range t cx).run P w = .ok cv w' ∧ Ext h.nx ρ h'.nx ρ' ∧ VR ρ' a cv ∧ Rel K ρ' h' w' := by
  unfold evRange at hb
  split at hb
  · rename_i s hd
    cases hb
    generalize hcx : cx = cv at hx
    cases hx with
    | str bs =>
    obtain ⟨hR1, hle1⟩ := hR.push (o := .sit (bytesOf bs) 0) (co := .stringIter bs 0) (lim := 0) rfl ⟨rfl, bs, rfl, rfl⟩
    refine ⟨_, _, _, .pointer (some ⟨w.heap.size, 0, none⟩), _, rfl, ?_, hle1, .ptr (Pm.put_self _ _ _), hR1⟩
    unfold Instr.range
    simp only [Sem.run_bind, run_underlying' hd, Result.andThen_ok, Sem.run_pure, run_newObj]
  · rename_i hd
    cases hb
    generalize hcx : cx = cv at hx
    cases hx
    obtain ⟨hR1, hle1⟩ := hR.push (o := .mit none 0 [] 0) (co := .mapIter none 0 #[] 0) (lim := 0) rfl ⟨rfl, rfl⟩
    refine ⟨_, _, _, .pointer (some ⟨w.heap.size, 0, none⟩), _, rfl, ?_, hle1, .ptr (Pm.put_self _ _ _), hR1⟩
    unfold Instr.range
    simp only [Sem.run_bind, run_underlying' hd, Result.andThen_ok, Sem.run_pure, run_newObj]
  · rename_i m hd
    generalize hcx : cx = cv at hx
    cases hx with
    | map hp =>
    rename_i p
    split at hb
    · rename_i es bs ck hg
      cases hb
      obtain ⟨q, ces, hq, hh, -, -, -⟩ := hR.map hg
      rw [hp] at hq; cases hq
      obtain ⟨hR1, hle1⟩ := hR.push (o := .mit (some m) ck [] ck) (co := .mapIter (some p.b) ck #[] ck) (lim := 0) rfl ⟨rfl, p, Pm.le_put (hR.fresh _ (Nat.le_refl _)) _ _ hp, rfl⟩
      refine ⟨_, _, _, .pointer (some ⟨w.heap.size, 0, none⟩), _, rfl, ?_, hle1, .ptr (Pm.put_self _ _ _), hR1⟩
      unfold Instr.range
      simp only [Sem.run_bind, run_underlying' hd, run_getObj' hh (fun _ _ _ hc => by cases hc), Result.andThen_ok, Sem.run_pure, run_newObj]
    · cases hb
  · cases hb
theorem leftA_sound {ρ : Pm} (seen : List Nat) : ∀ {es : List (AV × AV)} {l : List MapEntry}, MR ρ es l → MR ρ ((leftA es (l.map (·.born)) seen).map (·.1)) (l.filter fun e => !seen.contains e.born) ∧ (leftA es (l.map (·.born)) seen).map (·.2) = (l.filter fun e => !seen.contains e.born).map (·.born)
  | [], [], _ => ⟨trivial, rfl⟩
  | (_, _) :: es, e :: l, ⟨h1, h2, h3⟩ => by
    obtain ⟨h4, h5⟩ := leftA_sound seen h3
    rw [List.map_cons, leftA, List.filter_cons]
    cases seen.contains e.born with
    | true => exact ⟨h4, h5⟩
    | false => exact ⟨⟨h1, h2, h4⟩, by simp only [cond_false, Bool.not_false, if_true, List.map_cons, h5]⟩
  | [], _ :: _, h => h.elim
theorem evNextMap_sound (hR : Rel K ρ h w) {ty : TypeId} {x : AV} {cx : Value} {r : ORes} (hx : VR ρ x cx) (hb : evNextMap h x = some r) :
    ∃ a h' ρ' cv w', r = .val a h' ∧ (Instr.next cx false ty).run P w = .ok cv w' ∧ Ext h.nx ρ h'.nx ρ' ∧ VR ρ' a cv ∧ Rel K ρ' h' w' := by
  unfold evNextMap at hb
  split at hb
  · rename_i id
    split at hb
    · rename_i since seen last hg
      generalize hcx : cx = cv at hx
      cases hx with
      | ptr hp =>
      rename_i p
      obtain ⟨q, hq, ⟨hq0, hbs⟩, -⟩ := hR.obj id _ hg
      rw [hp] at hq
      cases hq
      cases hb
      refine ⟨_, _, ρ, .tuple #[.bool false], w, rfl, ?_, Ext.refl _ _, .tup (.cons (.bool _) .nil), hR⟩
      unfold Instr.next
      simp only [hq0, Nat.add_zero, Sem.run_bind, run_getObj' hbs (fun _ _ _ hc => by cases hc), Result.andThen_ok, Sem.run_pure]
    · rename_i m since seen last hg
      generalize hcx : cx = cv at hx
      cases hx with
      | ptr hp =>
      rename_i p
      obtain ⟨q, hq, ⟨hq0, qm, hqm, hbs⟩, -⟩ := hR.obj id _ hg
      rw [hp] at hq
      cases hq
      split at hb
      · rename_i es bs ck hgm
        obtain ⟨qm', ces, hq', hh, hmr, rfl, hst⟩ := hR.map hgm
        rw [hqm] at hq'; cases hq'
        split at hb
        · cases hb
        · rename_i hno
          have hno' : (!seen.toArray.isEmpty && !ces.isEmpty && ces.all fun x => decide (x.born ≥ last)) = false := by
            rw [Bool.not_eq_true] at hno
            rw [← hno]
            simp [List.all_map, Function.comp_def, ← Array.all_toList]
          obtain ⟨hl1, hl2⟩ := leftA_sound (ρ := ρ) seen hmr
          have hleft : ces.filter (fun e => !seen.toArray.contains e.born) = (ces.toList.filter fun e => !seen.contains e.born).toArray := by
            apply Array.toList_inj.1
            simp
          unfold Instr.next
          simp only [hq0, Nat.add_zero, Sem.run_bind, run_getObj' hbs (fun _ _ _ hc => by cases hc), run_getObj' hh (fun _ _ _ hc => by cases hc), Result.andThen_ok, hno', Bool.false_eq_true, if_false, hleft]
          split at hb
          · rename_i hn
            rw [hn] at hl1
            have hf : (ces.toList.filter fun e => !seen.contains e.born) = [] := by
              generalize (ces.toList.filter fun e => !seen.contains e.born) = z at hl1
              cases z with
              | nil => rfl
              | cons => exact hl1.elim
            cases hb
            refine ⟨_, _, ρ, .tuple #[.bool false], w, rfl, ?_, Ext.refl _ _, .tup (.cons (.bool _) .nil), hR⟩
            rw [hf]
            simp [choose, Sem.run, Question.forced, Sem.run_pure]
          · rename_i k v b hn
            rw [hn] at hl1 hl2
            split at hb
            · rename_i hlt
              cases hb
              generalize (ces.toList.filter fun e => !seen.contains e.born) = z at hl1 hl2
              match z, hl1, hl2 with
              | [e], hl1, hl2 =>
                simp only [List.map_cons, List.map_nil, List.cons.injEq, and_true] at hl2
                subst hl2
                have hR2 := hR.setObj (o' := .mit (some m) since (seen ++ [e.born]) ck) (co' := .mapIter (some qm.b) since (seen.toArray.push e.born) ck) hg hp rfl rfl ⟨hq0, qm, hqm, by simp⟩
                refine ⟨_, _, ρ, .tuple #[.bool true, e.key, e.val], _, rfl, ?_, Ext.refl _ _, .tup (.cons (.bool _) (.cons hl1.1 (.cons hl1.2.1 .nil))), hR2⟩
                have hnlt : ¬ since ≤ e.born := by omega
                simp [choose, Sem.run, Question.forced, Sem.run_pure, hlt, hnlt, setObj, hbs, Result.andThen]
              | [], hl1, _ => exact hl1.elim
              | _ :: _ :: _, hl1, _ => exact hl1.2.2.elim
            · cases hb
          · cases hb
      · cases hb
    · cases hb
  · cases hb
theorem bornAt_sound {ρ : Pm} (b : Nat) : ∀ {es : List (AV × AV)} {l : List MapEntry} {v : AV}, MR ρ es l → bornAt es (l.map (·.born)) b = some v → ∃ e, l.find? (fun e => e.born == b) = some e ∧ VR ρ v (.tuple #[e.key, e.val])
  | [], [], v, _, h => by cases h
  | (k, x) :: es, e :: l, v, ⟨h1, h2, h3⟩, h => by
    rw [List.map_cons, bornAt] at h
    rw [List.find?_cons]
    by_cases hb : e.born = b
    · rw [if_pos hb] at h
      cases h
      have : (e.born == b) = true := by simpa using hb
      rw [this]
      exact ⟨e, rfl, .tup (.cons h1 (.cons h2 .nil))⟩
    · rw [if_neg hb] at h
      have : (e.born == b) = false := by simpa using hb
      rw [this]
      exact bornAt_sound b h3 h
  | [], _ :: _, _, h, _ => h.elim
theorem evEntry_sound (hR : Rel K ρ h w) {x v : AV} {cx : Value} (hx : VR ρ x cx) (hb : evEntry h x = some v) :
    ∃ cv, (Instr.entry cx).run P w = .ok cv w ∧ VR ρ v cv := by
  unfold evEntry at hb
  split at hb
  · rename_i id
    split at hb
    · rename_i m since seen last hg
      generalize hcx : cx = cv at hx
      cases hx with
      | ptr hp =>
      rename_i p
      obtain ⟨q, hq, ⟨hq0, qm, hqm, hbs⟩, -⟩ := hR.obj id _ hg
      rw [hp] at hq
      cases hq
      split at hb
      · rename_i b es bs ck hl hgm
        obtain ⟨qm', ces, hq', hh, hmr, rfl, hst⟩ := hR.map hgm
        rw [hqm] at hq'; cases hq'
        split at hb
        · rename_i hck
          subst hck
          obtain ⟨e, he, hv⟩ := bornAt_sound b hmr hb
          refine ⟨_, ?_, hv⟩
          have hback : seen.toArray.back? = some b := by simpa using hl
          have hfind : ces.find? (fun e => e.born == b) = some e := by rw [← Array.find?_toList]; exact he
          unfold Instr.entry
          simp only [hq0, Nat.add_zero, Sem.run_bind, run_getObj' hbs (fun _ _ _ hc => by cases hc), hback, run_getObj' hh (fun _ _ _ hc => by cases hc), Result.andThen_ok, bne_self_eq_false, Bool.false_eq_true, if_false, hfind, Sem.run_pure]
        · cases hb
      · cases hb
    · cases hb
  · cases hb
theorem evNext_sound (hR : Rel K ρ h w) {ty : TypeId} {x : AV} {cx : Value} {r : ORes} (hx : VR ρ x cx) (hb : evNext h x = some r) :
    ∃ a h' ρ' cv w', r = .val a h' ∧ (Instr.next cx true ty).run P w = .ok cv w' ∧ Ext h.nx ρ h'.nx ρ' ∧ VR ρ' a cv ∧ Rel K ρ' h' w' := by
  unfold evNext at hb
  split at hb
  · rename_i id
    split at hb
    · rename_i s pos hg
      generalize hcx : cx = cv at hx
      cases hx with
      | ptr hp =>
      rename_i p
      obtain ⟨q, hq, ⟨hq0, bs, hbs, hbb⟩, -⟩ := hR.obj id _ hg
      rw [hp] at hq
      cases hq
      have hget : (bytesOf bs)[pos]? = (bs.data[pos]?).map UInt8.toNat := bytesOf_get
      have hsz : bs.size = bs.data.size := rfl
      split at hb
      · rename_i hn
        cases hb
        rw [← hbb, hget, Option.map_eq_none_iff] at hn
        have hns : ¬ pos < bs.size := by
          have := Array.getElem?_eq_none_iff.1 hn
          omega
        refine ⟨_, _, ρ, .tuple #[.bool false], w, rfl, ?_, Ext.refl _ _, .tup (.cons (.bool _) .nil), hR⟩
        unfold Instr.next
        simp only [hq0, Nat.add_zero, Sem.run_bind, run_getObj' hbs (fun _ _ _ hc => by cases hc), Result.andThen_ok, if_neg hns, Sem.run_pure]
      · rename_i c hn
        split at hb
        · rename_i hc
          cases hb
          rw [← hbb, hget, Option.map_eq_some_iff] at hn
          obtain ⟨u, hu, rfl⟩ := hn
          obtain ⟨hlt, hu2⟩ := Array.getElem?_eq_some_iff.1 hu
          have hlt' : pos < bs.size := hlt
          have he : (bs[pos]'hlt') = u := hu2
          have hR2 := hR.setObj (o' := .sit s (pos + 1)) (co' := .stringIter bs (pos + 1)) hg hp rfl rfl ⟨hq0, bs, rfl, hbb⟩
          refine ⟨_, _, ρ, .tuple #[.bool true, .int .i64 pos, .int .i32 u.toNat], _, rfl, ?_, Ext.refl _ _, .tup (.cons (.bool _) (.cons (.int _ _) (.cons (.int _ _) .nil))), hR2⟩
          unfold Instr.next
          simp only [hq0, Nat.add_zero, Sem.run_bind, run_getObj' hbs (fun _ _ _ hc => by cases hc), Result.andThen_ok, if_pos hlt', decode_ascii bs pos hlt' (by rw [he]; exact hc), he, setObj, Sem.run, Sem.run_pure, goInt, hbs, Result.andThen]
        · cases hb
    · cases hb
  · cases hb

theorem evOper_sound (hR : Rel K ρ h w) {E : Operand → AV} {ce : Operand → Value} (hE : ∀ x, VR ρ (E x) (ce x)) {o : Oper} {r : ORes} (hb : evOper P E o h = some r) :
    OpPost P K h ρ w ((execOp ce o).run P w) r := by
  obtain ⟨dst, op, ty, pos, after, guard⟩ := o
  unfold evOper at hb
  unfold execOp
  cases op <;> simp only at hb ⊢ <;> (first | (simp at hb; done) | skip)
  case move x =>
    simp only [Option.some.injEq] at hb; subst hb
    exact ⟨ρ, _, w, rfl, Ext.refl _ _, hE _, hR⟩
  case assign x =>
    simp only [Option.some.injEq] at hb; subst hb
    exact ⟨ρ, _, w, rfl, Ext.refl _ _, hE _, hR⟩
  case pick c a b =>
    have hc := hE c
    split at hb
    · rename_i t heq
      rw [heq] at hc
      generalize hcc : ce c = cc at hc
      cases hc
      simp only [Option.some.injEq] at hb; subst hb
      refine ⟨ρ, if t then ce a else ce b, w, by simp only [asBool, Sem.run_bind, Sem.run_pure, Result.andThen_ok], Ext.refl _ _, ?_, hR⟩
      cases t
      · exact hE _
      · exact hE _
    · simp at hb
  case alloc e => exact allocated_sound hR (allocA_sound (ty := ty) (dst := dst) (pos := pos) (after := after) (guard := guard) hE) hb
  case box e x => exact allocated_sound hR (allocA_sound (ty := ty) (dst := dst) (pos := pos) (after := after) (guard := guard) hE) hb
  case build t parts =>
    obtain ⟨p1, p2⟩ := parts_ok hE parts
    exact opPost_pure hR hb fun v hv => evBuild_sound p1 p2 hv
  case buildSlice t len parts => exact allocated_sound hR (allocA_sound (ty := ty) (dst := dst) (pos := pos) (after := after) (guard := guard) hE) hb
  case insert t m k v =>
    obtain ⟨h', w', rfl, r1, r2⟩ := evMapUpdate_sound hR (hE m) (hE k) (hE v) hb
    exact ⟨w', by simp only [Sem.run_bind, r1, Result.andThen_ok, Sem.run_pure], r2⟩
  case load t a =>
    exact opPost_pure hR hb fun v hv => evLoad_sound hR (hE a) hv
  case store t a x =>
    cases hs : evStore P h t (E a) (E x) with
    | none => simp [hs] at hb
    | some h' =>
      simp only [hs, Option.map_some, Option.some.injEq] at hb; subst hb
      obtain ⟨w', r1, r2⟩ := evStore_sound hR (hE a) (hE x) hs
      exact ⟨w', by simp only [Sem.run_bind, r1, Result.andThen_ok, Sem.run_pure], r2⟩
  case nilCheck x =>
    have hx := hE x
    split at hb
    · rename_i i o heq
      rw [heq] at hx
      generalize hcx : ce x = cx at hx
      simp only [Option.some.injEq] at hb; subst hb
      have hx' := hx
      cases hx
      exact ⟨ρ, _, w, rfl, Ext.refl _ _, hx', hR⟩
    · rename_i fn f c heq
      rw [heq] at hx
      generalize hcx : ce x = cx at hx
      split at hb
      · simp at hb
      · rename_i hnm
        simp only [Option.some.injEq] at hb; subst hb
        have hx' := hx
        cases hx
        refine ⟨ρ, _, w, ?_, Ext.refl _ _, hx', hR⟩
        cases fn <;> first | rfl | exact (hnm _ rfl).elim
    · rename_i i heq
      rw [heq] at hx
      generalize hcx : ce x = cx at hx
      simp only [Option.some.injEq] at hb; subst hb
      have hx' := hx
      cases hx
      exact ⟨ρ, _, w, rfl, Ext.refl _ _, hx', hR⟩
    · simp at hb
  case binOp op t x y _ =>
    exact opPost_pure hR hb fun v hv => binA_sound hR (hE x) (hE y) hv
  case unOp op _ x =>
    exact opPost_pure hR hb fun v hv => unA_sound (hE x) hv
  case convert src dst x =>
    exact evConvert_sound hR (hE x) hb
  case makeInterface t x =>
    split at hb
    · simp at hb
    · rename_i d hni hd
      simp only [Option.some.injEq] at hb; subst hb
      refine opPost_val ⟨ρ, .iface t (ce x), w, ?_, Ext.refl _ _, .iface (hE x), hR⟩
      unfold Instr.makeInterface
      rw [Sem.run_bind, run_underlying' hd]
      cases d <;> first | rfl | exact (hni _ rfl).elim
    · simp at hb
  case makeFunc fn first captured =>
    split at hb
    · rename_i hp
      simp only [Option.some.injEq] at hb; subst hb
      refine opPost_val ⟨ρ, .func fn (first.map ce) (captured.map ce), w, rfl, Ext.refl _ _, .func hp ?_ ?_, hR⟩
      · rw [Array.toList_map]; exact VRs.of_map hE _
      · rw [Array.toList_map]; exact VRs.of_map hE _
    · simp at hb
  case makeMap t r => exact allocated_sound hR (allocA_sound (ty := ty) (dst := dst) (pos := pos) (after := after) (guard := guard) hE) hb
  case makeSlice t l c => exact allocated_sound hR (allocA_sound (ty := ty) (dst := dst) (pos := pos) (after := after) (guard := guard) hE) hb
  case slice t x lo hi mx =>
    exact opPost_pure hR hb fun v hv => evSlice_sound hR (hE x) (OVR.of_map hE lo) (OVR.of_map hE hi) (OVR.of_map hE mx) hv
  case fieldAddr t x f =>
    have hx := hE x
    split at hb
    · rename_i fs id off hd heq
      rw [heq] at hx
      generalize hcx : ce x = cx at hx
      cases hx with
      | ptr hp =>
      rename_i p
      split at hb
      · rename_i fd hf
        split at hb
        · rename_i n hs
          simp only [Option.some.injEq] at hb; subst hb
          refine opPost_val ⟨ρ, .pointer (some ⟨p.b, p.o + off + fd.offset, none⟩), w, ?_, Ext.refl _ _, by rw [Nat.add_assoc]; exact .ptr hp, hR⟩
          unfold Instr.fieldAt
          simp only [Sem.run_bind, run_underlying' hd, Result.andThen_ok, hf, Instr.sureAddr, Sem.run_pure, fieldPlace, run_sizeOf' hs, Nat.succ_eq_add_one, Nat.add_eq_zero_iff, Nat.one_ne_zero, and_false, if_false, addr_add, Sem.run_pure]
        · simp at hb
      · simp at hb
    · simp at hb
  case field t x f =>
    have hx := hE x
    split at hb
    · rename_i fs cs hd heq
      rw [heq] at hx
      generalize hcx : ce x = cx at hx
      cases hx with
      | agg hcs =>
      split at hb
      · rename_i fd hf
        refine opPost_pure hR hb fun v hv => ?_
        obtain ⟨cv, r1, r2⟩ := partA_sound (P := P) (w := w) hcs hv
        refine ⟨cv, ?_, r2⟩
        unfold Instr.field
        simp only [Sem.run_bind, run_underlying' hd, Result.andThen_ok, hf, asAgg, Sem.run_pure, r1]
      · simp at hb
    · simp at hb
  case indexAddr t x i =>
    exact opPost_pure hR hb fun v hv => evIndexAddr_sound (hE x) (hE i) hv
  case index t x i =>
    exact opPost_pure hR hb fun v hv => evIndex_sound (hE x) (hE i) hv
  case lookup t x i ok =>
    exact opPost_pure hR hb fun v hv => evLookup_sound hR (hE x) (hE i) hv
  case mapUpdate t m k v =>
    obtain ⟨h', w', rfl, r1, r2⟩ := evMapUpdate_sound hR (hE m) (hE k) (hE v) hb
    exact ⟨w', by simp only [Sem.run_bind, r1, Result.andThen_ok, Sem.run_pure], r2⟩
  case typeAssert x xt asserted ok =>
    have hx := hE x
    split at hb
    · simp at hb
    · rename_i d t v hni hd heq
      rw [heq] at hx
      generalize hcx : ce x = cx at hx
      cases hx with
      | iface hv =>
      rename_i cv
      split at hb
      · rename_i ht
        subst ht
        simp only [Option.some.injEq] at hb; subst hb
        refine opPost_val ⟨ρ, if ok then .tuple #[cv, .bool true] else cv, w, ?_, Ext.refl _ _, ?_, hR⟩
        · unfold Instr.typeAssert
          rw [Sem.run_bind, run_underlying' hd]
          cases d <;> first | (simp only [Result.andThen_ok, if_true, Sem.run_pure]; done) | exact (hni _ rfl).elim
        · cases ok
          · exact hv
          · exact .tup (.cons hv (.cons (.bool _) .nil))
      · simp at hb
    · simp at hb
  case extract x i =>
    have hx := hE x
    split at hb
    · rename_i l heq
      rw [heq] at hx
      generalize hcx : ce x = cx at hx
      cases hx with
      | tup hl =>
      refine opPost_pure hR hb fun v hv => ?_
      obtain ⟨u, hu, rr⟩ := hl.get hv
      refine ⟨u, ?_, rr⟩
      rename_i ccs
      have : ccs[i]? = some u := by rw [← Array.getElem?_toList]; exact hu
      simp only [Instr.extract, this, Sem.run_pure]
    · simp at hb
  case call c =>
    exact evCall_sound hR hE hb
  case range t x => exact opPost_res (evRange_sound hR (hE x) hb)
  case next it b =>
    cases b with
    | true => exact opPost_res (evNext_sound hR (hE it) hb)
    | false => exact opPost_res (evNextMap_sound hR (hE it) hb)
  case entry it => exact opPost_pure hR hb fun v hv => evEntry_sound hR (hE it) hv
  case sliceToArrayPointer dst x =>
    have hx := hE x
    generalize hcx : ce x = cx at hx
    split at hb
    · rename_i n e id off len sz c hd heq
      rw [heq] at hx
      split at hb
      · rename_i hn
        cases hx with
        | sl hp hlc ha hxx hc =>
        rename_i p ad cap
        have hcap : ¬ cap = 0 := by omega
        have ha' : ad = ⟨p.b, p.o + off, none⟩ := ha.resolve_left hcap
        subst ha'
        cases hb
        refine opPost_pure (v? := some (.ptr id off)) hR rfl fun v hv => ?_
        cases hv
        refine ⟨.pointer (some ⟨p.b, p.o + off, none⟩), ?_, .ptr hp⟩
        have hlt : ¬ len < n := by omega
        simp only [Instr.arrayAt, Sem.run_bind, run_underlying' hd, Result.andThen_ok, if_neg hlt, Sem.run_pure]
      · cases hb
    · cases hb

end
end Go.Abs
