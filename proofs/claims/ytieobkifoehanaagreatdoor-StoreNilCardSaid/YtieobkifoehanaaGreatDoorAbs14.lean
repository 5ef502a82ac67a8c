/- The abstract layer, part 14: every operation. -/
import Derived.Test.YtieobkifoehanaaGreatDoorAbs13
namespace Go.Abs
open Go
set_option linter.unusedVariables false

section
variable {P : Program} {ρ : Pm} {w : World} {K : Kp} {h : AH}

theorem VRs.of_map {E : Operand → AV} {ce : Operand → Value} (hE : ∀ x, VR ρ (E x) (ce x)) : ∀ (l : List Operand), VRs ρ (l.map E) (l.map ce)
  | [] => .nil
  | x :: l => .cons (hE x) (VRs.of_map hE l)

theorem OVR.of_map {E : Operand → AV} {ce : Operand → Value} (hE : ∀ x, VR ρ (E x) (ce x)) : ∀ (o : Option Operand), OVR ρ (o.map E) (o.map ce)
  | none => trivial
  | some x => hE x

theorem parts_ok {E : Operand → AV} {ce : Operand → Value} (hE : ∀ x, VR ρ (E x) (ce x)) (parts : Array (Nat × Operand)) :
    (parts.toList.map fun (i, x) => (i, E x)).map (·.1) = ((parts.map fun (i, x) => (i, ce x)).toList).map (·.1) ∧
    VRs ρ ((parts.toList.map fun (i, x) => (i, E x)).map (·.2)) (((parts.map fun (i, x) => (i, ce x)).toList).map (·.2)) := by
  rw [Array.toList_map]
  generalize parts.toList = l
  constructor
  · simp [Function.comp_def]
  · induction l with
    | nil => exact .nil
    | cons a l ih => exact .cons (hE _) ih

theorem methodA_sound {t : TypeId} {name : String} {f : FuncId} {v : Value} (n : Nat) (hm : methodA P t name = some f) : (method (n + 1) t v name).run P w = .ok (f, v) w := by
  unfold methodA at hm
  cases hi : P.info? t with
  | none => simp [hi] at hm
  | some i =>
  cases hf : i.methods.find? (·.name == name) with
  | none => simp [hi, hf] at hm
  | some m =>
  simp only [hi, hf, Option.bind_eq_bind, Option.bind_some] at hm
  split at hm
  · simp at hm
  · rename_i hpath
    have hp : m.path.toList = [] := by
      have : m.path.isEmpty = true := by
        cases hh : m.path.isEmpty with
        | true => rfl
        | false => rw [hh] at hpath; simp at hpath
      simpa using this
    unfold method
    simp only [Sem.run_bind, run_typeInfo' hi, Result.andThen_ok, hf, hp, follow, Sem.run_pure]
    split at hm
    · rename_i g pr hfn
      cases hd : P.underlying t with
      | none => simp [hd] at hm
      | some d =>
        simp only [hd, Option.bind_some] at hm
        simp only [hfn, Sem.run_bind]
        unfold receiverAt
        simp only [Sem.run_bind, run_underlying' hd, Result.andThen_ok]
        split at hm
        · simp only [Option.some.injEq] at hm; subst hm
          rfl
        · simp at hm
        · simp at hm
        · rename_i hnp
          simp only [Option.some.injEq] at hm; subst hm
          cases d <;> first | rfl | exact (hnp _ rfl).elim
    · simp at hm

theorem exists_depth (P : Program) : ∃ n, P.types.size + Made.depth = n + 1 := by
  have h0 : 0 < Made.depth := by decide
  exact ⟨P.types.size + Made.depth - 1, by omega⟩

theorem evInvoke_sound {fn : Fn} {args captured : List AV} {cargs ccap : Array Value} {r : ORes} (ha : VRs ρ args cargs.toList) (hc : VRs ρ captured ccap.toList) (hb : evInvoke P fn args captured = some r) :
    OpPost P K h ρ w ((invoke (.fn fn ccap) cargs).run P w) r := by
  unfold evInvoke at hb
  split at hb
  · simp only [Option.some.injEq] at hb
    subst hb
    exact ⟨cargs ++ ccap, rfl, by rw [Array.toList_append]; exact ha.append hc⟩
  · rename_i t name
    cases args with
    | nil => simp at hb
    | cons x args =>
      generalize hcl : cargs.toList = cl at ha
      cases ha with
      | cons hx ha =>
      rename_i cx cl
      have hc0 : cargs[0]? = some cx := by rw [← Array.getElem?_toList, hcl]; rfl
      have hce : (cargs.extract 1 cargs.size).toList = cl := by
        have hsz : cargs.size = cl.length + 1 := by rw [← Array.length_toList, hcl]; rfl
        simp [hcl, hsz]
      simp only [List.head?_cons, List.tail_cons, Option.bind_eq_bind, Option.bind_some] at hb
      split at hb
      · simp at hb
      · cases hd : P.underlying t with
        | none => simp [hd] at hb
        | some d =>
          simp only [hd, Option.bind_some] at hb
          split at hb
          · simp at hb
          · rename_i hni
            cases hm : methodA P t name with
            | none => simp [hm] at hb
            | some f =>
              simp only [hm, Option.bind_some, Option.some.injEq] at hb
              subst hb
              refine ⟨#[cx] ++ cargs.extract 1 cargs.size, ?_, by rw [Array.toList_append, hce]; exact .cons hx ha⟩
              unfold invoke
              simp only [hc0, Sem.run_bind, run_underlying' hd, Result.andThen_ok]
              have hrecv : (match d with | .interface _ => cx | _ => Value.iface t cx) = .iface t cx := by
                cases d <;> first | rfl | exact (hni _ rfl).elim
              have hcm : (callMethod (.iface t cx) name (cargs.extract 1 cargs.size)).run P w = (callFunc f (#[cx] ++ cargs.extract 1 cargs.size)).run P w := by
                unfold callMethod
                simp only [Sem.run_bind, run_program, Result.andThen_ok]
                have hdep : ∃ n, P.types.size + Made.depth = n + 1 := exists_depth P
                obtain ⟨n, hn⟩ := hdep
                rw [hn, methodA_sound n hm]
                rfl
              cases d <;> first | exact hcm | exact (hni _ rfl).elim
  · rename_i name
    cases args with
    | nil => simp at hb
    | cons x args =>
      generalize hcl : cargs.toList = cl at ha
      cases ha with
      | cons hx ha =>
      rename_i cx cl
      have hc0 : cargs[0]? = some cx := by rw [← Array.getElem?_toList, hcl]; rfl
      have hce : (cargs.extract 1 cargs.size).toList = cl := by
        have hsz : cargs.size = cl.length + 1 := by rw [← Array.length_toList, hcl]; rfl
        simp [hcl, hsz]
      simp only [List.head?_cons, List.tail_cons, Option.bind_eq_bind, Option.bind_some] at hb
      split at hb
      · rename_i t v
        cases hx with
        | iface hv =>
        rename_i cv
        cases hm : methodA P t name with
        | none => simp [hm] at hb
        | some f =>
          simp only [hm, Option.bind_some, Option.some.injEq] at hb
          subst hb
          refine ⟨#[cv] ++ cargs.extract 1 cargs.size, ?_, by rw [Array.toList_append, hce]; exact .cons hv ha⟩
          unfold invoke
          simp only [hc0]
          unfold callMethod
          simp only [Sem.run_bind, run_program, Result.andThen_ok]
          have hdep : ∃ n, P.types.size + Made.depth = n + 1 := exists_depth P
          obtain ⟨n, hn⟩ := hdep
          rw [hn, methodA_sound n hm]
          rfl
      · simp at hb
  · simp at hb

theorem map2 {α β : Type} {f : α → β} {a : Array α} {x y : β} (hh : a.toList.map f = [x, y]) : a.map f = #[x, y] := by
  apply Array.toList_inj.1; simpa using hh
theorem map1 {α β : Type} {f : α → β} {a : Array α} {x : β} (hh : a.toList.map f = [x]) : a.map f = #[x] := by
  apply Array.toList_inj.1; simpa using hh

theorem evCall_sound (hR : Rel K ρ h w) {E : Operand → AV} {ce : Operand → Value} (hE : ∀ x, VR ρ (E x) (ce x)) {c : Call} {ty : TypeId} {r : ORes} (hb : evCall P h E c = some r) :
    OpPost P K h ρ w ((do let d ← resolve ce c ty; invoke d.target d.args : Sem Next).run P w) r := by
  have hargs := VRs.of_map hE c.args.toList
  unfold evCall at hb
  simp only at hb
  unfold resolve
  split at hb
  · rename_i b hcal
    simp only [hcal, Sem.run_bind, Sem.run_pure, Result.andThen_ok]
    generalize hl : c.args.toList.map E = l at hb hargs
    generalize hm : c.args.toList.map ce = m at hargs
    split at hb
    · cases hargs with
      | cons h1 t => cases t with
        | cons h2 t => cases t with
          | nil =>
          rw [map2 hm]
          exact opPost_res (evAppend_sound hR h1 h2 hb)
    · cases hargs with
      | cons h1 t => cases t with
        | cons h2 t => cases t with
          | nil =>
          rw [map2 hm]
          exact opPost_res (evCopy_sound hR h1 h2 hb)
    · cases hargs with
      | cons h1 t => cases t with
        | nil =>
        rw [map1 hm]
        exact opPost_pure hR hb fun v hv => evLen_sound hR h1 hv
    · cases hargs with
      | cons h1 t => cases t with
        | nil =>
        rw [map1 hm]
        exact opPost_pure hR hb fun v hv => evCap_sound h1 hv
    · cases hargs with
      | cons h1 t => cases t with
        | nil =>
        rw [map1 hm]
        exact opPost_res (evClear_sound hR h1 hb)
    · cases hargs with
      | cons h1 t => cases t with
        | cons h2 t => cases t with
          | nil =>
          rw [map2 hm]
          exact opPost_res (evDelete_sound hR h1 h2 hb)
    · have hm' : (c.args.map ce).toList = m := by rw [← hm]; simp
      exact opPost_pure hR hb fun v hv => maxA_sound (by rw [hm']; exact hargs) hv
    · have hm' : (c.args.map ce).toList = m := by rw [← hm]; simp
      exact opPost_pure hR hb fun v hv => minA_sound (by rw [hm']; exact hargs) hv
    · simp at hb
  · rename_i x name hcal
    simp only [hcal, Sem.run_bind, Sem.run_pure, Result.andThen_ok]
    exact evInvoke_sound (by rw [Array.toList_append, Array.toList_map]; exact .cons (hE _) hargs) .nil hb
  · rename_i f hcal
    simp only [hcal, Sem.run_bind]
    have hf := hE f
    split at hb
    · rename_i fn first captured heq
      rw [heq] at hf
      generalize hcf : ce f = cf at hf
      cases hf with
      | func hp hl hm =>
      simp only [Deferred.ofValue, Sem.run_pure, Result.andThen_ok]
      exact evInvoke_sound (by rw [Array.toList_append, Array.toList_map]; exact hl.append hargs) hm hb
    · rename_i id heq
      rw [heq] at hf
      generalize hcf : ce f = cf at hf
      cases hf with
      | yld hp =>
      simp only [Option.some.injEq] at hb
      subst hb
      simp only [Deferred.ofValue, Sem.run_pure, Result.andThen_ok]
      exact ⟨_, _, hp, rfl, by rw [Array.toList_append, Array.toList_map]; exact hargs⟩
    · simp at hb

/-- What an operation does that makes a block, whichever name it gets. -/
def AllocNext (P : Program) (ρ : Pm) (s : Sem Next) (ob : AO) (mk : Nat → AV) : Prop :=
  ob.own = true ∧ ∀ w : World, ∃ co lim cv, s.run P w = .ok (.value cv) { w with heap := w.heap.push co } ∧
    ∀ (ρ' : Pm) (id : Nat), ρ.le ρ' → ρ' id = some ⟨w.heap.size, 0, lim⟩ → OR ρ' ⟨w.heap.size, 0, lim⟩ ob (some co) ∧ VR ρ' (mk id) cv

theorem AllocOk.next {s : Sem Value} {ob : AO} {mk : Nat → AV} (hh : AllocOk P ρ s ob mk) : AllocNext P ρ (do pure (.value (← s))) ob mk :=
  ⟨hh.1, fun w => let ⟨co, lim, cv, r1, r2⟩ := hh.2 w; ⟨co, lim, cv, by simp only [Sem.run_bind, r1, Result.andThen_ok, Sem.run_pure], r2⟩⟩

theorem allocA_sound {E : Operand → AV} {ce : Operand → Value} (hE : ∀ x, VR ρ (E x) (ce x)) {op : Op} {ty : TypeId} {dst : Option Tmp} {pos : String} {after : Array Edge} {guard : Option (Nat × Bool)} {ob : AO} {mk : Nat → AV} (hb : allocA P E op = some (ob, mk)) :
    AllocNext P ρ (execOp ce { dst, op, type := ty, pos, after, guard }) ob mk := by
  cases op <;> simp only [allocA] at hb <;> (first | (simp at hb; done) | skip) <;> unfold execOp <;> simp only
  case alloc e =>
    refine AllocOk.next ?_
    cases hz : tzero P e with
    | none => simp [hz] at hb
    | some z =>
    cases hzc : cellsA (toAV z) with
    | none => simp [hz, hzc] at hb
    | some zc =>
    simp only [hz, hzc, Option.bind_eq_bind, Option.bind_some] at hb
    split at hb
    · simp at hb
    · rename_i hne
      simp only [Option.some.injEq, Prod.mk.injEq] at hb
      obtain ⟨rfl, rfl⟩ := hb
      have hzr := zero_cells (ρ := ρ) hzc
      have hlen : 0 < z.cells.size := by
        have := hzr.length
        cases zc with
        | nil => simp at hne
        | cons a l => simp at this; omega
      refine ⟨rfl, fun w => ⟨.cells z.cells e (0, 0), z.cells.size, .pointer (some ⟨w.heap.size, 0, none⟩), ?_, fun ρ' id hle' hid => ⟨newOR hle' hzr.toCells (by rw [hzr.length]; simp) (fun _ => hlen), .ptr hid⟩⟩⟩
      simp only [Instr.alloc, Sem.run_bind, run_zeroValue' hz, Result.andThen_ok, newVar, newRow, run_newObj, Sem.run_pure]
  case box e x =>
    refine AllocOk.next ?_
    have hx := hE x
    cases hzc : cellsA (E x) with
    | none => simp [hzc] at hb
    | some zc =>
    simp only [hzc, Option.bind_eq_bind, Option.bind_some] at hb
    split at hb
    · simp at hb
    · rename_i hne
      simp only [Option.some.injEq, Prod.mk.injEq] at hb
      obtain ⟨rfl, rfl⟩ := hb
      have hzr := cellsA_sound hx hzc
      have hlen : 0 < (ce x).cells.size := by
        have := hzr.length
        cases zc with
        | nil => simp at hne
        | cons a l => simp at this; omega
      refine ⟨rfl, fun w => ⟨.cells (ce x).cells e (0, 0), (ce x).cells.size, .pointer (some ⟨w.heap.size, 0, none⟩), ?_, fun ρ' id hle' hid => ⟨newOR hle' hzr.toCells (by rw [hzr.length]; simp) (fun _ => hlen), .ptr hid⟩⟩⟩
      simp only [Instr.box, Sem.run_bind, Result.andThen_ok, newVar, newRow, run_newObj, Sem.run_pure]
  case buildSlice t len parts =>
    obtain ⟨p1, p2⟩ := parts_ok hE parts
    exact (bsA_sound p1 p2 hb).next
  case makeSlice t l c => exact (msA_sound (hE l) (hE c) hb).next
  case makeMap t r =>
    refine AllocOk.next ?_
    have key : ∀ w : World, ∃ co lim cv, ((do pure (.map (some (← newObj (.map #[] 0)))) : Sem Value)).run P w = .ok cv { w with heap := w.heap.push co } ∧
        ∀ (ρ' : Pm) (id : Nat), ρ.le ρ' → ρ' id = some ⟨w.heap.size, 0, lim⟩ → OR ρ' ⟨w.heap.size, 0, lim⟩ (.map []) (some co) ∧ VR ρ' (.map id) cv := fun w =>
      ⟨.map #[] 0, 0, .map (some w.heap.size), rfl, fun ρ' id hle' hid => ⟨⟨#[], 0, rfl, trivial, MapKept.stamped_empty 0⟩, .map hid⟩⟩
    cases r with
    | none =>
      simp only [Option.map_none] at hb
      have hb' : some ((.map [], AV.map) : AO × (Nat → AV)) = some (ob, mk) := by
        cases hd : P.underlying t <;> simpa [hd] using hb
      simp only [Option.some.injEq, Prod.mk.injEq] at hb'
      obtain ⟨rfl, rfl⟩ := hb'
      exact ⟨rfl, fun w => key w⟩
    | some x =>
      have hx := hE x
      simp only [Option.map_some] at hb
      split at hb
      · rename_i hn; cases hn
      · rename_i kt et k n hd heq
        simp only [Option.some.injEq] at heq
        rw [heq] at hx
        generalize hcx : ce x = cx at hx
        cases hx
        simp only [Option.some.injEq, Prod.mk.injEq] at hb
        obtain ⟨rfl, rfl⟩ := hb
        refine ⟨rfl, fun w => ?_⟩
        obtain ⟨co, lim, cv, r1, r2⟩ := key w
        refine ⟨co, lim, cv, ?_, r2⟩
        unfold Instr.makeMap
        simp only [Option.map_some, hcx, Sem.run_bind, run_underlying' hd, Result.andThen_ok, asInt, asIntOf, Sem.run_pure] at r1 ⊢
        exact r1
      · simp at hb

theorem allocated_sound (hR : Rel K ρ h w) {s : Sem Next} {q : Option (AO × (Nat → AV))} {r : ORes} (hh : ∀ {ob mk}, q = some (ob, mk) → AllocNext P ρ s ob mk) (hb : allocated h q = some r) : OpPost P K h ρ w (s.run P w) r := by
  unfold allocated at hb
  split at hb
  · rename_i ob mk
    simp only [Option.some.injEq] at hb
    subst hb
    obtain ⟨hown, hw⟩ := hh rfl
    obtain ⟨co, lim, cv, r1, r2⟩ := hw w
    have hle : ρ.le (ρ.put h.nx ⟨w.heap.size, 0, lim⟩) := Pm.le_put (hR.fresh _ (Nat.le_refl _))
    obtain ⟨r3, r4⟩ := r2 _ h.nx hle (Pm.put_self _ _ _)
    obtain ⟨h1, h2⟩ := hR.push hown r3
    exact ⟨_, cv, _, r1, h2, r4, h1⟩
  · simp at hb

theorem evOper_sound (hR : Rel K ρ h w) {E : Operand → AV} {ce : Operand → Value} (hE : ∀ x, VR ρ (E x) (ce x)) {o : Oper} {r : ORes} (hb : evOper P E o h = some r) :
    OpPost P K h ρ w ((execOp ce o).run P w) r := by
  obtain ⟨dst, op, ty, pos, after, guard⟩ := o
  unfold evOper at hb
  unfold execOp
  cases op <;> simp only at hb ⊢ <;> (first | (simp at hb; done) | skip)
  case move x =>
    simp only [Option.some.injEq] at hb; subst hb
    exact ⟨ρ, _, w, rfl, Ext.refl _ _, hE _, hR⟩
  case assign x =>
    simp only [Option.some.injEq] at hb; subst hb
    exact ⟨ρ, _, w, rfl, Ext.refl _ _, hE _, hR⟩
  case pick c a b =>
    have hc := hE c
    split at hb
    · rename_i t heq
      rw [heq] at hc
      generalize hcc : ce c = cc at hc
      cases hc
      simp only [Option.some.injEq] at hb; subst hb
      refine ⟨ρ, if t then ce a else ce b, w, by simp only [asBool, Sem.run_bind, Sem.run_pure, Result.andThen_ok], Ext.refl _ _, ?_, hR⟩
      cases t
      · exact hE _
      · exact hE _
    · simp at hb
  case alloc e => exact allocated_sound hR (allocA_sound (ty := ty) (dst := dst) (pos := pos) (after := after) (guard := guard) hE) hb
  case box e x => exact allocated_sound hR (allocA_sound (ty := ty) (dst := dst) (pos := pos) (after := after) (guard := guard) hE) hb
  case build t parts =>
    obtain ⟨p1, p2⟩ := parts_ok hE parts
    exact opPost_pure hR hb fun v hv => evBuild_sound p1 p2 hv
  case buildSlice t len parts => exact allocated_sound hR (allocA_sound (ty := ty) (dst := dst) (pos := pos) (after := after) (guard := guard) hE) hb
  case insert t m k v =>
    obtain ⟨h', w', rfl, r1, r2⟩ := evMapUpdate_sound hR (hE m) (hE k) (hE v) hb
    exact ⟨w', by simp only [Sem.run_bind, r1, Result.andThen_ok, Sem.run_pure], r2⟩
  case load t a =>
    exact opPost_pure hR hb fun v hv => evLoad_sound hR (hE a) hv
  case store t a x =>
    cases hs : evStore P h t (E a) (E x) with
    | none => simp [hs] at hb
    | some h' =>
      simp only [hs, Option.map_some, Option.some.injEq] at hb; subst hb
      obtain ⟨w', r1, r2⟩ := evStore_sound hR (hE a) (hE x) hs
      exact ⟨w', by simp only [Sem.run_bind, r1, Result.andThen_ok, Sem.run_pure], r2⟩
  case nilCheck x =>
    have hx := hE x
    split at hb
    · rename_i i o heq
      rw [heq] at hx
      generalize hcx : ce x = cx at hx
      simp only [Option.some.injEq] at hb; subst hb
      have hx' := hx
      cases hx
      exact ⟨ρ, _, w, rfl, Ext.refl _ _, hx', hR⟩
    · rename_i fn f c heq
      rw [heq] at hx
      generalize hcx : ce x = cx at hx
      split at hb
      · simp at hb
      · rename_i hnm
        simp only [Option.some.injEq] at hb; subst hb
        have hx' := hx
        cases hx
        refine ⟨ρ, _, w, ?_, Ext.refl _ _, hx', hR⟩
        cases fn <;> first | rfl | exact (hnm _ rfl).elim
    · rename_i i heq
      rw [heq] at hx
      generalize hcx : ce x = cx at hx
      simp only [Option.some.injEq] at hb; subst hb
      have hx' := hx
      cases hx
      exact ⟨ρ, _, w, rfl, Ext.refl _ _, hx', hR⟩
    · simp at hb
  case binOp op t x y _ =>
    exact opPost_pure hR hb fun v hv => binA_sound hR (hE x) (hE y) hv
  case unOp op _ x =>
    exact opPost_pure hR hb fun v hv => unA_sound (hE x) hv
  case convert src dst x =>
    exact evConvert_sound hR (hE x) hb
  case makeInterface t x =>
    split at hb
    · simp at hb
    · rename_i d hni hd
      simp only [Option.some.injEq] at hb; subst hb
      refine opPost_val ⟨ρ, .iface t (ce x), w, ?_, Ext.refl _ _, .iface (hE x), hR⟩
      unfold Instr.makeInterface
      rw [Sem.run_bind, run_underlying' hd]
      cases d <;> first | rfl | exact (hni _ rfl).elim
    · simp at hb
  case makeFunc fn first captured =>
    split at hb
    · rename_i hp
      simp only [Option.some.injEq] at hb; subst hb
      refine opPost_val ⟨ρ, .func fn (first.map ce) (captured.map ce), w, rfl, Ext.refl _ _, .func hp ?_ ?_, hR⟩
      · rw [Array.toList_map]; exact VRs.of_map hE _
      · rw [Array.toList_map]; exact VRs.of_map hE _
    · simp at hb
  case makeMap t r => exact allocated_sound hR (allocA_sound (ty := ty) (dst := dst) (pos := pos) (after := after) (guard := guard) hE) hb
  case makeSlice t l c => exact allocated_sound hR (allocA_sound (ty := ty) (dst := dst) (pos := pos) (after := after) (guard := guard) hE) hb
  case slice t x lo hi mx =>
    exact opPost_pure hR hb fun v hv => evSlice_sound hR (hE x) (OVR.of_map hE lo) (OVR.of_map hE hi) (OVR.of_map hE mx) hv
  case fieldAddr t x f =>
    have hx := hE x
    split at hb
    · rename_i fs id off hd heq
      rw [heq] at hx
      generalize hcx : ce x = cx at hx
      cases hx with
      | ptr hp =>
      rename_i p
      split at hb
      · rename_i fd hf
        split at hb
        · rename_i n hs
          simp only [Option.some.injEq] at hb; subst hb
          refine opPost_val ⟨ρ, .pointer (some ⟨p.b, p.o + off + fd.offset, none⟩), w, ?_, Ext.refl _ _, by rw [Nat.add_assoc]; exact .ptr hp, hR⟩
          unfold Instr.fieldAt
          simp only [Sem.run_bind, run_underlying' hd, Result.andThen_ok, hf, Instr.sureAddr, Sem.run_pure, fieldPlace, run_sizeOf' hs, Nat.succ_eq_add_one, Nat.add_eq_zero_iff, Nat.one_ne_zero, and_false, if_false, addr_add, Sem.run_pure]
        · simp at hb
      · simp at hb
    · simp at hb
  case field t x f =>
    have hx := hE x
    split at hb
    · rename_i fs cs hd heq
      rw [heq] at hx
      generalize hcx : ce x = cx at hx
      cases hx with
      | agg hcs =>
      split at hb
      · rename_i fd hf
        refine opPost_pure hR hb fun v hv => ?_
        obtain ⟨cv, r1, r2⟩ := partA_sound (P := P) (w := w) hcs hv
        refine ⟨cv, ?_, r2⟩
        unfold Instr.field
        simp only [Sem.run_bind, run_underlying' hd, Result.andThen_ok, hf, asAgg, Sem.run_pure, r1]
      · simp at hb
    · simp at hb
  case indexAddr t x i =>
    exact opPost_pure hR hb fun v hv => evIndexAddr_sound (hE x) (hE i) hv
  case index t x i =>
    exact opPost_pure hR hb fun v hv => evIndex_sound (hE x) (hE i) hv
  case lookup t x i ok =>
    exact opPost_pure hR hb fun v hv => evLookup_sound hR (hE x) (hE i) hv
  case mapUpdate t m k v =>
    obtain ⟨h', w', rfl, r1, r2⟩ := evMapUpdate_sound hR (hE m) (hE k) (hE v) hb
    exact ⟨w', by simp only [Sem.run_bind, r1, Result.andThen_ok, Sem.run_pure], r2⟩
  case typeAssert x xt asserted ok =>
    have hx := hE x
    split at hb
    · simp at hb
    · rename_i d t v hni hd heq
      rw [heq] at hx
      generalize hcx : ce x = cx at hx
      cases hx with
      | iface hv =>
      rename_i cv
      split at hb
      · rename_i ht
        subst ht
        simp only [Option.some.injEq] at hb; subst hb
        refine opPost_val ⟨ρ, if ok then .tuple #[cv, .bool true] else cv, w, ?_, Ext.refl _ _, ?_, hR⟩
        · unfold Instr.typeAssert
          rw [Sem.run_bind, run_underlying' hd]
          cases d <;> first | (simp only [Result.andThen_ok, if_true, Sem.run_pure]; done) | exact (hni _ rfl).elim
        · cases ok
          · exact hv
          · exact .tup (.cons hv (.cons (.bool _) .nil))
      · simp at hb
    · simp at hb
  case extract x i =>
    have hx := hE x
    split at hb
    · rename_i l heq
      rw [heq] at hx
      generalize hcx : ce x = cx at hx
      cases hx with
      | tup hl =>
      refine opPost_pure hR hb fun v hv => ?_
      obtain ⟨u, hu, rr⟩ := hl.get hv
      refine ⟨u, ?_, rr⟩
      rename_i ccs
      have : ccs[i]? = some u := by rw [← Array.getElem?_toList]; exact hu
      simp only [Instr.extract, this, Sem.run_pure]
    · simp at hb
  case call c =>
    exact evCall_sound hR hE hb

end
end Go.Abs
