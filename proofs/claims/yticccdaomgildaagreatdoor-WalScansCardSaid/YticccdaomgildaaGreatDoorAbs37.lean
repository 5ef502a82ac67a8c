/- The abstract layer, part 37: functions that only read, as summaries, each answer by a run of its own. -/
import Derived.Test.YticccdaomgildaaGreatDoorAbs36
namespace Go.Abs
open Go
set_option linter.unusedVariables false

section
variable {P : Program} {S : Sums}

/-- Values without places. -/
def flatA : AV → Bool
  | .agg l => l.all scalarA
  | .tup l => l.all scalarA
  | a => scalarA a

theorem vr_scalar {ρ ρ' : Pm} {a : AV} {v : Value} (hs : scalarA a = true) (h : VR ρ a v) : VR ρ' a v := by
  cases h <;> first | (cases hs; done) | constructor
theorem vrs_scalar {ρ ρ' : Pm} : ∀ {l : List AV} {m : List Value}, l.all scalarA = true → VRs ρ l m → VRs ρ' l m
  | _, _, _, .nil => .nil
  | _, _, hs, .cons h t => by
    rw [List.all_cons, Bool.and_eq_true] at hs
    exact .cons (vr_scalar hs.1 h) (vrs_scalar hs.2 t)
theorem vr_flat {ρ ρ' : Pm} {a : AV} {v : Value} (hs : flatA a = true) (h : VR ρ a v) : VR ρ' a v := by
  cases h with
  | agg h => exact .agg (vrs_scalar hs h)
  | tup h => exact .tup (vrs_scalar hs h)
  | _ => first | (cases hs; done) | constructor

/-- A run over what nobody may write is a summary. -/
theorem sumKept_ok (hS : SumsOK P S) {f : FuncId} {k : Nat} {v : AV} {args0 : List AV} {h0 h0' : AH} {ρ0 : Pm} (hc : (evN P S k).call f args0 h0 = some (v, h0')) (hv : flatA v = true)
    {K : Kp} {ρ : Pm} {h : AH} {w : World} {cargs : Array Value} (hR0 : Rel (keptAll w) ρ0 h0 w) (ha : VRs ρ0 args0 cargs.toList) (hR : Rel K ρ h w) : CallRes P f cargs w (CallPost K h ρ v h) := by
  refine ((evN_sound hS k).call (keptAll w) ρ0 h0 w f args0 cargs v h0' hR0 ha hc).mono fun cv w' hp => ?_
  obtain ⟨ρ', _, hvr, hR'⟩ := hp
  refine ⟨ρ, Ext.refl _ _, vr_flat hv hvr, ⟨hR'.os.trans hR.os, hR'.tape.trans hR.tape, hR'.output.trans hR.output, Nat.le_trans hR.size hR'.size, fun b o hb => hR'.keep b o (hR.keep b o hb), hR.fresh, fun id o hg => ?_, hR.inj⟩⟩
  obtain ⟨p, h1, h2, h3⟩ := hR.obj id o hg
  refine ⟨p, h1, ?_, h3⟩
  cases hb : w.heap[p.b]? with
  | some x => rw [hR'.keep p.b x hb, ← hb]; exact h2
  | none =>
    rw [hb] at h2
    exact (or_none h2).elim

/-- A function of numbers and texts. -/
theorem sumScalar_ok (hS : SumsOK P S) {f : FuncId} {v : AV} {args : List AV} (hs : args.all scalarA = true) (hc : RnC P S f args { tr := .nil, nx := 0 } fun u _ => u = v) (hv : flatA v = true)
    {K : Kp} {ρ : Pm} {h : AH} {w : World} {cargs : Array Value} (ha : VRs ρ args cargs.toList) (hR : Rel K ρ h w) : CallRes P f cargs w (CallPost K h ρ v h) := by
  obtain ⟨k, u, h', h1, rfl⟩ := hc
  exact sumKept_ok hS h1 hv (rel_empty w) (vrs_scalar hs ha) hR

/-! ### One block -/
noncomputable def oneH (l : List AV) : AH := { tr := Tr.nil.set 0 (some (.cells l false false)), nx := 1 }
def oneP (q : Pl) : Pm := fun j => if j = 0 then some q else none

theorem rel_one {K : Kp} {ρ : Pm} {h : AH} {w : World} (hR : Rel K ρ h w) {id off n : Nat} {l : List AV} (hc : cellsAt h id off n = some l) (hs : l.all scalarA = true) :
    ∃ p, ρ id = some p ∧ p.o + off + n ≤ p.lim ∧ Rel (keptAll w) (oneP ⟨p.b, p.o + off, p.lim⟩) (oneH l) w := by
  unfold cellsAt at hc
  split at hc
  · rename_i cs own text hg
    split at hc
    · rename_i hle
      cases hc
      obtain ⟨p, hp, hor, -, -⟩ := hR.obj id _ hg
      obtain ⟨c, e, fr, h1, h2, h3, h4, -⟩ := hor
      have hlen : ((cs.drop off).take n).length = n := by rw [List.length_take, List.length_drop]; omega
      refine ⟨p, hp, by omega, rfl, rfl, rfl, Nat.le_refl _, fun _ _ h => h, fun id hid => ?_, fun i o hi => ?_, fun i j oi oj pi pj hi hj ho => ?_⟩
      · have : (1 : Nat) ≤ id := hid
        exact if_neg (by omega)
      · have hi' : (Tr.nil.set 0 (some (AO.cells ((cs.drop off).take n) false false))).get i = some o := hi
        rw [Tr.get_set] at hi'
        by_cases h0 : i = 0
        · rw [if_pos h0] at hi'
          cases hi'
          refine ⟨_, if_pos h0, ⟨c, e, fr, h1, ?_, ?_, (fun k a hk => ?_), (fun h => by cases h), (fun h => by cases h)⟩, (fun h => by cases h), (fun _ => ?_)⟩
          · show p.lim ≤ c.size
            cases own with
            | true => have h2' : c.size = p.lim := h2; omega
            | false => exact h2
          · show p.o + off + ((cs.drop off).take n).length ≤ p.lim
            rw [hlen]; omega
          · have hkl := (List.getElem?_eq_some_iff.1 hk).1
            rw [hlen] at hkl
            have hk2 : cs[off + k]? = some a := by
              rw [List.getElem?_take_of_lt hkl, List.getElem?_drop] at hk
              exact hk
            obtain ⟨u, hu, hr⟩ := h4 _ a hk2
            refine ⟨u, by show c[p.o + off + k]? = some u; rw [Nat.add_assoc]; exact hu, vr_scalar ?_ hr⟩
            rw [List.all_eq_true] at hs
            exact hs a (List.mem_of_getElem? hk)
          · have hb := (Array.getElem?_eq_some_iff.1 h1).1
            simp [keptAll, hb]
        · rw [if_neg h0, Tr.get_nil] at hi'
          cases hi'
      · have hi' : (Tr.nil.set 0 (some (AO.cells ((cs.drop off).take n) false false))).get i = some oi := hi
        rw [Tr.get_set] at hi'
        by_cases h0 : i = 0
        · rw [if_pos h0] at hi'
          cases hi'
          cases ho
        · rw [if_neg h0, Tr.get_nil] at hi'
          cases hi'
    · cases hc
  · cases hc

/-- A function of a slice of numbers, of one cell each. -/
theorem sumSlice_ok (hS : SumsOK P S) {f : FuncId} {k : Nat} {v : AV} {l : List AV} {h0' : AH} (hc : (evN P S k).call f [.sl 0 0 l.length 1 none] (oneH l) = some (v, h0')) (hv : flatA v = true) (hs : l.all scalarA = true)
    {K : Kp} {ρ : Pm} {h : AH} {w : World} {cargs : Array Value} {id off : Nat} {c : Option Nat} (hl : cellsAt h id off l.length = some l) (ha : VRs ρ [.sl id off l.length 1 c] cargs.toList) (hR : Rel K ρ h w) : CallRes P f cargs w (CallPost K h ρ v h) := by
  obtain ⟨p, hp, hle, hR0⟩ := rel_one hR hl hs
  obtain ⟨cx, rfl, h1⟩ := args1 ha
  refine sumKept_ok hS hc hv hR0 (.cons ?_ .nil) hR
  cases h1 with
  | sl h hl2 ha2 hx hc2 =>
    rw [hp] at h
    cases h
    exact .sl (p := ⟨p.b, p.o + off, p.lim⟩) (if_pos rfl) hl2 ha2 (by simpa using hx) (fun n h => by cases h)

/-- A function of a closure that holds the place of a number. -/
theorem sumCapt_ok (hS : SumsOK P S) {f g : FuncId} {k : Nat} {v a : AV} {h0' : AH} (hc : (evN P S k).call f [.func (.func g) [] [.ptr 0 0]] (oneH [a]) = some (v, h0')) (hv : flatA v = true) (hs : scalarA a = true)
    {K : Kp} {ρ : Pm} {h : AH} {w : World} {cargs : Array Value} {id off : Nat} (hl : cellsAt h id off 1 = some [a]) (ha : VRs ρ [.func (.func g) [] [.ptr id off]] cargs.toList) (hR : Rel K ρ h w) : CallRes P f cargs w (CallPost K h ρ v h) := by
  obtain ⟨p, hp, hle, hR0⟩ := rel_one hR hl (by simp [hs])
  obtain ⟨cx, rfl, h1⟩ := args1 ha
  refine sumKept_ok hS hc hv hR0 (.cons ?_ .nil) hR
  cases h1 with
  | func hpl hl2 hm =>
    refine .func hpl ?_ ?_
    · generalize hz : Array.toList _ = z at hl2 ⊢
      cases hl2
      exact .nil
    · generalize hz : Array.toList _ = z at hm ⊢
      cases hm with
      | cons h1 t =>
        cases t
        refine .cons ?_ .nil
        cases h1 with
        | ptr h =>
          rw [hp] at h
          cases h
          exact .ptr (p := ⟨p.b, p.o + off, p.lim⟩) (if_pos rfl)

/-! ### Tables -/
/-- Two summaries, the first one asked first. -/
def orS (A B : Sums) : Sums := fun f args h =>
  match A f args h with
  | some r => some r
  | none => B f args h
theorem orS_ok {A B : Sums} (hA : SumsOK P A) (hB : SumsOK P B) : SumsOK P (orS A B) := by
  intro K ρ h w f args cargs v h' hR hv hs
  unfold orS at hs
  split at hs
  · rename_i r hr
    cases hs
    exact hA K ρ h w f args cargs v h' hR hv hr
  · exact hB K ρ h w f args cargs v h' hR hv hs


noncomputable def runsTo (P : Program) (S : Sums) (k : Nat) (f : FuncId) (args : List AV) (h : AH) (v : AV) : Bool := @Option.rec (AV × AH) (fun _ => Bool) false (fun r => sameAV 3 r.1 v) ((fN P S k).call f args h)
theorem run_of {k : Nat} {f : FuncId} {args : List AV} {h : AH} {v : AV} (hr : runsTo P S k f args h v = true) : ∃ h', (evN P S k).call f args h = some (v, h') := by
  unfold runsTo at hr
  rw [← fN_eq]
  cases hc : (fN P S k).call f args h with
  | none => rw [hc] at hr; cases hr
  | some r =>
    obtain ⟨u, h'⟩ := r
    rw [hc] at hr
    have := sameAV_eq 3 u v hr
    subst this
    exact ⟨h', rfl⟩

/-- A function without arguments. -/
def sumConst (g : FuncId) (v : AV) : Sums := fun f args h => cond (Nat.beq f g) (match args with | [] => some (v, h) | _ => none) none
theorem sumConst_ok (hS : SumsOK P S) {k : Nat} {g : FuncId} {v : AV} (hr : runsTo P S k g [] { tr := .nil, nx := 0 } v = true) (hv : flatA v = true) : SumsOK P (sumConst g v) := by
  intro K ρ h w f args cargs u h' hR ha hs
  unfold sumConst at hs
  rw [nat_beq_dec] at hs
  by_cases hf : f = g
  · subst hf
    simp only [decide_true, cond_true] at hs
    split at hs
    · cases hs
      obtain ⟨h0', hc⟩ := run_of hr
      exact sumKept_ok hS hc hv (rel_empty w) (vrs_scalar (by rfl) ha) hR
    · cases hs
  · simp only [hf, decide_false, cond_false] at hs
    cases hs

def lookT : List (List Nat × AV) → List Nat → Option AV
  | [], _ => none
  | e :: r, key => cond (eqL e.1 key) (some e.2) (lookT r key)
theorem eqL_same : ∀ {l m : List Nat}, eqL l m = true → l = m
  | [], [], _ => rfl
  | a :: l, b :: m, h => by
    simp only [eqL, Bool.and_eq_true] at h
    rw [Nat.eq_of_beq_eq_true h.1, eqL_same h.2]
  | [], _ :: _, h => by cases h
  | _ :: _, [], h => by cases h
theorem lookT_mem : ∀ {t : List (List Nat × AV)} {key : List Nat} {v : AV}, lookT t key = some v → (key, v) ∈ t
  | [], _, _, h => by cases h
  | e :: r, key, v, h => by
    unfold lookT at h
    cases he : eqL e.1 key with
    | true =>
      rw [he] at h
      cases h
      rw [← eqL_same he]
      exact List.mem_cons_self ..
    | false =>
      rw [he] at h
      exact List.mem_cons_of_mem _ (lookT_mem h)

/-- A number and a truth value. -/
noncomputable def okNB (P : Program) (S : Sums) (k : Nat) (g : FuncId) (e : List Nat × AV) : Bool :=
  match e.1 with
  | [p, b] => runsTo P S k g [.int .u64 (.ofNat p), .bool (Nat.beq b 1)] { tr := .nil, nx := 0 } e.2 && flatA e.2
  | _ => false
def tableNB (g : FuncId) (t : List (List Nat × AV)) : Sums := fun f args h => cond (Nat.beq f g) (match args with
  | [.int .u64 (.ofNat p), .bool b] => (lookT t [p, cond b 1 0]).map fun v => (v, h)
  | _ => none) none
theorem tableNB_ok (hS : SumsOK P S) {k : Nat} {g : FuncId} {t : List (List Nat × AV)} (ht : t.all (okNB P S k g) = true) : SumsOK P (tableNB g t) := by
  intro K ρ h w f args cargs u h' hR ha hs
  unfold tableNB at hs
  rw [nat_beq_dec] at hs
  by_cases hf : f = g
  · subst hf
    simp only [decide_true, cond_true] at hs
    split at hs
    · rename_i p b
      rw [Option.map_eq_some_iff] at hs
      obtain ⟨v, h1, h2⟩ := hs
      cases h2
      rw [List.all_eq_true] at ht
      have h3 := ht _ (lookT_mem h1)
      simp only [okNB, Bool.and_eq_true] at h3
      obtain ⟨h0', hc⟩ := run_of h3.1
      have hb : Nat.beq (cond b 1 0) 1 = b := by cases b <;> rfl
      rw [hb] at hc
      exact sumKept_ok hS hc h3.2 (rel_empty w) (vrs_scalar (by rfl) ha) hR
    · cases hs
  · simp only [hf, decide_false, cond_false] at hs
    cases hs

/-- A closure that holds a number's place. -/
noncomputable def okCapt (P : Program) (S : Sums) (k : Nat) (g g' : FuncId) (e : List Nat × AV) : Bool :=
  match e.1 with
  | [p] => runsTo P S k g [.func (.func g') [] [.ptr 0 0]] (oneH [.int .u64 (.ofNat p)]) e.2 && flatA e.2
  | _ => false
noncomputable def tableCapt (g g' : FuncId) (t : List (List Nat × AV)) : Sums := fun f args h => cond (Nat.beq f g) (match args with
  | [.func (.func q) [] [.ptr id off]] => cond (Nat.beq q g') (match cellsAt h id off 1 with
    | some [.int .u64 (.ofNat p)] => (lookT t [p]).map fun v => (v, h)
    | _ => none) none
  | _ => none) none
theorem tableCapt_ok (hS : SumsOK P S) {k : Nat} {g g' : FuncId} {t : List (List Nat × AV)} (ht : t.all (okCapt P S k g g') = true) : SumsOK P (tableCapt g g' t) := by
  intro K ρ h w f args cargs u h' hR ha hs
  unfold tableCapt at hs
  rw [nat_beq_dec] at hs
  by_cases hf : f = g
  · subst hf
    simp only [decide_true, cond_true] at hs
    split at hs
    · rename_i q id off
      rw [nat_beq_dec] at hs
      by_cases hq : q = g'
      · subst hq
        simp only [decide_true, cond_true] at hs
        split at hs
        · rename_i p hl
          rw [Option.map_eq_some_iff] at hs
          obtain ⟨v, h1, h2⟩ := hs
          cases h2
          rw [List.all_eq_true] at ht
          have h3 := ht _ (lookT_mem h1)
          simp only [okCapt, Bool.and_eq_true] at h3
          obtain ⟨h0', hc⟩ := run_of h3.1
          exact sumCapt_ok hS hc h3.2 rfl hl ha hR
        · cases hs
      · simp only [hq, decide_false, cond_false] at hs
        cases hs
    · cases hs
  · simp only [hf, decide_false, cond_false] at hs
    cases hs

/-- A row of bytes. -/
theorem bytesA_map : ∀ {l : List AV} {bs : List Nat}, bytesA l = some bs → l = bs.map fun b => AV.int .u8 (.ofNat b)
  | [], bs, h => by cases h; rfl
  | a :: l, bs, h => by
    unfold bytesA at h
    split at h
    · rename_i h0; cases h0
    · rename_i n r h0
      cases h0
      split at h
      · rename_i m
        split at h
        · rw [Option.map_eq_some_iff] at h
          obtain ⟨bs', h1, rfl⟩ := h
          rw [bytesA_map h1]
          rfl
        · cases h
      · cases h
    · cases h
noncomputable def okBytes (P : Program) (S : Sums) (k : Nat) (g : FuncId) (e : List Nat × AV) : Bool :=
  runsTo P S k g [.sl 0 0 e.1.length 1 none] (oneH (e.1.map fun b => AV.int .u8 (.ofNat b))) e.2 && flatA e.2
noncomputable def tableBytes (g : FuncId) (t : List (List Nat × AV)) : Sums := fun f args h => cond (Nat.beq f g) (match args with
  | [.sl id off len sz _] => cond (Nat.beq sz 1) ((cellsAt h id off len).bind fun l => (bytesA l).bind fun bs => (lookT t bs).map fun v => (v, h)) none
  | _ => none) none
theorem cellsAt_length {h : AH} {id off n : Nat} {l : List AV} (hc : cellsAt h id off n = some l) : l.length = n := by
  unfold cellsAt at hc
  split at hc
  · split at hc
    · cases hc
      rw [List.length_take, List.length_drop]; omega
    · cases hc
  · cases hc
theorem tableBytes_ok (hS : SumsOK P S) {k : Nat} {g : FuncId} {t : List (List Nat × AV)} (ht : t.all (okBytes P S k g) = true) : SumsOK P (tableBytes g t) := by
  intro K ρ h w f args cargs u h' hR ha hs
  unfold tableBytes at hs
  rw [nat_beq_dec] at hs
  by_cases hf : f = g
  · subst hf
    simp only [decide_true, cond_true] at hs
    split at hs
    · rename_i id off len sz c
      rw [nat_beq_dec] at hs
      by_cases hz : sz = 1
      · subst hz
        simp only [decide_true, cond_true, Option.bind_eq_some_iff, Option.map_eq_some_iff] at hs
        obtain ⟨l, hl, bs, hb, v, h1, h2⟩ := hs
        cases h2
        rw [List.all_eq_true] at ht
        have h3 := ht _ (lookT_mem h1)
        simp only [okBytes, Bool.and_eq_true] at h3
        obtain ⟨h0', hc⟩ := run_of h3.1
        have hlen := cellsAt_length hl
        have hm := bytesA_map hb
        rw [hm, List.length_map] at hlen
        subst hlen
        rw [hm] at hl
        have hlm : (bs.map fun b => AV.int .u8 (.ofNat b)).length = bs.length := List.length_map _
        rw [← hlm] at hc hl ha
        exact sumSlice_ok hS hc h3.2 (by rw [List.all_map]; simp [scalarA]) hl ha hR
      · simp only [hz, decide_false, cond_false] at hs
        cases hs
    · cases hs
  · simp only [hf, decide_false, cond_false] at hs
    cases hs

end
end Go.Abs
