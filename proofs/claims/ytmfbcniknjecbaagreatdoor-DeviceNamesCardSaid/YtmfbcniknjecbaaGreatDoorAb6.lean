/- The abstract layer, parts 33 to 40. Conditions: none. -/
import Derived.Test.YtmfbcniknjecbaaGreatDoorAb5
import Derived.Carry
import Derived.ChangeOld
import Derived.Lib.Join

section
namespace Go.Abs
open Go
set_option linter.unusedVariables false

section
variable {P : Program} {S : Sums}

def keptAll (w : World) : Kp := { os := w.os, tape := w.tape, output := w.output, size := w.heap.size, at_ := fun b => w.heap[b]?, ro := fun b => decide (b < w.heap.size), roAt := fun b hb => by simp at hb; simp [hb] }

theorem rel_empty (w : World) : Rel (keptAll w) (fun _ => none) { tr := .nil, nx := 0 } w :=
  ⟨rfl, rfl, rfl, Nat.le_refl _, fun _ _ h => h, fun _ _ => rfl, fun id o hg => by simp [AH.get] at hg, fun i j oi oj pi pj hi => by simp [AH.get] at hi⟩

theorem keptAll_allKept (w : World) : AllKept (keptAll w) w := fun b o h => ⟨h, by simp [keptAll, (Array.getElem?_eq_some_iff.1 h).1]⟩

theorem CallRes.mono {f : FuncId} {cargs : Array Value} {w : World} {Q Q' : Value → World → Prop} (h : CallRes P f cargs w Q) (hq : ∀ v w', Q v w' → Q' v w') : CallRes P f cargs w Q' := by
  obtain ⟨n, w1, h1, h2⟩ := h
  refine ⟨n, w1, h1, ?_⟩
  cases n with
  | enter g a => exact CallsIn.mono h2 fun e w2 ⟨cv, h3, h4⟩ => ⟨cv, h3, hq _ _ h4⟩
  | value cv => exact hq _ _ h2
  | _ => exact h2.elim

theorem sumClosed_ok (hS : SumsOK P S) {f : FuncId} {k : Nat} {v : AV} {h0 : AH} (hc : (evN P S k).call f [] { tr := .nil, nx := 0 } = some (v, h0)) (hv : ∀ ρ ρ' cv, VR ρ v cv → VR ρ' v cv)
    {K : Kp} {ρ : Pm} {h : AH} {w : World} {cargs : Array Value} (hR : Rel K ρ h w) (hargs : VRs ρ [] cargs.toList) : CallRes P f cargs w (CallPost K h ρ v h) := by
  have hcn : cargs = #[] := by
    cases hh : cargs.toList with
    | nil => simpa using hh
    | cons a l => rw [hh] at hargs; cases hargs
  subst hcn
  refine ((evN_sound hS k).call (keptAll w) (fun _ => none) { tr := .nil, nx := 0 } w f [] #[] v h0 (rel_empty w) .nil hc).mono fun cv w' hp => ?_
  obtain ⟨ρ', _, hvr, hR'⟩ := hp
  refine ⟨ρ, Ext.refl _ _, hv _ _ _ hvr, ⟨hR'.os.trans hR.os, hR'.tape.trans hR.tape, hR'.output.trans hR.output, Nat.le_trans hR.size hR'.size, fun b o hb => hR'.keep b o (hR.keep b o hb), hR.fresh, fun id o hg => ?_, hR.inj⟩⟩
  obtain ⟨p, h1, h2, h3⟩ := hR.obj id o hg
  refine ⟨p, h1, ?_, h3⟩
  cases hb : w.heap[p.b]? with
  | some x => rw [hR'.keep p.b x hb, ← hb]; exact h2
  | none =>
    rw [hb] at h2
    exact (or_none h2).elim

theorem walk_of_run (hS : SumsOK P S) {f : FuncId} (hb : bodied P f = true) {w : World} {ρ : Pm} {h : AH} {avs : List AV} {cargs : Array Value} (hR : Rel (keptAll w) ρ h w) (hv : VRs ρ avs cargs.toList)
    (hrun : RnC P S f avs h fun v _ => v = .bool true) : Calls P f cargs w fun e w' => e = .returned (.bool true) ∧ RowKit.Below w.heap.size w w' := by
  obtain ⟨k, v, h', hc, rfl⟩ := hrun
  obtain ⟨nx, w1, hrn, hm⟩ := (evN_sound hS k).call (keptAll w) ρ h w f avs cargs _ h' hR hv hc
  rw [callFunc_bodied hb] at hrn
  cases hrn
  refine (callsIn_wide.1 hm).mono fun e w' hp => ?_
  obtain ⟨cv, rfl, ρ', _, hvr, hR'⟩ := hp
  cases hvr
  refine ⟨rfl, ⟨hR'.os, hR'.tape, hR'.output, hR'.size, fun b hb => ?_⟩⟩
  have : w.heap[b]? = some w.heap[b] := by simp
  rw [this]
  exact hR'.keep b _ this

theorem RnC.sum {f : FuncId} {args : List AV} {h : AH} {Q : AV → AH → Prop} {v : AV} {h' : AH} (hs : S f args h = some (v, h')) (hq : Q v h') : RnC P S f args h Q :=
  ⟨1, v, h', by show evFn P S (evN P S 0) f args h = _; unfold evFn; rw [hs], hq⟩

end
end Go.Abs
namespace Go.Abs
open Go

/-! ### What stays -/
structure Fr (h h' : AH) : Prop where
  nx : h.nx ≤ h'.nx
  get : ∀ j, j < h.nx → h'.get j = h.get j
theorem Fr.refl (h : AH) : Fr h h := ⟨Nat.le_refl _, fun _ _ => rfl⟩
theorem Fr.trans {a b c : AH} (h : Fr a b) (k : Fr b c) : Fr a c := ⟨Nat.le_trans h.nx k.nx, fun j hj => (k.get j (Nat.lt_of_lt_of_le hj h.nx)).trans (h.get j hj)⟩
theorem Fr.new (h : AH) (o : AO) : Fr h (h.new o) := ⟨Nat.le_succ _, fun j hj => by rw [AH.get_new, if_neg (Nat.ne_of_lt hj)]⟩
theorem Fr.put {h h' : AH} (k : Fr h h') {i : Nat} (o : AO) (hi : h.nx ≤ i) : Fr h (h'.put i o) := ⟨k.nx, fun j hj => by rw [AH.get_put, if_neg (by omega)]; exact k.get j hj⟩
theorem Fr.news {h h' : AH} (k : Fr h h') (o : AO) : Fr h (h'.new o) := k.trans (Fr.new h' o)
theorem Fr.more {h h' : AH} (k : Fr h h') (n : Nat) (hn : h'.nx ≤ n) : Fr h { tr := h'.tr, nx := n } := ⟨Nat.le_trans k.nx hn, fun j hj => k.get j hj⟩

theorem AH.get_put_eq {h : AH} {i j : Nat} {o : AO} (e : j = i) : (h.put i o).get j = some o := by rw [AH.get_put, if_pos e]
theorem AH.get_put_ne {h : AH} {i j : Nat} {o : AO} (e : j ≠ i) : (h.put i o).get j = h.get j := by rw [AH.get_put, if_neg e]
theorem AH.get_new_eq {h : AH} {j : Nat} {o : AO} (e : j = h.nx) : (h.new o).get j = some o := by rw [AH.get_new, if_pos e]
theorem AH.get_new_ne {h : AH} {j : Nat} {o : AO} (e : j ≠ h.nx) : (h.new o).get j = h.get j := by rw [AH.get_new, if_neg e]
theorem AH.get_more (h : AH) (n j : Nat) : ({ tr := h.tr, nx := n } : AH).get j = h.get j := rfl
theorem absorb_nil (h : AH) : absorb [] h = h := rfl
theorem absorb_cons (i : Nat) (o : AO) (l : List (Nat × AO)) (h : AH) : absorb ((i, o) :: l) h = absorb l (h.put i o) := rfl
end Go.Abs
end

section
namespace Go.Abs
open Go
set_option linter.unusedVariables false

section
variable {P : Program} {S : Sums}

theorem RnL.unroll {r : Option Nat} {fn : FuncId} {n : Nat} {c : Code} {s : St} {Q : Ex → St → Prop} (hw : syC P S r fn n c s (thenK (fun s' => RnL P S r fn n c s' Q) Q)) : RnL P S r fn n c s Q := by
  obtain ⟨k1, ex, s1, e1, hw1⟩ := syC_sound hw
  cases ex with
  | normal =>
    obtain ⟨k2, ex2, s2, e2, hq⟩ := hw1
    refine ⟨max k1 k2 + 1, ex2, s2, ?_, hq⟩
    show (match evCode P (evN P S (max k1 k2)) r fn n c s with | some (.normal, s') => (evN P S (max k1 k2)).loop r fn n c s' | x => x) = some (ex2, s2)
    rw [evCode_mono (evN_mono (Nat.le_max_left k1 k2)) e1]
    exact (evN_mono (Nat.le_max_right k1 k2)).loop _ _ _ _ _ _ e2
  | exit i =>
    refine ⟨k1 + 1, _, s1, ?_, hw1⟩
    show (match evCode P (evN P S k1) r fn n c s with | some (.normal, s') => (evN P S k1).loop r fn n c s' | x => x) = some (.exit i, s1)
    rw [e1]
  | ret =>
    refine ⟨k1 + 1, _, s1, ?_, hw1⟩
    show (match evCode P (evN P S k1) r fn n c s with | some (.normal, s') => (evN P S k1).loop r fn n c s' | x => x) = some (.ret, s1)
    rw [e1]

theorem loopK_unroll {r : Option Nat} {fn n : Nat} {c : Code} {s : St} {K : Ex → St → Prop} {u : Blk c} {v : Blk s} {w : Blk K} (hw : syC P S r fn n c s (thenK (fun s' => loopK P S r fn n c s' K ⟨⟩ ⟨⟩ ⟨⟩) K)) : loopK P S r fn n c s K u v w :=
  RnL.unroll hw

theorem min2A_int (k k' : IntKind) (x y : Int) : min2A (.int k x) (.int k' y) = some (.int k (min x y)) := by
  have h : (if y < x then y else x) = min x y := by rw [Int.min_def]; split <;> split <;> omega
  simp only [min2A, h]
theorem max2A_int (k k' : IntKind) (x y : Int) : max2A (.int k x) (.int k' y) = some (.int k (max x y)) := by
  have h : (if y > x then y else x) = max x y := by rw [Int.max_def]; split <;> split <;> omega
  simp only [max2A, h]

theorem syDraw.go {n : Nat} {l : List Oper} {t : Env} {h : AH} {K : Env → AH → Prop} (prs : List (Nat × Nat)) (hf : P.follows .mixedOrders = true) (hs : statGo P l.toArray l 0 [] [] [] = some prs)
    (hw : syGo P S n l.toArray h.nx l 0 t { tr := h.tr, nx := h.nx + l.length } [] [] fun ss t' h' => sameAll P (evN P S 0) n l.toArray ss prs = true ∧ K t' h') : syDraw P S n l.toArray t h K ⟨⟩ ⟨⟩ ⟨⟩ ⟨⟩ :=
  ⟨hf, prs, hs, hw⟩
theorem syGo_nil (n : Nat) (ops : Array Oper) (base i : Nat) (t : Env) (h : AH) (pend : List (Nat × AO)) (acc : List DS) (K : List DS → Env → AH → Prop) : syGo P S n ops base [] i t h pend acc K = K (acc ++ [({ t := t, h := h, pend := pend } : DS)]) t (absorb pend h) := propext Iff.rfl
theorem syGo_cons (n : Nat) (ops : Array Oper) (base i : Nat) (o : Oper) (r : List Oper) (t : Env) (h : AH) (pend : List (Nat × AO)) (acc : List DS) (K : List DS → Env → AH → Prop) :
    syGo P S n ops base (o :: r) i t h pend acc K = syDS P S n ops base i o t h pend fun t' h' pend' => syGo P S n ops base r (i + 1) t' h' pend' (acc ++ [({ t := t, h := h, pend := pend } : DS)]) K := propext Iff.rfl
theorem sameAt_of {R : Rec} {n i d : Nat} {ops : Array Oper} {t t' : Env} {h : AH} {op : Op} {ty : TypeId} {pos : String} {after : Array Edge} {v v' : AV} (ho : ops[i]? = some { dst := some d, op := op, type := ty, pos := pos, after := after, guard := none }) (hn : d < n)
    (he : evOper P (opnd t) { dst := some d, op := op, type := ty, pos := pos, after := after, guard := none } h = some (.val v h)) (ht : t'.get d = some v') (hs : sameAV 20 v v' = true) : sameAt P R n ops i t t' h = true := by
  have h1 : evOp1 P R n ops { dst := some d, op := op, type := ty, pos := pos, after := after, guard := none } t h = some (t.set d (some v), h) := by
    rw [evOp1_eq, show wantedA ops t { dst := some d, op := op, type := ty, pos := pos, after := after, guard := none } = some true by simp [wantedA]]
    simp [he, stepR, putA, hn]
  obtain ⟨t1, h2, h3⟩ := evOp1_draw h1
  unfold sameAt
  rw [ho]
  simp only [h2, ht]
  have h4 : t1.get d = some v := by
    have := congrArg (fun e => Tr.get e d) h3
    simpa [backA, Tr.get_set] using this
  rw [h4]
  exact hs
theorem sameAll_one {R : Rec} {n i j : Nat} {ops : Array Oper} {ss : List DS} {r : List (Nat × Nat)} {o : Oper} {si si' sj sj' : DS} (ho : ops[i]? = some o) (h1 : ss[i]? = some si) (h2 : ss[i + 1]? = some si') (h3 : ss[j]? = some sj) (h4 : ss[j + 1]? = some sj')
    (hx : (if Nat.beq (clsOf P o.op) 1 then sameAt P R n ops i si.t si'.t sj.h else sameAt P R n ops j sj.t sj'.t si'.h) = true) (hr : sameAll P R n ops ss r = true) : sameAll P R n ops ss ((j, i) :: r) = true := by
  unfold sameAll
  simp only [ho, h1, h2, h3, h4, hx, hr, Bool.and_self]
theorem sameAll_eff {R : Rec} {n i j : Nat} {ops : Array Oper} {ss : List DS} {r : List (Nat × Nat)} (o : Oper) (si si' sj sj' : DS) (ho : ops[i]? = some o) (h1 : ss[i]? = some si) (h2 : ss[i + 1]? = some si') (h3 : ss[j]? = some sj) (h4 : ss[j + 1]? = some sj')
    (hc : Nat.beq (clsOf P o.op) 1 = false) (hx : sameAt P R n ops j sj.t sj'.t si'.h = true) (hr : sameAll P R n ops ss r = true) : sameAll P R n ops ss ((j, i) :: r) = true :=
  sameAll_one ho h1 h2 h3 h4 (by rw [hc]; exact hx) hr
theorem sameAll_low {R : Rec} {n i j : Nat} {ops : Array Oper} {ss : List DS} {r : List (Nat × Nat)} (o : Oper) (si si' sj sj' : DS) (ho : ops[i]? = some o) (h1 : ss[i]? = some si) (h2 : ss[i + 1]? = some si') (h3 : ss[j]? = some sj) (h4 : ss[j + 1]? = some sj')
    (hc : Nat.beq (clsOf P o.op) 1 = true) (hx : sameAt P R n ops i si.t si'.t sj.h = true) (hr : sameAll P R n ops ss r = true) : sameAll P R n ops ss ((j, i) :: r) = true :=
  sameAll_one ho h1 h2 h3 h4 (by rw [hc]; exact hx) hr
theorem blkK_same (id : Nat) (Q : Ex → St → Prop) (s : St) : blkK id Q (.exit id) s = Q .normal s := by
  unfold blkK
  simp
theorem blkK_other {id j : Nat} (h : j ≠ id) (Q : Ex → St → Prop) (s : St) : blkK id Q (.exit j) s = Q (.exit j) s := by
  unfold blkK
  have : Nat.beq j id = false := by rw [nat_beq_dec]; simp [h]
  simp [this]
theorem below_of {i : Int} {n : Nat} (h1 : 0 ≤ i) (h2 : i < n) : below i n = some i.toNat := by
  cases i with
  | ofNat m =>
    have : m < n := by simp only [Int.ofNat_eq_natCast] at h2; omega
    simp [below, this]
  | negSucc m => omega
theorem upTo_of {i : Int} {n : Nat} (h1 : 0 ≤ i) (h2 : i ≤ n) : upTo i n = some i.toNat := by
  cases i with
  | ofNat m =>
    have : m ≤ n := by simp only [Int.ofNat_eq_natCast] at h2; omega
    simp [upTo, this]
  | negSucc m => omega

/-! ### Appending -/
noncomputable def appI (P : Program) (e : TypeId) : Option (Nat × Nat) := (P.info? e).bind fun i => i.zero.bind fun z => (cellsA (toAV z)).bind fun zc => if zc.length = i.size ∧ i.size ≠ 0 then some (i.size, i.bytes) else none

def notInt : TypeDesc → Bool
  | .int _ => false
  | _ => true
def notStr : AV → Bool
  | .str _ => false
  | _ => true

theorem evAppend_eq {st xt e : TypeId} {d : TypeDesc} {size bytes : Nat} (hu : P.underlying st = some (.slice e)) (hd : P.underlying xt = some d) (hni : notInt d = true) (hi : appI P e = some (size, bytes))
    {h : AH} {s x : AV} {n len : Nat} {new old : List AV} (hn : lenA x = some n) (hnew : firstA h size n x = some new) (hl : lenA s = some len) (hold : firstA h size len s = some old) (hall : new.all oneA = true)
    (hb : (2 * (len + n) + 1000) * bytes ≤ 2 ^ 40) (hb2 : len + n ≤ 2 ^ 40) (hs : notStr s = true) :
    evAppend P h #[st, xt] s x = if n = 0 then some (.val s h) else
      match s with
      | .nilsl => newCells h new false fun id => .sl id 0 n size none
      | .sl id off _ _ (some c) =>
        if c < len + n then newCells h (old ++ new) false fun id => .sl id 0 (len + n) size none
        else if ownBlock h id then newCells (h.del id) (old ++ new) (textBlock h id || !(Nat.beq off 0)) fun id => .sl id 0 (len + n) size none else none
      | .sl id off _ _ none =>
        if ownBlock h id then newCells (h.del id) (old ++ new) (textBlock h id || !(Nat.beq off 0)) fun id => .sl id 0 (len + n) size none else none
      | _ => none := by
  unfold appI at hi
  simp only [Option.bind_eq_some_iff] at hi
  obtain ⟨i, h1, z, h2, zc, h3, h4⟩ := hi
  split at h4
  · rename_i hz
    obtain ⟨hz1, hz2⟩ := hz
    cases h4
    have hap : appendedA P h i zc xt x = some (n, new) := by
      unfold appendedA
      simp only [hd, Option.bind_eq_bind, Option.bind_some]
      cases d <;> first | (cases hni; done) | simp only [hn, hnew, Option.bind_some]
    unfold evAppend
    simp only [List.getElem?_toArray, List.getElem?_cons_zero, List.getElem?_cons_succ, Option.bind_eq_bind, Option.bind_some, hu, h1, h2, h3]
    rw [if_neg (by simp [hz1, hz2])]
    simp only [hap, hl, hold, Option.bind_some]
    by_cases hn0 : n = 0
    · simp only [hn0, if_true]
      cases s <;> first | rfl | (cases hs; done)
    · simp only [hn0, if_false]
      rw [if_neg (by simp [hall]), if_neg (by simp only [Bool.or_eq_true, decide_eq_true_eq]; intro hh; rcases hh with hh | hh <;> omega)]
      rfl
  · cases h4

theorem firstA_sl {h : AH} {id off n sz k : Nat} {c : Option Nat} {cs : List AV} {o t : Bool} (hg : h.get id = some (.cells cs o t)) (hk : k ≤ n) (hl : off + k * sz ≤ cs.length) : firstA h sz k (.sl id off n sz c) = some ((cs.drop off).take (k * sz)) := by
  simp [firstA, hk, cellsAt, hg, hl]

theorem cA_bool (b : Bool) : cellsA (.bool b) = some [.bool b] := rfl
theorem cA_int (k : IntKind) (n : Int) : cellsA (.int k n) = some [.int k n] := rfl
theorem cA_str (s : List Nat) : cellsA (.str s) = some [.str s] := rfl
theorem cA_nilptr  : cellsA .nilptr = some [.nilptr] := rfl
theorem cA_ptr (i o : Nat) : cellsA (.ptr i o) = some [.ptr i o] := rfl
theorem cA_nilsl  : cellsA .nilsl = some [.nilsl] := rfl
theorem cA_sl (i o l s : Nat) (c : Option Nat) : cellsA (.sl i o l s c) = some [.sl i o l s c] := rfl
theorem cA_nilmap  : cellsA .nilmap = some [.nilmap] := rfl
theorem cA_map (i : Nat) : cellsA (.map i) = some [.map i] := rfl
theorem cA_func (fn : Fn) (a b : List AV) : cellsA (.func fn a b) = some [.func fn a b] := rfl
theorem cA_yld (i : Nat) : cellsA (.yld i) = some [.yld i] := rfl
theorem cA_nilfunc  : cellsA .nilfunc = some [.nilfunc] := rfl
theorem cA_iface (t : TypeId) (v : AV) : cellsA (.iface t v) = some [.iface t v] := rfl
theorem cA_nilif  : cellsA .nilif = some [.nilif] := rfl
theorem cA_agg (l : List AV) : cellsA (.agg l) = some l := rfl
theorem cellsA_one {v : AV} (h : oneA v = true) : cellsA v = some [v] := by cases v <;> first | rfl | (cases h; done)

/-! ### Arguments -/
theorem Ty.int_inv {h : AH} {t : TypeId} {k : IntKind} {l : List AV} (hu : P.underlying t = some (.int k)) (hx : Ty P h t l) : ∃ n, l = [.int k n] ∧ k.min ≤ n ∧ n ≤ k.max := by
  cases hx with
  | int n ht hw => rw [hu] at ht; cases ht; exact ⟨n, rfl, hw⟩
  | bool b ht => rw [hu] at ht; cases ht
  | str s ht hs => rw [hu] at ht; cases ht
  | nilsl ht => rw [hu] at ht; cases ht
  | sl ht => rw [hu] at ht; cases ht
  | struct ht => rw [hu] at ht; cases ht
  | array ht => rw [hu] at ht; cases ht
theorem Ty.bool_inv {h : AH} {t : TypeId} {l : List AV} (hu : P.underlying t = some .bool) (hx : Ty P h t l) : ∃ b, l = [.bool b] := by
  cases hx with
  | int n ht hw => rw [hu] at ht; cases ht
  | bool b ht => exact ⟨b, rfl⟩
  | str s ht hs => rw [hu] at ht; cases ht
  | nilsl ht => rw [hu] at ht; cases ht
  | sl ht => rw [hu] at ht; cases ht
  | struct ht => rw [hu] at ht; cases ht
  | array ht => rw [hu] at ht; cases ht
theorem Ty.str_inv {h : AH} {t : TypeId} {l : List AV} (hu : P.underlying t = some .string) (hx : Ty P h t l) : ∃ s : ByteArray, l = [.str (bytesOf s)] ∧ s.size ≤ maxLen := by
  cases hx with
  | int n ht hw => rw [hu] at ht; cases ht
  | bool b ht => rw [hu] at ht; cases ht
  | str s ht hs => exact ⟨s, rfl, hs⟩
  | nilsl ht => rw [hu] at ht; cases ht
  | sl ht => rw [hu] at ht; cases ht
  | struct ht => rw [hu] at ht; cases ht
  | array ht => rw [hu] at ht; cases ht
theorem Ty.slice_inv {h : AH} {t e : TypeId} {l : List AV} (hu : P.underlying t = some (.slice e)) (hx : Ty P h t l) : l = [.nilsl] ∨ ∃ id len cs, l = [.sl id 0 len (P.cellsOf e) none] ∧ h.get id = some (.cells cs false false) ∧ len ≤ maxLen ∧ cs.length = len * P.cellsOf e ∧
    ∀ i, i < len → Ty P h e ((cs.drop (i * P.cellsOf e)).take (P.cellsOf e)) := by
  cases hx with
  | int n ht hw => rw [hu] at ht; cases ht
  | bool b ht => rw [hu] at ht; cases ht
  | str s ht hs => rw [hu] at ht; cases ht
  | nilsl ht => exact .inl rfl
  | sl ht hg hl hc hcs => rw [hu] at ht; cases ht; exact .inr ⟨_, _, _, rfl, hg, hl, hc, hcs⟩
  | struct ht => rw [hu] at ht; cases ht
  | array ht => rw [hu] at ht; cases ht
theorem Ty.struct_inv {h : AH} {t : TypeId} {fs : Array Field} {l : List AV} (hu : P.underlying t = some (.struct fs)) (hx : Ty P h t l) : l.length = P.cellsOf t ∧ ∀ f, f ∈ fs.toList → Ty P h f.type ((l.drop f.offset).take (P.cellsOf f.type)) := by
  cases hx with
  | int n ht hw => rw [hu] at ht; cases ht
  | bool b ht => rw [hu] at ht; cases ht
  | str s ht hs => rw [hu] at ht; cases ht
  | nilsl ht => rw [hu] at ht; cases ht
  | sl ht => rw [hu] at ht; cases ht
  | struct ht hc hf => rw [hu] at ht; cases ht; exact ⟨hc, hf⟩
  | array ht => rw [hu] at ht; cases ht

theorem Ty.one {h : AH} {t : TypeId} {l : List AV} (hd : ∀ fs, P.underlying t ≠ some (.struct fs)) (ha : ∀ n e, P.underlying t ≠ some (.array n e)) (hx : Ty P h t l) : ∃ v, l = [v] ∧ oneA v = true := by
  cases hx with
  | int n ht hw => exact ⟨_, rfl, rfl⟩
  | bool b ht => exact ⟨_, rfl, rfl⟩
  | str s ht hs => exact ⟨_, rfl, rfl⟩
  | nilsl ht => exact ⟨_, rfl, rfl⟩
  | sl ht => exact ⟨_, rfl, rfl⟩
  | struct ht => exact absurd ht (hd _)
  | array ht => exact absurd ht (ha _ _)

def Sl1 (h : AH) (v : AV) (cs : List AV) : Prop := (v = .nilsl ∧ cs = []) ∨ ∃ id, v = .sl id 0 cs.length 1 none ∧ h.get id = some (.cells cs false false) ∧ id < h.nx

theorem Ty.sl1 {h : AH} {t e : TypeId} {l : List AV} (hu : P.underlying t = some (.slice e)) (hc : P.cellsOf e = 1) (hd : ∀ fs, P.underlying e ≠ some (.struct fs)) (ha : ∀ n e', P.underlying e ≠ some (.array n e')) (hx : Ty P h t l) (hlt : ∀ id o, h.get id = some o → id < h.nx) :
    ∃ v cs, l = [v] ∧ Sl1 h v cs ∧ cs.all oneA = true ∧ cs.length ≤ maxLen ∧ ∀ (i : Nat) (c : AV), cs[i]? = some c → Ty P h e [c] := by
  rcases hx.slice_inv hu with rfl | ⟨id, len, cs, rfl, hg, hl, hcs, hel⟩
  · exact ⟨_, [], rfl, .inl ⟨rfl, rfl⟩, rfl, Nat.zero_le _, fun i c hi => by simp at hi⟩
  · rw [hc] at hcs hel
    have hcs : cs.length = len := by omega
    have he : ∀ (i : Nat) (c : AV), cs[i]? = some c → Ty P h e [c] := fun i c hi => by
      have hil := (List.getElem?_eq_some_iff.1 hi).1
      have := hel i (by omega)
      rw [Nat.mul_one] at this
      have h2 : (cs.drop i).take 1 = [c] := by
        rw [List.drop_eq_getElem_cons hil, List.take_succ_cons, List.take_zero, (List.getElem?_eq_some_iff.1 hi).2]
      rwa [h2] at this
    refine ⟨_, cs, rfl, .inr ⟨id, by rw [hc, hcs], hg, hlt _ _ hg⟩, ?_, by omega, he⟩
    rw [List.all_eq_true]
    intro c hcm
    obtain ⟨i, hi⟩ := List.mem_iff_getElem?.1 hcm
    obtain ⟨v, hv, ho⟩ := (he i c hi).one hd ha
    cases hv
    exact ho

end
end Go.Abs
end

section
namespace Go.Abs
open Go
set_option linter.unusedVariables false

section
variable {P : Program} {S : Sums}

theorem dataT_mono : ∀ (k : Nat) (t : TypeId), dataT P k t = true → dataT P (k + 1) t = true
  | 0, t, h => by cases h
  | k + 1, t, h => by
    have ih := dataT_mono k
    simp only [dataT] at h
    unfold dataT
    cases hu : P.underlying t with
    | none => rw [hu] at h; cases h
    | some d =>
      rw [hu] at h
      cases d <;> simp only at h ⊢ <;> try (first | exact h | cases h)
      case slice e =>
        rw [Bool.and_eq_true] at h ⊢
        exact ⟨h.1, ih _ h.2⟩
      case struct fs =>
        rw [Bool.and_eq_true] at h ⊢
        refine ⟨h.1, ?_⟩
        have h2 := h.2
        rw [List.all_eq_true] at h2 ⊢
        exact fun f hf => ih _ (h2 f hf)
      case array n e =>
        rw [Bool.and_eq_true] at h ⊢
        exact ⟨h.1, ih _ h.2⟩
theorem dataT_le {k j : Nat} (hkj : k ≤ j) {t : TypeId} (h : dataT P k t = true) : dataT P j t = true := by
  induction hkj with
  | refl => exact h
  | step _ ih => exact dataT_mono _ _ ih

theorem got_arg {H : Type} {enc : TypeId × Value → H} {W : World} {t : TypeId} {v : Value} {d : DataW H} {ps : List MemPlace} {k : Nat} (hd : ∃ (b : Nat) (c : Array Value) (e : TypeId) (fr : Nat × Nat), W.heap[b]? = some (Obj.cells c e fr)) (hk : dataT P k t = true)
    (h : DataW.Trod enc P W 0 (fun _ => true) true t v d ps) {ρ : Pm} {ah : AH} (hR : Rel (keptAll W) ρ ah W) : ∃ ρ' h' avs, Got P (keptAll W) W ρ ah t v.cells.toList ρ' h' avs := by
  obtain ⟨fuel, hf⟩ := h
  exact got (keptAll_allKept W) hd (max k fuel) t _ _ (dataT_le (Nat.le_max_left k fuel) hk) (DataW.trod_le (Nat.le_max_right k fuel) hf) ρ ah hR

theorem vr_agg {ρ : Pm} {avs : List AV} {v : Value} (hv : VRs ρ avs v.cells.toList) (hn : avs.length ≠ 1) : VR ρ (.agg avs) v := by
  have hl := hv.length
  cases v <;> first
    | (exact .agg hv; done)
    | (simp [Value.cells] at hl; exact absurd hl hn)

theorem trod_below {H : Type} {enc : TypeId × Value → H} {t : TypeId} (hl : laidOutB P = true) (hr : P.readableRec t = true) (hrow : t < P.types.size) {W W' : World} {v : Value} {d : DataW H} {ps : List MemPlace}
    (h : DataW.Trod enc P W 0 (fun _ => true) true t v d ps) (hb : RowKit.Below W.heap.size W W') : DataW.Trod enc P W' 0 (fun b => decide (b < W.heap.size)) true t v d ps := by
  obtain ⟨fuel, hf⟩ := h
  exact RowKit.Below.trod hl hr hrow ⟨fuel, hf⟩ hb (DataW.trod_lt fuel t _ _ hf)

theorem cells_of_laid {laid : List (String × DataW Unit)} {w : World} (n : String) (d : DataW Unit) (r : List (String × DataW Unit)) (h : laidMetH P laid w) (hh : laid.filter (fun x => x.2.handleName?.isSome) = []) (hl : laid = (n, d) :: r) :
    ∃ (b : Nat) (c : Array Value) (e : TypeId) (fr : Nat × Nat), w.heap[b]? = some (Obj.cells c e fr) := by
  unfold laidMetH at h
  rw [hh] at h
  obtain ⟨ps, h1, _⟩ := h
  rw [hl] at h1
  obtain ⟨g, t, cs, fuel, p, q, h2, h3, h4, h5, h6, h7⟩ := h1
  unfold World.var? at h4
  rw [h2] at h4
  simp only [Option.bind_some] at h4
  split at h4
  · rename_i c e fr hc
    exact ⟨g, c, e, fr, hc⟩
  · cases h4

theorem rel_lt {K : Kp} {ρ : Pm} {h : AH} {w : World} (hR : Rel K ρ h w) : ∀ id o, h.get id = some o → id < h.nx := fun id o hg => by
  obtain ⟨p, hp, _⟩ := hR.obj id o hg
  refine Nat.lt_of_not_le fun hle => ?_
  rw [hR.fresh id hle] at hp
  cases hp

end
end Go.Abs
end

section
namespace Go.Abs
open Go

attribute [go_sem ↓] clsK_bin clsK_slice syC_skip syC_ret syC_exit syC_region syC_draw syC_seq syC_cond syC_block syC_loop syC_range thenK_normal thenK_ret thenK_exit blkK_normal blkK_ret blkK_same blkK_other syOps_nil syOps_cons sy1_none sy1_some syGo0_nil syGo0_cons syGo_nil syGo_cons syDS_none syO_move syO_assign syO_pick syO_load syO_store syO_build syO_binOp syO_unOp syO_slice syO_indexAddr syO_index syO_lookup syO_call syO_builtin syO_alloc syO_box syO_buildSlice syO_makeMap syO_makeSlice syO_nilCheck syO_convert syO_makeInterface syO_makeFunc syO_fieldAddr syO_field syO_mapUpdate syO_insert syO_typeAssert syO_extract syPut_none syPut_some syEnd_ret syEnd_normal
attribute [go_sem] plainFn clsOf wantedA evLoad evStore aggT oneA putCells fillA repCells evOper val? evCall minA maxA foldA evIndexAddr argsEnv bq_t bq_f gt_iff_lt clsK_0 clsK_1 clsK_2 clsK_3 bnd_some ltv_eq chk_true ifB_true ifB_false resK_val resK_skip resK_call resK_yield syV_func syV_yld rngK_func takeMarks_nil resultsA_nil resultsA_one resultsA_two resultsA_three resultA_tmp resultA_cell opnd_tmp opnd_func opnd_const toAV_int toAV_bool toAV_str toAV_nilsl toAV_nilptr toAV_nilmap toAV_nilfunc toAV_nilif Tr.get_set if_true if_false Option.getD_some Nat.zero_add Nat.add_zero List.map_cons List.map_nil List.append_nil List.nil_append List.cons_append cond_true cond_false binA_add binA_sub binA_mul binA_quo binA_rem binA_and binA_or binA_xor binA_eql binA_neq binA_lss binA_leq binA_gtr binA_geq binA_shl binA_shr unA_not unA_neg wrap64_id Bool.not_true Bool.not_false beq_self_eq_true decide_true decide_false Bool.false_eq_true Bool.true_eq_false not_true_eq_false not_false_eq_true ne_eq decide_not cA_bool cA_int cA_str cA_nilptr cA_ptr cA_nilsl cA_sl cA_nilmap cA_map cA_func cA_yld cA_nilfunc cA_iface cA_nilif cA_agg allocA_alloc allocA_box allocA_buildSlice allocA_makeSlice allocA_makeMap bsA_eq allocated_some Int.cast_ofNat_Int Int.natCast_one Int.natCast_zero min2A_int max2A_int below_of upTo_of Int.toNat_natCast Int.toNat_zero Nat.zero_mul List.isEmpty_cons List.isEmpty_nil Option.bind_some Option.bind_none Option.map_some Option.map_none Option.bind_eq_bind List.getElem?_cons_zero List.getElem?_cons_succ List.length_cons List.length_nil AH.get_put_eq AH.get_put_ne AH.get_new_eq AH.get_new_ne AH.get_more AH.nx_put AH.nx_new absorb_nil absorb_cons List.take_zero List.take_succ_cons List.drop_zero List.drop_succ_cons List.take_nil List.drop_nil Option.some.injEq List.getElem?_toArray BEq.rfl Bool.and_true Bool.true_and Bool.and_false Bool.false_and Bool.or_true Bool.or_false List.all_cons List.all_nil
/-! Numbers are reduced, too. -/
attribute [go_sem] Int.reduceEq Int.reduceNe Int.reduceLT Int.reduceLE Int.reduceAdd Int.reduceSub Int.reduceMul Int.reduceNeg Int.reduceToNat Nat.reducePow reduceCtorEq Nat.reduceEqDiff Nat.reduceAdd Nat.reduceLT Nat.reduceLeDiff Nat.reduceMul Nat.reduceSub Nat.reduceBEq
end Go.Abs
end

section
namespace Go.Abs
open Go
set_option linter.unusedVariables false

section
variable {P : Program} {S : Sums}

def flatA : AV → Bool
  | .agg l => l.all scalarA
  | .tup l => l.all scalarA
  | a => scalarA a

theorem vr_scalar {ρ ρ' : Pm} {a : AV} {v : Value} (hs : scalarA a = true) (h : VR ρ a v) : VR ρ' a v := by
  cases h <;> first | (cases hs; done) | constructor
theorem vrs_scalar {ρ ρ' : Pm} : ∀ {l : List AV} {m : List Value}, l.all scalarA = true → VRs ρ l m → VRs ρ' l m
  | _, _, _, .nil => .nil
  | _, _, hs, .cons h t => by
    rw [List.all_cons, Bool.and_eq_true] at hs
    exact .cons (vr_scalar hs.1 h) (vrs_scalar hs.2 t)
theorem vr_flat {ρ ρ' : Pm} {a : AV} {v : Value} (hs : flatA a = true) (h : VR ρ a v) : VR ρ' a v := by
  cases h with
  | agg h => exact .agg (vrs_scalar hs h)
  | tup h => exact .tup (vrs_scalar hs h)
  | _ => first | (cases hs; done) | constructor

theorem sumKept_ok (hS : SumsOK P S) {f : FuncId} {k : Nat} {v : AV} {args0 : List AV} {h0 h0' : AH} {ρ0 : Pm} (hc : (evN P S k).call f args0 h0 = some (v, h0')) (hv : flatA v = true)
    {K : Kp} {ρ : Pm} {h : AH} {w : World} {cargs : Array Value} (hR0 : Rel (keptAll w) ρ0 h0 w) (ha : VRs ρ0 args0 cargs.toList) (hR : Rel K ρ h w) : CallRes P f cargs w (CallPost K h ρ v h) := by
  refine ((evN_sound hS k).call (keptAll w) ρ0 h0 w f args0 cargs v h0' hR0 ha hc).mono fun cv w' hp => ?_
  obtain ⟨ρ', _, hvr, hR'⟩ := hp
  refine ⟨ρ, Ext.refl _ _, vr_flat hv hvr, ⟨hR'.os.trans hR.os, hR'.tape.trans hR.tape, hR'.output.trans hR.output, Nat.le_trans hR.size hR'.size, fun b o hb => hR'.keep b o (hR.keep b o hb), hR.fresh, fun id o hg => ?_, hR.inj⟩⟩
  obtain ⟨p, h1, h2, h3⟩ := hR.obj id o hg
  refine ⟨p, h1, ?_, h3⟩
  cases hb : w.heap[p.b]? with
  | some x => rw [hR'.keep p.b x hb, ← hb]; exact h2
  | none =>
    rw [hb] at h2
    exact (or_none h2).elim

theorem sumScalar_ok (hS : SumsOK P S) {f : FuncId} {v : AV} {args : List AV} (hs : args.all scalarA = true) (hc : RnC P S f args { tr := .nil, nx := 0 } fun u _ => u = v) (hv : flatA v = true)
    {K : Kp} {ρ : Pm} {h : AH} {w : World} {cargs : Array Value} (ha : VRs ρ args cargs.toList) (hR : Rel K ρ h w) : CallRes P f cargs w (CallPost K h ρ v h) := by
  obtain ⟨k, u, h', h1, rfl⟩ := hc
  exact sumKept_ok hS h1 hv (rel_empty w) (vrs_scalar hs ha) hR

/-! ### One block -/
noncomputable def oneH (l : List AV) : AH := { tr := Tr.nil.set 0 (some (.cells l false false)), nx := 1 }
def oneP (q : Pl) : Pm := fun j => if j = 0 then some q else none

theorem rel_one {K : Kp} {ρ : Pm} {h : AH} {w : World} (hR : Rel K ρ h w) {id off n : Nat} {l : List AV} (hc : cellsAt h id off n = some l) (hs : l.all scalarA = true) :
    ∃ p, ρ id = some p ∧ p.o + off + n ≤ p.lim ∧ Rel (keptAll w) (oneP ⟨p.b, p.o + off, p.lim⟩) (oneH l) w := by
  unfold cellsAt at hc
  split at hc
  · rename_i cs own text hg
    split at hc
    · rename_i hle
      cases hc
      obtain ⟨p, hp, hor, -, -⟩ := hR.obj id _ hg
      obtain ⟨c, e, fr, h1, h2, h3, h4, -⟩ := hor
      have hlen : ((cs.drop off).take n).length = n := by rw [List.length_take, List.length_drop]; omega
      refine ⟨p, hp, by omega, rfl, rfl, rfl, Nat.le_refl _, fun _ _ h => h, fun id hid => ?_, fun i o hi => ?_, fun i j oi oj pi pj hi hj ho => ?_⟩
      · have : (1 : Nat) ≤ id := hid
        exact if_neg (by omega)
      · have hi' : (Tr.nil.set 0 (some (AO.cells ((cs.drop off).take n) false false))).get i = some o := hi
        rw [Tr.get_set] at hi'
        by_cases h0 : i = 0
        · rw [if_pos h0] at hi'
          cases hi'
          refine ⟨_, if_pos h0, ⟨c, e, fr, h1, ?_, ?_, (fun k a hk => ?_), (fun h => by cases h), (fun h => by cases h)⟩, (fun h => by cases h), (fun _ => ?_)⟩
          · show p.lim ≤ c.size
            cases own with
            | true => have h2' : c.size = p.lim := h2; omega
            | false => exact h2
          · show p.o + off + ((cs.drop off).take n).length ≤ p.lim
            rw [hlen]; omega
          · have hkl := (List.getElem?_eq_some_iff.1 hk).1
            rw [hlen] at hkl
            have hk2 : cs[off + k]? = some a := by
              rw [List.getElem?_take_of_lt hkl, List.getElem?_drop] at hk
              exact hk
            obtain ⟨u, hu, hr⟩ := h4 _ a hk2
            refine ⟨u, by show c[p.o + off + k]? = some u; rw [Nat.add_assoc]; exact hu, vr_scalar ?_ hr⟩
            rw [List.all_eq_true] at hs
            exact hs a (List.mem_of_getElem? hk)
          · have hb := (Array.getElem?_eq_some_iff.1 h1).1
            simp [keptAll, hb]
        · rw [if_neg h0, Tr.get_nil] at hi'
          cases hi'
      · have hi' : (Tr.nil.set 0 (some (AO.cells ((cs.drop off).take n) false false))).get i = some oi := hi
        rw [Tr.get_set] at hi'
        by_cases h0 : i = 0
        · rw [if_pos h0] at hi'
          cases hi'
          cases ho
        · rw [if_neg h0, Tr.get_nil] at hi'
          cases hi'
    · cases hc
  · cases hc

theorem sumSlice_ok (hS : SumsOK P S) {f : FuncId} {k : Nat} {v : AV} {l : List AV} {h0' : AH} (hc : (evN P S k).call f [.sl 0 0 l.length 1 none] (oneH l) = some (v, h0')) (hv : flatA v = true) (hs : l.all scalarA = true)
    {K : Kp} {ρ : Pm} {h : AH} {w : World} {cargs : Array Value} {id off : Nat} {c : Option Nat} (hl : cellsAt h id off l.length = some l) (ha : VRs ρ [.sl id off l.length 1 c] cargs.toList) (hR : Rel K ρ h w) : CallRes P f cargs w (CallPost K h ρ v h) := by
  obtain ⟨p, hp, hle, hR0⟩ := rel_one hR hl hs
  obtain ⟨cx, rfl, h1⟩ := args1 ha
  refine sumKept_ok hS hc hv hR0 (.cons ?_ .nil) hR
  cases h1 with
  | sl h hl2 ha2 hx hc2 =>
    rw [hp] at h
    cases h
    exact .sl (p := ⟨p.b, p.o + off, p.lim⟩) (if_pos rfl) hl2 ha2 (by simpa using hx) (fun n h => by cases h)

theorem sumCapt_ok (hS : SumsOK P S) {f g : FuncId} {k : Nat} {v a : AV} {h0' : AH} (hc : (evN P S k).call f [.func (.func g) [] [.ptr 0 0]] (oneH [a]) = some (v, h0')) (hv : flatA v = true) (hs : scalarA a = true)
    {K : Kp} {ρ : Pm} {h : AH} {w : World} {cargs : Array Value} {id off : Nat} (hl : cellsAt h id off 1 = some [a]) (ha : VRs ρ [.func (.func g) [] [.ptr id off]] cargs.toList) (hR : Rel K ρ h w) : CallRes P f cargs w (CallPost K h ρ v h) := by
  obtain ⟨p, hp, hle, hR0⟩ := rel_one hR hl (by simp [hs])
  obtain ⟨cx, rfl, h1⟩ := args1 ha
  refine sumKept_ok hS hc hv hR0 (.cons ?_ .nil) hR
  cases h1 with
  | func hpl hl2 hm =>
    refine .func hpl ?_ ?_
    · generalize hz : Array.toList _ = z at hl2 ⊢
      cases hl2
      exact .nil
    · generalize hz : Array.toList _ = z at hm ⊢
      cases hm with
      | cons h1 t =>
        cases t
        refine .cons ?_ .nil
        cases h1 with
        | ptr h =>
          rw [hp] at h
          cases h
          exact .ptr (p := ⟨p.b, p.o + off, p.lim⟩) (if_pos rfl)

/-! ### Tables -/
def orS (A B : Sums) : Sums := fun f args h =>
  match A f args h with
  | some r => some r
  | none => B f args h
theorem orS_ok {A B : Sums} (hA : SumsOK P A) (hB : SumsOK P B) : SumsOK P (orS A B) := by
  intro K ρ h w f args cargs v h' hR hv hs
  unfold orS at hs
  split at hs
  · rename_i r hr
    cases hs
    exact hA K ρ h w f args cargs v h' hR hv hr
  · exact hB K ρ h w f args cargs v h' hR hv hs


noncomputable def runsTo (P : Program) (S : Sums) (k : Nat) (f : FuncId) (args : List AV) (h : AH) (v : AV) : Bool := @Option.rec (AV × AH) (fun _ => Bool) false (fun r => sameAV 3 r.1 v) ((fN P S k).call f args h)
theorem run_of {k : Nat} {f : FuncId} {args : List AV} {h : AH} {v : AV} (hr : runsTo P S k f args h v = true) : ∃ h', (evN P S k).call f args h = some (v, h') := by
  unfold runsTo at hr
  rw [← fN_eq]
  cases hc : (fN P S k).call f args h with
  | none => rw [hc] at hr; cases hr
  | some r =>
    obtain ⟨u, h'⟩ := r
    rw [hc] at hr
    have := sameAV_eq 3 u v hr
    subst this
    exact ⟨h', rfl⟩

def sumConst (g : FuncId) (v : AV) : Sums := fun f args h => cond (Nat.beq f g) (match args with | [] => some (v, h) | _ => none) none
theorem sumConst_ok (hS : SumsOK P S) {k : Nat} {g : FuncId} {v : AV} (hr : runsTo P S k g [] { tr := .nil, nx := 0 } v = true) (hv : flatA v = true) : SumsOK P (sumConst g v) := by
  intro K ρ h w f args cargs u h' hR ha hs
  unfold sumConst at hs
  rw [nat_beq_dec] at hs
  by_cases hf : f = g
  · subst hf
    simp only [decide_true, cond_true] at hs
    split at hs
    · cases hs
      obtain ⟨h0', hc⟩ := run_of hr
      exact sumKept_ok hS hc hv (rel_empty w) (vrs_scalar (by rfl) ha) hR
    · cases hs
  · simp only [hf, decide_false, cond_false] at hs
    cases hs

def lookT : List (List Nat × AV) → List Nat → Option AV
  | [], _ => none
  | e :: r, key => cond (eqL e.1 key) (some e.2) (lookT r key)
theorem eqL_same : ∀ {l m : List Nat}, eqL l m = true → l = m
  | [], [], _ => rfl
  | a :: l, b :: m, h => by
    simp only [eqL, Bool.and_eq_true] at h
    rw [Nat.eq_of_beq_eq_true h.1, eqL_same h.2]
  | [], _ :: _, h => by cases h
  | _ :: _, [], h => by cases h
theorem lookT_mem : ∀ {t : List (List Nat × AV)} {key : List Nat} {v : AV}, lookT t key = some v → (key, v) ∈ t
  | [], _, _, h => by cases h
  | e :: r, key, v, h => by
    unfold lookT at h
    cases he : eqL e.1 key with
    | true =>
      rw [he] at h
      cases h
      rw [← eqL_same he]
      exact List.mem_cons_self ..
    | false =>
      rw [he] at h
      exact List.mem_cons_of_mem _ (lookT_mem h)

noncomputable def okNB (P : Program) (S : Sums) (k : Nat) (g : FuncId) (e : List Nat × AV) : Bool :=
  match e.1 with
  | [p, b] => runsTo P S k g [.int .u64 (.ofNat p), .bool (Nat.beq b 1)] { tr := .nil, nx := 0 } e.2 && flatA e.2
  | _ => false
def tableNB (g : FuncId) (t : List (List Nat × AV)) : Sums := fun f args h => cond (Nat.beq f g) (match args with
  | [.int .u64 (.ofNat p), .bool b] => (lookT t [p, cond b 1 0]).map fun v => (v, h)
  | _ => none) none
theorem tableNB_ok (hS : SumsOK P S) {k : Nat} {g : FuncId} {t : List (List Nat × AV)} (ht : t.all (okNB P S k g) = true) : SumsOK P (tableNB g t) := by
  intro K ρ h w f args cargs u h' hR ha hs
  unfold tableNB at hs
  rw [nat_beq_dec] at hs
  by_cases hf : f = g
  · subst hf
    simp only [decide_true, cond_true] at hs
    split at hs
    · rename_i p b
      rw [Option.map_eq_some_iff] at hs
      obtain ⟨v, h1, h2⟩ := hs
      cases h2
      rw [List.all_eq_true] at ht
      have h3 := ht _ (lookT_mem h1)
      simp only [okNB, Bool.and_eq_true] at h3
      obtain ⟨h0', hc⟩ := run_of h3.1
      have hb : Nat.beq (cond b 1 0) 1 = b := by cases b <;> rfl
      rw [hb] at hc
      exact sumKept_ok hS hc h3.2 (rel_empty w) (vrs_scalar (by rfl) ha) hR
    · cases hs
  · simp only [hf, decide_false, cond_false] at hs
    cases hs

noncomputable def okCapt (P : Program) (S : Sums) (k : Nat) (g g' : FuncId) (e : List Nat × AV) : Bool :=
  match e.1 with
  | [p] => runsTo P S k g [.func (.func g') [] [.ptr 0 0]] (oneH [.int .u64 (.ofNat p)]) e.2 && flatA e.2
  | _ => false
noncomputable def tableCapt (g g' : FuncId) (t : List (List Nat × AV)) : Sums := fun f args h => cond (Nat.beq f g) (match args with
  | [.func (.func q) [] [.ptr id off]] => cond (Nat.beq q g') (match cellsAt h id off 1 with
    | some [.int .u64 (.ofNat p)] => (lookT t [p]).map fun v => (v, h)
    | _ => none) none
  | _ => none) none
theorem tableCapt_ok (hS : SumsOK P S) {k : Nat} {g g' : FuncId} {t : List (List Nat × AV)} (ht : t.all (okCapt P S k g g') = true) : SumsOK P (tableCapt g g' t) := by
  intro K ρ h w f args cargs u h' hR ha hs
  unfold tableCapt at hs
  rw [nat_beq_dec] at hs
  by_cases hf : f = g
  · subst hf
    simp only [decide_true, cond_true] at hs
    split at hs
    · rename_i q id off
      rw [nat_beq_dec] at hs
      by_cases hq : q = g'
      · subst hq
        simp only [decide_true, cond_true] at hs
        split at hs
        · rename_i p hl
          rw [Option.map_eq_some_iff] at hs
          obtain ⟨v, h1, h2⟩ := hs
          cases h2
          rw [List.all_eq_true] at ht
          have h3 := ht _ (lookT_mem h1)
          simp only [okCapt, Bool.and_eq_true] at h3
          obtain ⟨h0', hc⟩ := run_of h3.1
          exact sumCapt_ok hS hc h3.2 rfl hl ha hR
        · cases hs
      · simp only [hq, decide_false, cond_false] at hs
        cases hs
    · cases hs
  · simp only [hf, decide_false, cond_false] at hs
    cases hs

theorem bytesA_map : ∀ {l : List AV} {bs : List Nat}, bytesA l = some bs → l = bs.map fun b => AV.int .u8 (.ofNat b)
  | [], bs, h => by cases h; rfl
  | a :: l, bs, h => by
    unfold bytesA at h
    split at h
    · rename_i h0; cases h0
    · rename_i n r h0
      cases h0
      split at h
      · rename_i m
        split at h
        · rw [Option.map_eq_some_iff] at h
          obtain ⟨bs', h1, rfl⟩ := h
          rw [bytesA_map h1]
          rfl
        · cases h
      · cases h
    · cases h
noncomputable def okBytes (P : Program) (S : Sums) (k : Nat) (g : FuncId) (e : List Nat × AV) : Bool :=
  runsTo P S k g [.sl 0 0 e.1.length 1 none] (oneH (e.1.map fun b => AV.int .u8 (.ofNat b))) e.2 && flatA e.2
noncomputable def tableBytes (g : FuncId) (t : List (List Nat × AV)) : Sums := fun f args h => cond (Nat.beq f g) (match args with
  | [.sl id off len sz _] => cond (Nat.beq sz 1) ((cellsAt h id off len).bind fun l => (bytesA l).bind fun bs => (lookT t bs).map fun v => (v, h)) none
  | _ => none) none
theorem cellsAt_length {h : AH} {id off n : Nat} {l : List AV} (hc : cellsAt h id off n = some l) : l.length = n := by
  unfold cellsAt at hc
  split at hc
  · split at hc
    · cases hc
      rw [List.length_take, List.length_drop]; omega
    · cases hc
  · cases hc
theorem tableBytes_ok (hS : SumsOK P S) {k : Nat} {g : FuncId} {t : List (List Nat × AV)} (ht : t.all (okBytes P S k g) = true) : SumsOK P (tableBytes g t) := by
  intro K ρ h w f args cargs u h' hR ha hs
  unfold tableBytes at hs
  rw [nat_beq_dec] at hs
  by_cases hf : f = g
  · subst hf
    simp only [decide_true, cond_true] at hs
    split at hs
    · rename_i id off len sz c
      rw [nat_beq_dec] at hs
      by_cases hz : sz = 1
      · subst hz
        simp only [decide_true, cond_true, Option.bind_eq_some_iff, Option.map_eq_some_iff] at hs
        obtain ⟨l, hl, bs, hb, v, h1, h2⟩ := hs
        cases h2
        rw [List.all_eq_true] at ht
        have h3 := ht _ (lookT_mem h1)
        simp only [okBytes, Bool.and_eq_true] at h3
        obtain ⟨h0', hc⟩ := run_of h3.1
        have hlen := cellsAt_length hl
        have hm := bytesA_map hb
        rw [hm, List.length_map] at hlen
        subst hlen
        rw [hm] at hl
        have hlm : (bs.map fun b => AV.int .u8 (.ofNat b)).length = bs.length := List.length_map _
        rw [← hlm] at hc hl ha
        exact sumSlice_ok hS hc h3.2 (by rw [List.all_map]; simp [scalarA]) hl ha hR
      · simp only [hz, decide_false, cond_false] at hs
        cases hs
    · cases hs
  · simp only [hf, decide_false, cond_false] at hs
    cases hs

end
end Go.Abs
end

section
namespace Go.Abs
open Go
set_option linter.unusedVariables false

section
variable {P : Program} {S : Sums}

theorem sumFresh_ok (hS : SumsOK P S) {f : FuncId} {args0 : List AV} {h0 : AH} {id n : Nat} {l : List AV} {txt : Bool} {ρ0 : Pm}
    (hc : RnC P S f args0 h0 fun v h' => ∃ id, v = .sl id 0 n 1 none ∧ h'.get id = some (.cells l true txt)) (hs : l.all scalarA = true)
    {K : Kp} {ρ : Pm} {h : AH} {w : World} {cargs : Array Value} (hR0 : Rel (keptAll w) ρ0 h0 w) (ha : VRs ρ0 args0 cargs.toList) (hR : Rel K ρ h w) : CallRes P f cargs w (CallPost K h ρ (.sl h.nx 0 n 1 none) (h.new (.cells l true txt))) := by
  obtain ⟨k, v, h0', hc, id, rfl, hg⟩ := hc
  refine ((evN_sound hS k).call (keptAll w) ρ0 h0 w f args0 cargs _ h0' hR0 ha hc).mono fun cv w' hp => ?_
  obtain ⟨ρ', _, hvr, hR'⟩ := hp
  obtain ⟨p, hpi, hor, hown, -⟩ := hR'.obj id _ hg
  have hpb : w.heap.size ≤ p.b := (hown rfl).2
  have hnone : ρ h.nx = none := hR.fresh _ (Nat.le_refl _)
  have hle : ρ.le (ρ.put h.nx p) := Pm.le_put hnone
  have hold : ∀ b, b < w.heap.size → w'.heap[b]? = w.heap[b]? := fun b hb => by
    have h1 : w.heap[b]? = some w.heap[b] := by simp
    rw [h1]
    exact hR'.keep b _ h1
  have hlt : ∀ i o q, h.get i = some o → ρ i = some q → q.b < w.heap.size := fun i o q hi hq => by
    obtain ⟨q', hq', hq2, -⟩ := hR.obj i o hi
    rw [hq] at hq'
    cases hq'
    cases hb : w.heap[q.b]? with
    | some x => exact (Array.getElem?_eq_some_iff.1 hb).1
    | none =>
      rw [hb] at hq2
      exact (or_none hq2).elim
  refine ⟨ρ.put h.nx p, Ext.put hnone, ?_, ⟨hR'.os.trans hR.os, hR'.tape.trans hR.tape, hR'.output.trans hR.output, Nat.le_trans hR.size hR'.size, fun b o hb => hR'.keep b o (hR.keep b o hb), fun i hi => ?_, fun i o hi => ?_, fun i j oi oj pi pj hi hj ho ho' hpi hpj hb => ?_⟩⟩
  · cases hvr with
    | sl h1 hl2 ha2 hx hc2 =>
      rw [hpi] at h1
      cases h1
      exact .sl (Pm.put_self _ _ _) hl2 ha2 hx hc2
  · have hi' : h.nx + 1 ≤ i := hi
    have hne : i ≠ h.nx := by omega
    simp only [Pm.put, if_neg hne]
    exact hR.fresh i (by omega)
  · rw [AH.get_new] at hi
    by_cases he : i = h.nx
    · subst he
      rw [if_pos rfl] at hi
      cases hi
      refine ⟨p, Pm.put_self _ _ _, ?_, fun _ => ⟨?_, Nat.le_trans hR.size hpb⟩, fun h => by cases h⟩
      · obtain ⟨c, e, fr, h1, h2, h3, h4, h5⟩ := hor
        refine ⟨c, e, fr, h1, h2, h3, fun k a hk => ?_, h5⟩
        obtain ⟨u, hu, hr⟩ := h4 k a hk
        refine ⟨u, hu, vr_scalar ?_ hr⟩
        rw [List.all_eq_true] at hs
        exact hs a (List.mem_of_getElem? hk)
      · cases hk : K.at_ p.b with
        | none => rfl
        | some o' => have := hR.size_le _ _ hk; omega
    · rw [if_neg he] at hi
      obtain ⟨q, hq1, hq2, hq3⟩ := hR.obj i o hi
      have hqb := hlt i o q hi hq1
      refine ⟨q, hle _ _ hq1, ?_, hq3⟩
      rw [hold _ hqb]
      exact OR.mono hle hq2
  · rw [AH.get_new] at hi hj
    by_cases he : i = h.nx
    · by_cases he' : j = h.nx
      · rw [he, he']
      · rw [if_neg he'] at hj
        rw [he, Pm.put_self] at hpi
        cases hpi
        simp only [Pm.put, if_neg he'] at hpj
        have := hlt j oj pj hj hpj
        omega
    · rw [if_neg he] at hi
      simp only [Pm.put, if_neg he] at hpi
      by_cases he' : j = h.nx
      · rw [he', Pm.put_self] at hpj
        cases hpj
        have := hlt i oi pi hi hpi
        omega
      · rw [if_neg he'] at hj
        simp only [Pm.put, if_neg he'] at hpj
        exact hR.inj i j oi oj pi pj hi hj ho ho' hpi hpj hb

noncomputable def sumRow (g : FuncId) (t : List (Nat × List AV)) : Sums := fun f args h => cond (Nat.beq f g) (match args with
  | [.int .i64 (.ofNat n)] => (t.find? fun e => Nat.beq e.1 n).map fun e => (.sl h.nx 0 e.2.length 1 none, h.new (.cells e.2 true false))
  | _ => none) none
theorem sumRow_ok (hS : SumsOK P S) {g : FuncId} {t : List (Nat × List AV)}
    (ht : ∀ e ∈ t, e.2.all scalarA = true ∧ RnC P S g [.int .i64 (.ofNat e.1)] { tr := .nil, nx := 0 } fun v h' => ∃ id, v = .sl id 0 e.2.length 1 none ∧ h'.get id = some (.cells e.2 true false)) : SumsOK P (sumRow g t) := by
  intro K ρ h w f args cargs u h' hR ha hs
  unfold sumRow at hs
  rw [nat_beq_dec] at hs
  by_cases hf : f = g
  · subst hf
    simp only [decide_true, cond_true] at hs
    split at hs
    · rename_i n
      rw [Option.map_eq_some_iff] at hs
      obtain ⟨e, h1, h2⟩ := hs
      cases h2
      have hm := List.mem_of_find?_eq_some h1
      have hn : e.1 = n := by have := List.find?_some h1; exact Nat.eq_of_beq_eq_true this
      subst hn
      obtain ⟨hall, hc⟩ := ht e hm
      exact sumFresh_ok (id := 0) hS hc hall (rel_empty w) (vrs_scalar (by rfl) ha) hR
    · cases hs
  · simp only [hf, decide_false, cond_false] at hs
    cases hs

def sumNums (g : FuncId) (val : List AV → Option AV) : Sums := fun f args h => cond (Nat.beq f g) ((val args).map fun v => (v, h)) none
theorem sumNums_ok (hS : SumsOK P S) {g : FuncId} {val : List AV → Option AV} (hv : ∀ args v, val args = some v → args.all scalarA = true ∧ flatA v = true ∧ RnC P S g args { tr := .nil, nx := 0 } fun u _ => u = v) : SumsOK P (sumNums g val) := by
  intro K ρ h w f args cargs u h' hR ha hs
  unfold sumNums at hs
  rw [nat_beq_dec] at hs
  by_cases hf : f = g
  · subst hf
    simp only [decide_true, cond_true, Option.map_eq_some_iff] at hs
    obtain ⟨v, h1, h2⟩ := hs
    cases h2
    obtain ⟨h3, h4, h5⟩ := hv _ _ h1
    exact sumScalar_ok hS h3 h5 h4 ha hR
  · simp only [hf, decide_false, cond_false] at hs
    cases hs

end
end Go.Abs
end

section
namespace Go.Abs
open Go
set_option linter.unusedVariables false

section
variable {P : Program} {S : Sums}

/-! ### The same value, the same object -/
def sameI : Int → Int → Bool
  | .ofNat a, .ofNat b => Nat.beq a b
  | .negSucc a, .negSucc b => Nat.beq a b
  | _, _ => false
theorem sameI_eq : ∀ {a b : Int}, sameI a b = true → a = b
  | .ofNat a, .ofNat b, h => by rw [Nat.eq_of_beq_eq_true h]
  | .negSucc a, .negSucc b, h => by rw [Nat.eq_of_beq_eq_true h]
  | .ofNat _, .negSucc _, h => by cases h
  | .negSucc _, .ofNat _, h => by cases h
def sameO : Option Nat → Option Nat → Bool
  | none, none => true
  | some a, some b => Nat.beq a b
  | _, _ => false
theorem sameO_eq : ∀ {a b : Option Nat}, sameO a b = true → a = b
  | none, none, _ => rfl
  | some a, some b, h => by rw [Nat.eq_of_beq_eq_true h]
  | none, some _, h => by cases h
  | some _, none, h => by cases h
def sameF : Fn → Fn → Bool
  | .func a, .func b => Nat.beq a b
  | _, _ => false
theorem sameF_eq : ∀ {a b : Fn}, sameF a b = true → a = b := by
  intro a b h
  cases a <;> cases b <;> first
    | (cases h; done)
    | (rw [Nat.eq_of_beq_eq_true h]; done)

def sameV : Nat → AV → AV → Bool
  | 0, _, _ => false
  | f + 1, a, b => match a, b with
    | .bool a, .bool b => cond a b (!b)
    | .int k a, .int k' b => cond (sameI a b) (decide (k = k')) false
    | .str a, .str b => eqL a b
    | .nilptr, .nilptr => true
    | .ptr i a, .ptr j b => cond (Nat.beq i j) (Nat.beq a b) false
    | .nilsl, .nilsl => true
    | .sl i a l s c, .sl j b l' s' c' => cond (Nat.beq i j) (cond (Nat.beq a b) (cond (Nat.beq l l') (cond (Nat.beq s s') (sameO c c') false) false) false) false
    | .nilmap, .nilmap => true
    | .map i, .map j => Nat.beq i j
    | .func a l m, .func b l' m' => cond (sameF a b) (cond (sameL (sameV f) l l') (sameL (sameV f) m m') false) false
    | .nilfunc, .nilfunc => true
    | .iface t v, .iface t' v' => cond (Nat.beq t t') (sameV f v v') false
    | .nilif, .nilif => true
    | .agg l, .agg m => sameL (sameV f) l m
    | .tup l, .tup m => sameL (sameV f) l m
    | _, _ => false

theorem cond3 {a b : Bool} (h : cond a b false = true) : a = true ∧ b = true := by
  cases a
  · cases h
  · exact ⟨rfl, h⟩

theorem sameV_eq : ∀ (f : Nat) (a b : AV), sameV f a b = true → a = b := by
  intro f
  induction f with
  | zero => intro a b h; cases h
  | succ f ih =>
    intro a b h
    cases a <;> cases b <;> first
      | (cases h; done)
      | rfl
      | skip
    · rename_i a b
      cases a <;> cases b <;> first | rfl | cases h
    · obtain ⟨h1, h2⟩ := cond3 h
      rw [sameI_eq h1, of_decide_eq_true h2]
    · rw [eqL_same h]
    · obtain ⟨h1, h2⟩ := cond3 h
      rw [Nat.eq_of_beq_eq_true h1, Nat.eq_of_beq_eq_true h2]
    · obtain ⟨h1, h2⟩ := cond3 h
      obtain ⟨h2, h3⟩ := cond3 h2
      obtain ⟨h3, h4⟩ := cond3 h3
      obtain ⟨h4, h5⟩ := cond3 h4
      rw [Nat.eq_of_beq_eq_true h1, Nat.eq_of_beq_eq_true h2, Nat.eq_of_beq_eq_true h3, Nat.eq_of_beq_eq_true h4, sameO_eq h5]
    · rw [Nat.eq_of_beq_eq_true h]
    · obtain ⟨h1, h2⟩ := cond3 h
      obtain ⟨h2, h3⟩ := cond3 h2
      rw [sameF_eq h1, sameL_eq ih h2, sameL_eq ih h3]
    · obtain ⟨h1, h2⟩ := cond3 h
      rw [Nat.eq_of_beq_eq_true h1, ih _ _ h2]
    · rw [sameL_eq ih h]
    · rw [sameL_eq ih h]

def sameE : List (AV × AV) → List (AV × AV) → Bool
  | [], [] => true
  | a :: l, b :: m => cond (sameV 20 a.1 b.1) (cond (sameV 20 a.2 b.2) (sameE l m) false) false
  | _, _ => false
theorem sameE_eq : ∀ {l m : List (AV × AV)}, sameE l m = true → l = m
  | [], [], _ => rfl
  | (a, b) :: l, (c, d) :: m, h => by
    obtain ⟨h1, h2⟩ := cond3 h
    obtain ⟨h2, h3⟩ := cond3 h2
    rw [show a = c from sameV_eq _ _ _ h1, show b = d from sameV_eq _ _ _ h2, sameE_eq h3]
  | [], _ :: _, h => by cases h
  | _ :: _, [], h => by cases h
def sameB (a b : Bool) : Bool := cond a b (!b)
theorem sameB_eq : ∀ {a b : Bool}, sameB a b = true → a = b := by intro a b h; cases a <;> cases b <;> first | rfl | cases h

def sameAO : AO → AO → Bool
  | .cells l o t, .cells m o' t' => cond (sameB o o') (cond (sameB t t') (sameL (sameV 20) l m) false) false
  | .map es bs ck, .map fs cs ck' => cond (Nat.beq ck ck') (cond (eqL bs cs) (sameE es fs) false) false
  | .defs a, .defs b => sameB a b
  | .sit s p, .sit s' p' => cond (Nat.beq p p') (eqL s s') false
  | _, _ => false
theorem sameAO_eq {a b : AO} (h : sameAO a b = true) : a = b := by
  cases a <;> cases b <;> first
    | (cases h; done)
    | skip
  · obtain ⟨h1, h2⟩ := cond3 h
    obtain ⟨h2, h3⟩ := cond3 h2
    rw [sameB_eq h1, sameB_eq h2, sameL_eq (sameV_eq 20) h3]
  · obtain ⟨h1, h2⟩ := cond3 h
    obtain ⟨h2, h3⟩ := cond3 h2
    rw [Nat.eq_of_beq_eq_true h1, eqL_same h2, sameE_eq h3]
  · rw [sameB_eq h]
  · obtain ⟨h1, h2⟩ := cond3 h
    rw [Nat.eq_of_beq_eq_true h1, eqL_same h2]

/-! ### Parts of a heap -/
noncomputable def objsIn : List (Nat × AO) → AH → Bool
  | [], _ => true
  | e :: r, h => cond (match h.get e.1 with | some o => sameAO o e.2 | none => false) (objsIn r h) false
theorem objsIn_get : ∀ {l : List (Nat × AO)} {h : AH}, objsIn l h = true → ∀ e ∈ l, h.get e.1 = some e.2
  | [], _, _, _, he => by cases he
  | x :: r, h, hh, e, he => by
    obtain ⟨h1, h2⟩ := cond3 hh
    rcases List.mem_cons.1 he with rfl | he
    · split at h1
      · rename_i o ho
        rw [ho, sameAO_eq h1]
      · cases h1
    · exact objsIn_get h2 e he
noncomputable def dropAll : List (Nat × AO) → AH → AH
  | [], h => h
  | e :: r, h => dropAll r (h.del e.1)
theorem absorb_get : ∀ (l : List (Nat × AO)) (h : AH) (i : Nat) (o : AO), (absorb l h).get i = some o → (i, o) ∈ l ∨ ((∀ e ∈ l, e.1 ≠ i) ∧ h.get i = some o)
  | [], _, _, _, hg => .inr ⟨(fun _ he => by cases he), hg⟩
  | (j, x) :: r, h, i, o, hg => by
    rcases absorb_get r (h.put j x) i o hg with h1 | ⟨h1, h2⟩
    · exact .inl (List.mem_cons_of_mem _ h1)
    · rw [AH.get_put] at h2
      by_cases he : i = j
      · rw [if_pos he] at h2
        cases h2
        subst he
        exact .inl (List.mem_cons_self ..)
      · rw [if_neg he] at h2
        refine .inr ⟨fun e hm => ?_, h2⟩
        rcases List.mem_cons.1 hm with rfl | hm
        · exact fun e => he e.symm
        · exact h1 e hm
theorem dropAll_get : ∀ (l : List (Nat × AO)) (h : AH) (i : Nat) (o : AO), (dropAll l h).get i = some o → (∀ e ∈ l, e.1 ≠ i) ∧ h.get i = some o
  | [], _, _, _, hg => ⟨(fun _ he => by cases he), hg⟩
  | x :: r, h, i, o, hg => by
    obtain ⟨h1, h2⟩ := dropAll_get r (h.del x.1) i o hg
    rw [AH.get_del] at h2
    by_cases he : i = x.1
    · rw [if_pos he] at h2; cases h2
    · rw [if_neg he] at h2
      refine ⟨fun e hm => ?_, h2⟩
      rcases List.mem_cons.1 hm with rfl | hm
      · exact fun e => he e.symm
      · exact h1 e hm
theorem dropAll_nx : ∀ (l : List (Nat × AO)) (h : AH), (dropAll l h).nx = h.nx
  | [], _ => rfl
  | x :: r, h => dropAll_nx r (h.del x.1)

structure Ck where
  g : FuncId
  args : List AV
  nx : Nat
  keep : List (Nat × AO)
  chg : List (Nat × AO)
  v : AV
  nx' : Nat
  out : List (Nat × AO)
noncomputable def Ck.mini (c : Ck) : AH := absorb c.chg (absorb c.keep { tr := .nil, nx := c.nx })
noncomputable def sumCk (c : Ck) : Sums := fun f args h =>
  cond (Nat.beq f c.g) (cond (Nat.beq h.nx c.nx) (cond (sameL (sameV 20) args c.args) (cond (objsIn c.keep h) (cond (objsIn c.chg h)
    (some (c.v, { tr := (absorb c.out (dropAll c.chg h)).tr, nx := c.nx' })) none) none) none) none) none
noncomputable def okCk (P : Program) (S : Sums) (k : Nat) (c : Ck) : Bool :=
  @Option.rec (AV × AH) (fun _ => Bool) false (fun r => cond (sameV 20 r.1 c.v) (cond (Nat.beq r.2.nx c.nx') (cond (objsIn c.keep r.2) (objsIn c.out r.2) false) false) false) ((fN P S k).call c.g c.args c.mini)
noncomputable def u8s (l : List Nat) : List AV := @List.rec Nat (fun _ => List AV) [] (fun n _ ih => AV.int .u8 (.ofNat n) :: ih) l

theorem or_some {ρ : Pm} {p : Pl} {o : AO} {x : Option Obj} (h : OR ρ p o x) : ∃ y, x = some y := by
  cases x with
  | some y => exact ⟨y, rfl⟩
  | none => exact (or_none h).elim

def aside (h : AH) (ρ : Pm) (ids : List (Nat × AO)) (b : Nat) : Prop := ∃ i o p, h.get i = some o ∧ o.own = true ∧ (∀ e ∈ ids, e.1 ≠ i) ∧ ρ i = some p ∧ p.b = b

open Classical in
noncomputable def keepMore (K : Kp) (h : AH) (ρ : Pm) (ids : List (Nat × AO)) (w : World) (hk : ∀ b o, K.at_ b = some o → w.heap[b]? = some o) : Kp :=
  { os := K.os, tape := K.tape, output := K.output, size := K.size, at_ := fun b => if aside h ρ ids b then w.heap[b]? else K.at_ b, ro := K.ro,
    roAt := fun b hb => by
      have h1 := K.roAt b hb
      split
      · obtain ⟨o, ho⟩ := Option.isSome_iff_exists.1 h1
        rw [hk b o ho]; rfl
      · exact h1 }

theorem sumCk_ok (hS : SumsOK P S) {k : Nat} {c : Ck} (hc : okCk P S k c = true) : SumsOK P (sumCk c) := by
  intro K ρ h w f args cargs u h' hR ha hs
  unfold sumCk at hs
  have hs1 : Nat.beq f c.g = true ∧ Nat.beq h.nx c.nx = true ∧ sameL (sameV 20) args c.args = true ∧ objsIn c.keep h = true ∧ objsIn c.chg h = true ∧ c.v = u ∧ ({ tr := (absorb c.out (dropAll c.chg h)).tr, nx := c.nx' } : AH) = h' := by
    cases h1 : Nat.beq f c.g <;> rw [h1] at hs
    · cases hs
    cases h2 : Nat.beq h.nx c.nx <;> rw [h2] at hs
    · cases hs
    cases h3 : sameL (sameV 20) args c.args <;> rw [h3] at hs
    · cases hs
    cases h4 : objsIn c.keep h <;> rw [h4] at hs
    · cases hs
    cases h5 : objsIn c.chg h <;> rw [h5] at hs
    · cases hs
    simp only [cond_true, Option.some.injEq, Prod.mk.injEq] at hs
    exact ⟨rfl, rfl, rfl, rfl, rfl, hs.1, hs.2⟩
  obtain ⟨h1, h2, h3, h4, h5, rfl, rfl⟩ := hs1
  have h1 := Nat.eq_of_beq_eq_true h1
  have h2 := Nat.eq_of_beq_eq_true h2
  have h3 := sameL_eq (sameV_eq 20) h3
  have h4 := objsIn_get h4
  have h5 := objsIn_get h5
  subst h1 h3
  have hrun : ∃ h1, (evN P S k).call c.g c.args c.mini = some (c.v, h1) ∧ h1.nx = c.nx' ∧ objsIn c.keep h1 = true ∧ objsIn c.out h1 = true := by
    unfold okCk at hc
    rw [fN_eq] at hc
    cases hr : (evN P S k).call c.g c.args c.mini with
    | none => rw [hr] at hc; cases hc
    | some r =>
      rw [hr] at hc
      obtain ⟨e1, e2⟩ := cond3 hc
      obtain ⟨e2, e3⟩ := cond3 e2
      obtain ⟨e3, e4⟩ := cond3 e3
      exact ⟨r.2, by rw [← sameV_eq _ _ _ e1], Nat.eq_of_beq_eq_true e2, e3, e4⟩
  obtain ⟨h1, hrun, hnx, hkp, hout⟩ := hrun
  have hkp := objsIn_get hkp
  have hout := objsIn_get hout
  have hmini : ∀ i o, c.mini.get i = some o → h.get i = some o ∧ ∃ e ∈ c.keep ++ c.chg, e.1 = i := fun i o hg => by
    rcases absorb_get _ _ _ _ hg with h6 | ⟨-, h6⟩
    · exact ⟨h5 _ h6, _, List.mem_append_right _ h6, rfl⟩
    · rcases absorb_get _ _ _ _ h6 with h7 | ⟨-, h7⟩
      · exact ⟨h4 _ h7, _, List.mem_append_left _ h7, rfl⟩
      · simp [AH.get] at h7
  let K' := keepMore K h ρ (c.keep ++ c.chg) w hR.keep
  have hat : ∀ b, aside h ρ (c.keep ++ c.chg) b → K'.at_ b = w.heap[b]? := fun b hb => if_pos hb
  have hat' : ∀ b, ¬ aside h ρ (c.keep ++ c.chg) b → K'.at_ b = K.at_ b := fun b hb => if_neg hb
  have hatK : ∀ b o, K.at_ b = some o → K'.at_ b = some o := fun b o ho => by
    by_cases hb : aside h ρ (c.keep ++ c.chg) b
    · rw [hat b hb]; exact hR.keep b o ho
    · rw [hat' b hb]; exact ho
  have hatN : ∀ b, K'.at_ b = none → K.at_ b = none := fun b hb => by
    cases hk : K.at_ b with
    | none => rfl
    | some o => rw [hatK b o hk] at hb; cases hb
  have hR0 : Rel K' ρ c.mini w := by
    refine ⟨hR.os, hR.tape, hR.output, hR.size, fun b o hb => ?_, fun id hid => hR.fresh id ?_, fun id o hg => ?_, fun i j oi oj pi pj hi hj => hR.inj i j oi oj pi pj (hmini i oi hi).1 (hmini j oj hj).1⟩
    · by_cases hbb : aside h ρ (c.keep ++ c.chg) b
      · rw [hat b hbb] at hb; exact hb
      · rw [hat' b hbb] at hb; exact hR.keep b o hb
    · rw [h2]
      have h6 : c.mini.nx = c.nx := (absorb_nx _ _).trans (absorb_nx _ _)
      rw [← h6]; exact hid
    · obtain ⟨hg', e, he, hei⟩ := hmini id o hg
      obtain ⟨p, hp, hor, how, hro⟩ := hR.obj id o hg'
      refine ⟨p, hp, hor, fun ho => ⟨?_, (how ho).2⟩, hro⟩
      rw [hat' _ ?_]
      · exact (how ho).1
      · rintro ⟨i, o', q, hi, hoo, hni, hq, hqb⟩
        exact hni e he (hei.trans (hR.inj id i o o' p q hg' hi ho hoo hp hq hqb.symm))
  refine ((evN_sound hS k).call K' ρ c.mini w c.g c.args cargs c.v h1 hR0 ha hrun).mono fun cv w' hp => ?_
  obtain ⟨ρ', hext, hvr, hR'⟩ := hp
  have hmnx : c.mini.nx = h.nx := ((absorb_nx _ _).trans (absorb_nx _ _)).trans h2.symm
  have hget : ∀ i o, (absorb c.out (dropAll c.chg h)).get i = some o → h1.get i = some o ∨ (h.get i = some o ∧ ∀ e ∈ c.keep ++ c.chg, e.1 ≠ i) := fun i o hg => by
    rcases absorb_get _ _ _ _ hg with h6 | ⟨-, h6⟩
    · exact .inl (hout _ h6)
    · obtain ⟨h7, h8⟩ := dropAll_get _ _ _ _ h6
      by_cases hk : ∃ e ∈ c.keep, e.1 = i
      · obtain ⟨e, he, rfl⟩ := hk
        have h9 := (h4 e he).symm.trans h8
        cases h9
        exact .inl (hkp e he)
      · refine .inr ⟨h8, fun e he => ?_⟩
        rcases List.mem_append.1 he with he | he
        · exact fun hi => hk ⟨e, he, hi⟩
        · exact h7 e he
  have hsame : ∀ i o p, h.get i = some o → (∀ e ∈ c.keep ++ c.chg, e.1 ≠ i) → ρ i = some p → OR ρ p o w.heap[p.b]? → (o.own = false → K.ro p.b = true) → w'.heap[p.b]? = w.heap[p.b]? := fun i o p hg hn hp hor hro => by
    obtain ⟨y, hy⟩ := or_some hor
    cases how : o.own with
    | true =>
      have hb : aside h ρ (c.keep ++ c.chg) p.b := ⟨i, o, p, hg, how, hn, hp, rfl⟩
      rw [hy]
      exact hR'.keep p.b y ((hat _ hb).trans hy)
    | false =>
      have h5 := K.roAt _ (hro how)
      obtain ⟨z, hz⟩ := Option.isSome_iff_exists.1 h5
      rw [hR.keep _ _ hz]
      exact hR'.keep p.b z (hatK _ _ hz)
  have hapart : ∀ i j oi oj pi pj, h1.get i = some oi → h.get j = some oj → (∀ e ∈ c.keep ++ c.chg, e.1 ≠ j) → oi.own = true → oj.own = true → ρ' i = some pi → ρ' j = some pj → pi.b ≠ pj.b := fun i j oi oj pi pj hi hj hn hoi hoj hpi hpj he => by
    obtain ⟨p, hp, -, how, -⟩ := hR'.obj i oi hi
    rw [hpi] at hp
    cases hp
    obtain ⟨q, hq, hor, -, -⟩ := hR.obj j oj hj
    have := hext.le _ _ hq
    rw [hpj] at this
    cases this
    obtain ⟨y, hy⟩ := or_some hor
    have hb : aside h ρ (c.keep ++ c.chg) pj.b := ⟨j, oj, pj, hj, hoj, hn, hq, rfl⟩
    have h6 := (how hoi).1
    rw [he, hat _ hb, hy] at h6
    cases h6
  refine ⟨ρ', ⟨hext.le, ?_, fun id hid => hext.old id (by rw [hmnx]; exact hid)⟩, hvr, ⟨hR'.os, hR'.tape, hR'.output, hR'.size, fun b o hb => hR'.keep b o (hatK b o hb), fun id hid => hR'.fresh id (by rw [hnx]; exact hid), fun id o hg => ?_, fun i j oi oj pi pj hi hj hoi hoj hpi hpj hb => ?_⟩⟩
  · show h.nx ≤ c.nx'
    rw [← hnx, ← hmnx]; exact hext.nx
  · rcases hget id o hg with h5 | ⟨h5, h6⟩
    · obtain ⟨p, hp, hor, how, hro⟩ := hR'.obj id o h5
      exact ⟨p, hp, hor, fun ho => ⟨hatN _ (how ho).1, (how ho).2⟩, hro⟩
    · obtain ⟨p, hp, hor, how, hro⟩ := hR.obj id o h5
      refine ⟨p, hext.le _ _ hp, ?_, how, hro⟩
      rw [hsame id o p h5 h6 hp hor hro]
      exact hor.mono hext.le
  · have hold : ∀ i o q, h.get i = some o → ρ' i = some q → ρ i = some q := fun i o q hi hq => by
      obtain ⟨p, hp, -⟩ := hR.obj i o hi
      have := hext.le _ _ hp
      rw [hq] at this
      cases this
      exact hp
    rcases hget i oi hi with h5 | ⟨h5, h6⟩
    · rcases hget j oj hj with h7 | ⟨h7, h8⟩
      · exact hR'.inj i j oi oj pi pj h5 h7 hoi hoj hpi hpj hb
      · exact absurd hb (hapart i j oi oj pi pj h5 h7 h8 hoi hoj hpi hpj)
    · rcases hget j oj hj with h7 | ⟨h7, h8⟩
      · exact absurd hb.symm (hapart j i oj oi pj pi h7 h5 h6 hoj hoi hpj hpi)
      · exact hR.inj i j oi oj pi pj h5 h7 hoi hoj (hold i oi pi h5 hpi) (hold j oj pj h7 hpj) hb

noncomputable def sumCks : List Ck → Sums
  | [] => fun _ _ _ => none
  | c :: r => orS (sumCk c) (sumCks r)
theorem sumCks_nil : SumsOK P (sumCks []) := fun _ _ _ _ _ _ _ _ _ _ _ hs => by cases hs
theorem sumCks_cons {c : Ck} {r : List Ck} (hc : SumsOK P (sumCk c)) (hr : SumsOK P (sumCks r)) : SumsOK P (sumCks (c :: r)) := orS_ok hc hr

end
end Go.Abs
end

section
namespace Go.Abs
open Go Go.RowKit Go.Proofs
set_option linter.unusedVariables false

section
variable {P : Program} {ρ : Pm} {w : World} {K : Kp} {h : AH}

/-! ### Texts compared -/
def cmpA : List Nat → List Nat → Int
  | [], [] => 0
  | [], _ :: _ => -1
  | _ :: _, [] => 1
  | a :: l, b :: m => cond (Nat.blt a b) (-1) (cond (Nat.blt b a) 1 (cmpA l m))
theorem cmpA_eq : ∀ l m : List UInt8, cmpA (l.map UInt8.toNat) (m.map UInt8.toNat) = Lib.compareBytes l m
  | [], [] => rfl
  | [], _ :: _ => rfl
  | _ :: _, [] => rfl
  | a :: l, b :: m => by
    simp only [List.map_cons, cmpA, Lib.compareBytes, nat_blt_dec, cmpA_eq l m, UInt8.lt_iff_toNat_lt]
    by_cases h1 : a.toNat < b.toNat
    · simp [h1]
    · by_cases h2 : b.toNat < a.toNat <;> simp [h1, h2]
def sumCmp (args : List AV) (h : AH) : Option (AV × AH) :=
  match args with
  | [.str a, .str b] => some (.int .i64 (cmpA a b), h)
  | _ => none
theorem sumCmp_ok {f : FuncId} (hE : ExtOK P f Extern.BytealgCompare.compare) {args : List AV} {cargs : Array Value} {v : AV} {h' : AH} (hR : Rel K ρ h w) (hv : VRs ρ args cargs.toList) (hs : sumCmp args h = some (v, h')) : CallRes P f cargs w (CallPost K h ρ v h') := by
  unfold sumCmp at hs
  split at hs
  · obtain ⟨cx, cy, rfl, h1, h2⟩ := args2 hv
    cases h1; cases h2
    simp only [Option.some.injEq, Prod.mk.injEq] at hs
    obtain ⟨rfl, rfl⟩ := hs
    refine callRes_ext hE (Lib.run_compareString _ _ w) ⟨ρ, Ext.refl _ _, ?_, hR⟩
    rename_i a b
    rw [show bytesOf a = a.data.toList.map UInt8.toNat from rfl, show bytesOf b = b.data.toList.map UInt8.toNat from rfl, cmpA_eq]
    exact .int _ _
  · simp at hs

/-! ### Texts joined -/
def JoinAt (P : Program) (f : FuncId) : Prop := ∀ (bk o c : Nat) (xs : List ByteArray) (sep : ByteArray) (w : World),
  (∀ (j : Nat) x, xs[j]? = some x → w.cell? ⟨bk, o + j, none⟩ = some (.string x)) → bk < w.heap.size → xs.length ≤ 140737488355328 → xs.length ≤ c →
  (Lib.join (xs.map (·.data.toList)) sep.data.toList).length ≤ 140737488355328 →
  Calls P f #[.slice (some ⟨bk, o, none⟩) xs.length c, .string sep] w fun e w' => e = .returned (.string ⟨(Lib.join (xs.map (·.data.toList)) sep.data.toList).toArray⟩) ∧ Below w.heap.size w w'
def strsA : List AV → Option (List (List Nat))
  | [] => some []
  | .str s :: r => (strsA r).map (s :: ·)
  | _ :: _ => none
def joinA (sep : List Nat) : List (List Nat) → List Nat
  | [] => []
  | [x] => x
  | x :: y :: r => x ++ (sep ++ joinA sep (y :: r))
theorem joinA_eq (sep : List UInt8) : ∀ xs : List (List UInt8), joinA (sep.map UInt8.toNat) (xs.map fun x => x.map UInt8.toNat) = (Lib.join xs sep).map UInt8.toNat
  | [] => rfl
  | [x] => by simp [joinA, Lib.join_one]
  | x :: y :: r => by
    have ih := joinA_eq sep (y :: r)
    simp only [List.map_cons] at ih ⊢
    rw [joinA, ih, Lib.join_cons, Lib.join_cons, Lib.joinTail]
    simp [Lib.joinTail]
noncomputable def sumJoin (args : List AV) (h : AH) : Option (AV × AH) :=
  match args with
  | [.sl id off len sz _, .str sep] => cond (Nat.beq sz 1) (match cellsAt h id off len with
    | some (a :: l) => match strsA (a :: l) with
      | some ss => cond (Nat.ble ss.length 140737488355328) (cond (Nat.ble (joinA sep ss).length 140737488355328) (some (.str (joinA sep ss), h)) none) none
      | none => none
    | _ => none) none
  | _ => none
theorem strsA_len : ∀ {l : List AV} {ss : List (List Nat)}, strsA l = some ss → ss.length = l.length
  | [], ss, h => by cases h; rfl
  | a :: l, ss, h => by
    cases a <;> first | (cases h; done) | skip
    unfold strsA at h
    rw [Option.map_eq_some_iff] at h
    obtain ⟨ss', h6, rfl⟩ := h
    rw [List.length_cons, strsA_len h6, List.length_cons]
theorem strs_cells {b : Nat} : ∀ {l : List AV} {ss : List (List Nat)} {base : Nat}, strsA l = some ss → (∀ (i : Nat) (a : AV), l[i]? = some a → ∃ v, w.cell? ⟨b, base + i, none⟩ = some v ∧ VR ρ a v) →
    ∃ xs : List ByteArray, xs.map bytesOf = ss ∧ ∀ (j : Nat) x, xs[j]? = some x → w.cell? ⟨b, base + j, none⟩ = some (.string x)
  | [], ss, base, hs, _ => by cases hs; exact ⟨[], rfl, fun j x hj => by simp at hj⟩
  | a :: l, ss, base, hs, hc => by
    cases a <;> first | (cases hs; done) | skip
    rename_i s
    unfold strsA at hs
    rw [Option.map_eq_some_iff] at hs
    obtain ⟨ss', h1, rfl⟩ := hs
    obtain ⟨xs, h2, h3⟩ := strs_cells (base := base + 1) h1 (fun i a hi => by
      have := hc (i + 1) a (by simpa using hi)
      rwa [show base + (i + 1) = base + 1 + i by omega] at this)
    obtain ⟨v, hv, hr⟩ := hc 0 _ rfl
    cases hr with
    | str x =>
    refine ⟨x :: xs, by rw [List.map_cons, h2], fun j y hj => ?_⟩
    cases j with
    | zero => cases hj; exact hv
    | succ j =>
      have := h3 j y (by simpa using hj)
      rwa [show base + 1 + j = base + (j + 1) by omega] at this
theorem sumJoin_ok {f : FuncId} (hJ : JoinAt P f) (hb : bodied P f = true) {args : List AV} {cargs : Array Value} {v : AV} {h' : AH} (hR : Rel K ρ h w) (hv : VRs ρ args cargs.toList) (hs : sumJoin args h = some (v, h')) : CallRes P f cargs w (CallPost K h ρ v h') := by
  unfold sumJoin at hs
  split at hs
  · rename_i id off len sz c sep
    cases hz : Nat.beq sz 1 <;> rw [hz] at hs
    · cases hs
    have hz := Nat.eq_of_beq_eq_true hz
    subst hz
    simp only [cond_true] at hs
    split at hs
    · rename_i a l hc
      split at hs
      · rename_i ss hss
        have hs2 : Nat.ble ss.length 140737488355328 = true ∧ Nat.ble (joinA sep ss).length 140737488355328 = true ∧ (AV.str (joinA sep ss), h) = (v, h') := by
          cases h1 : Nat.ble ss.length 140737488355328 <;> rw [h1] at hs
          · cases hs
          cases h2 : Nat.ble (joinA sep ss).length 140737488355328 <;> rw [h2] at hs
          · cases hs
          exact ⟨rfl, rfl, Option.some.inj hs⟩
        obtain ⟨hl1, hl2, hs3⟩ := hs2
        cases hs3
        have hl1 := Nat.le_of_ble_eq_true hl1
        have hl2 := Nat.le_of_ble_eq_true hl2
        have hlen := cellsAt_length hc
        obtain ⟨cx, cy, rfl, h1, h2⟩ := args2 hv
        cases h2 with
        | str sep =>
        cases h1 with
        | sl hp hlc ha hxx hcc =>
        rename_i p ad cap
        have hpos : 0 < len := by rw [← hlen]; simp
        have ha' : ad = ⟨p.b, p.o + off, none⟩ := ha.resolve_left (by omega)
        subst ha'
        unfold cellsAt at hc
        split at hc
        · rename_i cs own text hg
          split at hc
          · rename_i hle
            have hc' := Option.some.inj hc
            obtain ⟨q, hq, hor, -, -⟩ := hR.obj id _ hg
            rw [hp] at hq; cases hq
            obtain ⟨ca, e, fr, g1, g2, g3, g4, -⟩ := hor
            obtain ⟨xs, hx1, hx2⟩ := strs_cells (w := w) (ρ := ρ) (b := p.b) (base := p.o + off) hss (fun i a' hi => by
              have hkl := (List.getElem?_eq_some_iff.1 hi).1
              rw [hlen] at hkl
              have hk2 : cs[off + i]? = some a' := by
                rw [← hc', List.getElem?_take_of_lt hkl, List.getElem?_drop] at hi
                exact hi
              obtain ⟨u, hu, hr⟩ := g4 _ a' hk2
              refine ⟨u, ?_, hr⟩
              simp only [World.cell?, g1]
              rw [Nat.add_assoc]; exact hu)
            have hxl : xs.length = len := by
              have h5 := strsA_len hss
              rw [← hlen, ← h5, ← hx1, List.length_map]
            have hjoin : joinA (bytesOf sep) ss = (Lib.join (xs.map (·.data.toList)) sep.data.toList).map UInt8.toNat := by
              rw [← joinA_eq, List.map_map, ← hx1]
              rfl
            have hcall := hJ p.b (p.o + off) cap xs sep w hx2 (hR.lt hg hp) (by rw [← hx1, List.length_map] at hl1; exact hl1) (by rw [hxl]; exact hlc) (by rw [hjoin, List.length_map] at hl2; exact hl2)
            rw [hxl] at hcall
            refine callRes_body hb (Calls.mono hcall fun e w' ⟨he, hbel⟩ => ⟨_, he, ρ, Ext.refl _ _, ?_, hR.below hbel⟩)
            rw [hjoin]
            have h7 : (Lib.join (xs.map (·.data.toList)) sep.data.toList).map UInt8.toNat = bytesOf ⟨(Lib.join (xs.map (·.data.toList)) sep.data.toList).toArray⟩ := by simp [bytesOf]
            rw [h7]
            exact .str _
          · cases hc
        · cases hc
      · cases hs
    · cases hs
  · cases hs

end
end Go.Abs
end
