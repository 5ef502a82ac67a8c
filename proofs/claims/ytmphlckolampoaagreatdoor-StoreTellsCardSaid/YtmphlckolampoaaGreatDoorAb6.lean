/- The abstract layer, parts 33 to 56. Conditions: none. -/
import Derived.Test.YtmphlckolampoaaGreatDoorAb5
import Derived.Carry
import Derived.ChangeOld
import Derived.WideShapes
set_option linter.unusedVariables false
set_option linter.unusedSimpArgs false

section
namespace Go.Abs
open Go
set_option linter.unusedVariables false

section
variable {P : Program} {S : Sums}

def keptAll (w : World) : Kp := { os := w.os, tape := w.tape, output := w.output, size := w.heap.size, at_ := fun b => w.heap[b]?, ro := fun b => decide (b < w.heap.size), roAt := fun b hb => by simp at hb; simp [hb] }

theorem rel_empty (w : World) : Rel (keptAll w) (fun _ => none) { tr := .nil, nx := 0 } w :=
 ⟨rfl, rfl, rfl, Nat.le_refl _, fun _ _ h => h, fun _ _ => rfl, fun id o hg => by simp [AH.get] at hg, fun i j oi oj pi pj hi => by simp [AH.get] at hi⟩

theorem keptAll_allKept (w : World) : AllKept (keptAll w) w := fun b o h => ⟨h, by simp [keptAll, (Array.getElem?_eq_some_iff.1 h).1]⟩

theorem CallRes.mono {f : FuncId} {cargs : Array Value} {w : World} {Q Q' : Value → World → Prop} (h : CallRes P f cargs w Q) (hq : ∀ v w', Q v w' → Q' v w') : CallRes P f cargs w Q' := by
 obtain ⟨n, w1, h1, h2⟩ := h
 refine ⟨n, w1, h1, ?_⟩
 cases n with
 | enter g a => exact CallsIn.mono h2 fun e w2 ⟨cv, h3, h4⟩ => ⟨cv, h3, hq _ _ h4⟩
 | value cv => exact hq _ _ h2
 | _ => exact h2.elim

theorem sumClosed_ok (hS : SumsOK P S) {f : FuncId} {k : Nat} {v : AV} {h0 : AH} (hc : (evN P S k).call f [] { tr := .nil, nx := 0 } = some (v, h0)) (hv : ∀ ρ ρ' cv, VR ρ v cv → VR ρ' v cv)
  {K : Kp} {ρ : Pm} {h : AH} {w : World} {cargs : Array Value} (hR : Rel K ρ h w) (hargs : VRs ρ [] cargs.toList) : CallRes P f cargs w (CallPost K h ρ v h) := by
 have hcn : cargs = #[] := by
  cases hh : cargs.toList with
  | nil => simpa using hh
  | cons a l => rw [hh] at hargs; cases hargs
 subst hcn
 refine ((evN_sound hS k).call (keptAll w) (fun _ => none) { tr := .nil, nx := 0 } w f [] #[] v h0 (rel_empty w) .nil hc).mono fun cv w' hp => ?_
 obtain ⟨ρ', _, hvr, hR'⟩ := hp
 refine ⟨ρ, Ext.refl _ _, hv _ _ _ hvr, ⟨hR'.os.trans hR.os, hR'.tape.trans hR.tape, hR'.output.trans hR.output, Nat.le_trans hR.size hR'.size, fun b o hb => hR'.keep b o (hR.keep b o hb), hR.fresh, fun id o hg => ?_, hR.inj⟩⟩
 obtain ⟨p, h1, h2, h3⟩ := hR.obj id o hg
 refine ⟨p, h1, ?_, h3⟩
 cases hb : w.heap[p.b]? with
 | some x => rw [hR'.keep p.b x hb, ← hb]; exact h2
 | none =>
  rw [hb] at h2
  exact (or_none h2).elim

theorem walk_of_run (hS : SumsOK P S) {f : FuncId} (hb : bodied P f = true) {w : World} {ρ : Pm} {h : AH} {avs : List AV} {cargs : Array Value} (hR : Rel (keptAll w) ρ h w) (hv : VRs ρ avs cargs.toList)
  (hrun : RnC P S f avs h fun v _ => v = .bool true) : Calls P f cargs w fun e w' => e = .returned (.bool true) ∧ RowKit.Below w.heap.size w w' := by
 obtain ⟨k, v, h', hc, rfl⟩ := hrun
 obtain ⟨nx, w1, hrn, hm⟩ := (evN_sound hS k).call (keptAll w) ρ h w f avs cargs _ h' hR hv hc
 rw [callFunc_bodied hb] at hrn
 cases hrn
 refine (callsIn_wide.1 hm).mono fun e w' hp => ?_
 obtain ⟨cv, rfl, ρ', _, hvr, hR'⟩ := hp
 cases hvr
 refine ⟨rfl, ⟨hR'.os, hR'.tape, hR'.output, hR'.size, fun b hb => ?_⟩⟩
 have : w.heap[b]? = some w.heap[b] := by simp
 rw [this]
 exact hR'.keep b _ this

theorem RnC.sum {f : FuncId} {args : List AV} {h : AH} {Q : AV → AH → Prop} {v : AV} {h' : AH} (hs : S f args h = some (v, h')) (hq : Q v h') : RnC P S f args h Q :=
 ⟨1, v, h', by show evFn P S (evN P S 0) f args h = _; unfold evFn; rw [hs], hq⟩

end
end Go.Abs
namespace Go.Abs
open Go

/-! ### What stays -/
structure Fr (h h' : AH) : Prop where
 nx : h.nx ≤ h'.nx
 get : ∀ j, j < h.nx → h'.get j = h.get j
theorem Fr.refl (h : AH) : Fr h h := ⟨Nat.le_refl _, fun _ _ => rfl⟩
theorem Fr.trans {a b c : AH} (h : Fr a b) (k : Fr b c) : Fr a c := ⟨Nat.le_trans h.nx k.nx, fun j hj => (k.get j (Nat.lt_of_lt_of_le hj h.nx)).trans (h.get j hj)⟩
theorem Fr.new (h : AH) (o : AO) : Fr h (h.new o) := ⟨Nat.le_succ _, fun j hj => by rw [AH.get_new, if_neg (Nat.ne_of_lt hj)]⟩
theorem Fr.put {h h' : AH} (k : Fr h h') {i : Nat} (o : AO) (hi : h.nx ≤ i) : Fr h (h'.put i o) := ⟨k.nx, fun j hj => by rw [AH.get_put, if_neg (by omega)]; exact k.get j hj⟩
theorem Fr.news {h h' : AH} (k : Fr h h') (o : AO) : Fr h (h'.new o) := k.trans (Fr.new h' o)
theorem Fr.more {h h' : AH} (k : Fr h h') (n : Nat) (hn : h'.nx ≤ n) : Fr h { tr := h'.tr, nx := n } := ⟨Nat.le_trans k.nx hn, fun j hj => k.get j hj⟩

theorem AH.get_put_eq {h : AH} {i j : Nat} {o : AO} (e : j = i) : (h.put i o).get j = some o := by rw [AH.get_put, if_pos e]
theorem AH.get_put_ne {h : AH} {i j : Nat} {o : AO} (e : j ≠ i) : (h.put i o).get j = h.get j := by rw [AH.get_put, if_neg e]
theorem AH.get_new_eq {h : AH} {j : Nat} {o : AO} (e : j = h.nx) : (h.new o).get j = some o := by rw [AH.get_new, if_pos e]
theorem AH.get_new_ne {h : AH} {j : Nat} {o : AO} (e : j ≠ h.nx) : (h.new o).get j = h.get j := by rw [AH.get_new, if_neg e]
theorem AH.get_more (h : AH) (n j : Nat) : ({ tr := h.tr, nx := n } : AH).get j = h.get j := rfl
theorem absorb_nil (h : AH) : absorb [] h = h := rfl
theorem absorb_cons (i : Nat) (o : AO) (l : List (Nat × AO)) (h : AH) : absorb ((i, o) :: l) h = absorb l (h.put i o) := rfl
end Go.Abs
end

section
namespace Go.Abs
open Go
set_option linter.unusedVariables false

section
variable {P : Program} {S : Sums}

theorem RnL.unroll {r : Option Nat} {fn : FuncId} {n : Nat} {c : Code} {s : St} {Q : Ex → St → Prop} (hw : syC P S r fn n c s (thenK (fun s' => RnL P S r fn n c s' Q) Q)) : RnL P S r fn n c s Q := by
 obtain ⟨k1, ex, s1, e1, hw1⟩ := syC_sound hw
 cases ex with
 | normal =>
  obtain ⟨k2, ex2, s2, e2, hq⟩ := hw1
  refine ⟨max k1 k2 + 1, ex2, s2, ?_, hq⟩
  show (match evCode P (evN P S (max k1 k2)) r fn n c s with | some (.normal, s') => (evN P S (max k1 k2)).loop r fn n c s' | x => x) = some (ex2, s2)
  rw [evCode_mono (evN_mono (Nat.le_max_left k1 k2)) e1]
  exact (evN_mono (Nat.le_max_right k1 k2)).loop _ _ _ _ _ _ e2
 | exit i =>
  refine ⟨k1 + 1, _, s1, ?_, hw1⟩
  show (match evCode P (evN P S k1) r fn n c s with | some (.normal, s') => (evN P S k1).loop r fn n c s' | x => x) = some (.exit i, s1)
  rw [e1]
 | ret =>
  refine ⟨k1 + 1, _, s1, ?_, hw1⟩
  show (match evCode P (evN P S k1) r fn n c s with | some (.normal, s') => (evN P S k1).loop r fn n c s' | x => x) = some (.ret, s1)
  rw [e1]

theorem loopK_unroll {r : Option Nat} {fn n : Nat} {c : Code} {s : St} {K : Ex → St → Prop} {u : Blk c} {v : Blk s} {w : Blk K} (hw : syC P S r fn n c s (thenK (fun s' => loopK P S r fn n c s' K ⟨⟩ ⟨⟩ ⟨⟩) K)) : loopK P S r fn n c s K u v w :=
 RnL.unroll hw

theorem min2A_int (k k' : IntKind) (x y : Int) : min2A (.int k x) (.int k' y) = some (.int k (min x y)) := by
 have h : (if y < x then y else x) = min x y := by rw [Int.min_def]; split <;> split <;> omega
 simp only [min2A, h]
theorem max2A_int (k k' : IntKind) (x y : Int) : max2A (.int k x) (.int k' y) = some (.int k (max x y)) := by
 have h : (if y > x then y else x) = max x y := by rw [Int.max_def]; split <;> split <;> omega
 simp only [max2A, h]

theorem syDraw.go {n : Nat} {l : List Oper} {t : Env} {h : AH} {K : Env → AH → Prop} (prs : List (Nat × Nat)) (hf : P.follows .mixedOrders = true) (hs : statGo P l.toArray l 0 [] [] [] = some prs)
  (hw : syGo P S n l.toArray h.nx l 0 t { tr := h.tr, nx := h.nx + l.length } [] [] fun ss t' h' => sameAll P (evN P S 0) n l.toArray ss prs = true ∧ K t' h') : syDraw P S n l.toArray t h K ⟨⟩ ⟨⟩ ⟨⟩ ⟨⟩ :=
 ⟨hf, prs, hs, hw⟩
theorem syGo_nil (n : Nat) (ops : Array Oper) (base i : Nat) (t : Env) (h : AH) (pend : List (Nat × AO)) (acc : List DS) (K : List DS → Env → AH → Prop) : syGo P S n ops base [] i t h pend acc K = K (acc ++ [({ t := t, h := h, pend := pend } : DS)]) t (absorb pend h) := propext Iff.rfl
theorem syGo_cons (n : Nat) (ops : Array Oper) (base i : Nat) (o : Oper) (r : List Oper) (t : Env) (h : AH) (pend : List (Nat × AO)) (acc : List DS) (K : List DS → Env → AH → Prop) :
  syGo P S n ops base (o :: r) i t h pend acc K = syDS P S n ops base i o t h pend fun t' h' pend' => syGo P S n ops base r (i + 1) t' h' pend' (acc ++ [({ t := t, h := h, pend := pend } : DS)]) K := propext Iff.rfl
theorem sameAll_one {R : Rec} {n i j : Nat} {ops : Array Oper} {ss : List DS} {r : List (Nat × Nat)} {o : Oper} {si si' sj sj' : DS} (ho : ops[i]? = some o) (h1 : ss[i]? = some si) (h2 : ss[i + 1]? = some si') (h3 : ss[j]? = some sj) (h4 : ss[j + 1]? = some sj')
  (hx : (if Nat.beq (clsOf P o.op) 1 then sameAt P R n ops i si.t si'.t sj.h else sameAt P R n ops j sj.t sj'.t si'.h) = true) (hr : sameAll P R n ops ss r = true) : sameAll P R n ops ss ((j, i) :: r) = true := by
 unfold sameAll
 simp only [ho, h1, h2, h3, h4, hx, hr, Bool.and_self]
theorem blkK_same (id : Nat) (Q : Ex → St → Prop) (s : St) : blkK id Q (.exit id) s = Q .normal s := by
 unfold blkK
 simp
theorem blkK_other {id j : Nat} (h : j ≠ id) (Q : Ex → St → Prop) (s : St) : blkK id Q (.exit j) s = Q (.exit j) s := by
 unfold blkK
 have : Nat.beq j id = false := by rw [nat_beq_dec]; simp [h]
 simp [this]
theorem below_of {i : Int} {n : Nat} (h1 : 0 ≤ i) (h2 : i < n) : below i n = some i.toNat := by
 cases i with
 | ofNat m =>
  have : m < n := by simp only [Int.ofNat_eq_natCast] at h2; omega
  simp [below, this]
 | negSucc m => omega
theorem upTo_of {i : Int} {n : Nat} (h1 : 0 ≤ i) (h2 : i ≤ n) : upTo i n = some i.toNat := by
 cases i with
 | ofNat m =>
  have : m ≤ n := by simp only [Int.ofNat_eq_natCast] at h2; omega
  simp [upTo, this]
 | negSucc m => omega

/-! ### Appending -/
noncomputable def appI (P : Program) (e : TypeId) : Option (Nat × Nat) := (P.info? e).bind fun i => i.zero.bind fun z => (cellsA (toAV z)).bind fun zc => if zc.length = i.size ∧ i.size ≠ 0 then some (i.size, i.bytes) else none

def notInt : TypeDesc → Bool
 | .int _ => false
 | _ => true
def notStr : AV → Bool
 | .str _ => false
 | _ => true

theorem evAppend_eq {st xt e : TypeId} {d : TypeDesc} {size bytes : Nat} (hu : P.underlying st = some (.slice e)) (hd : P.underlying xt = some d) (hni : notInt d = true) (hi : appI P e = some (size, bytes))
  {h : AH} {s x : AV} {n len : Nat} {new old : List AV} (hn : lenA x = some n) (hnew : firstA h size n x = some new) (hl : lenA s = some len) (hold : firstA h size len s = some old) (hall : new.all oneA = true)
  (hb : (2 * (len + n) + 1000) * bytes ≤ 2 ^ 40) (hb2 : len + n ≤ 2 ^ 40) (hs : notStr s = true) :
  evAppend P h #[st, xt] s x = if n = 0 then some (.val s h) else
   match s with
   | .nilsl => newCells h new false fun id => .sl id 0 n size none
   | .sl id off _ _ (some c) =>
    if c < len + n then newCells h (old ++ new) false fun id => .sl id 0 (len + n) size none
    else if ownBlock h id then newCells (h.del id) (old ++ new) (textBlock h id || !(Nat.beq off 0)) fun id => .sl id 0 (len + n) size none else none
   | .sl id off _ _ none =>
    if ownBlock h id then newCells (h.del id) (old ++ new) (textBlock h id || !(Nat.beq off 0)) fun id => .sl id 0 (len + n) size none else none
   | _ => none := by
 unfold appI at hi
 simp only [Option.bind_eq_some_iff] at hi
 obtain ⟨i, h1, z, h2, zc, h3, h4⟩ := hi
 split at h4
 ·rename_i hz
  obtain ⟨hz1, hz2⟩ := hz
  cases h4
  have hap : appendedA P h i zc xt x = some (n, new) := by
   unfold appendedA
   simp only [hd, Option.bind_eq_bind, Option.bind_some]
   cases d <;> first | (cases hni; done) | simp only [hn, hnew, Option.bind_some]
  unfold evAppend
  simp only [List.getElem?_toArray, List.getElem?_cons_zero, List.getElem?_cons_succ, Option.bind_eq_bind, Option.bind_some, hu, h1, h2, h3]
  rw [if_neg (by simp [hz1, hz2])]
  simp only [hap, hl, hold, Option.bind_some]
  by_cases hn0 : n = 0
  ·simp only [hn0, if_true]
   cases s <;> first | rfl | (cases hs; done)
  ·simp only [hn0, if_false]
   rw [if_neg (by simp [hall]), if_neg (by simp only [Bool.or_eq_true, decide_eq_true_eq]; intro hh; rcases hh with hh | hh <;> omega)]
   rfl
 ·cases h4

theorem firstA_sl {h : AH} {id off n sz k : Nat} {c : Option Nat} {cs : List AV} {o t : Bool} (hg : h.get id = some (.cells cs o t)) (hk : k ≤ n) (hl : off + k * sz ≤ cs.length) : firstA h sz k (.sl id off n sz c) = some ((cs.drop off).take (k * sz)) := by
 simp [firstA, hk, cellsAt, hg, hl]

theorem cA_bool (b : Bool) : cellsA (.bool b) = some [.bool b] := rfl
theorem cA_int (k : IntKind) (n : Int) : cellsA (.int k n) = some [.int k n] := rfl
theorem cA_str (s : List Nat) : cellsA (.str s) = some [.str s] := rfl
theorem cA_nilptr  : cellsA .nilptr = some [.nilptr] := rfl
theorem cA_ptr (i o : Nat) : cellsA (.ptr i o) = some [.ptr i o] := rfl
theorem cA_nilsl  : cellsA .nilsl = some [.nilsl] := rfl
theorem cA_sl (i o l s : Nat) (c : Option Nat) : cellsA (.sl i o l s c) = some [.sl i o l s c] := rfl
theorem cA_nilmap  : cellsA .nilmap = some [.nilmap] := rfl
theorem cA_map (i : Nat) : cellsA (.map i) = some [.map i] := rfl
theorem cA_func (fn : Fn) (a b : List AV) : cellsA (.func fn a b) = some [.func fn a b] := rfl
theorem cA_yld (i : Nat) : cellsA (.yld i) = some [.yld i] := rfl
theorem cA_nilfunc  : cellsA .nilfunc = some [.nilfunc] := rfl
theorem cA_iface (t : TypeId) (v : AV) : cellsA (.iface t v) = some [.iface t v] := rfl
theorem cA_nilif  : cellsA .nilif = some [.nilif] := rfl
theorem cA_agg (l : List AV) : cellsA (.agg l) = some l := rfl
/-! ### Arguments -/
theorem Ty.int_inv {h : AH} {t : TypeId} {k : IntKind} {l : List AV} (hu : P.underlying t = some (.int k)) (hx : Ty P h t l) : ∃ n, l = [.int k n] ∧ k.min ≤ n ∧ n ≤ k.max := by
 cases hx with
 | int n ht hw => rw [hu] at ht; cases ht; exact ⟨n, rfl, hw⟩
 | bool b ht => rw [hu] at ht; cases ht
 | str s ht hs => rw [hu] at ht; cases ht
 | nilsl ht => rw [hu] at ht; cases ht
 | sl ht => rw [hu] at ht; cases ht
 | struct ht => rw [hu] at ht; cases ht
 | array ht => rw [hu] at ht; cases ht
theorem Ty.bool_inv {h : AH} {t : TypeId} {l : List AV} (hu : P.underlying t = some .bool) (hx : Ty P h t l) : ∃ b, l = [.bool b] := by
 cases hx with
 | int n ht hw => rw [hu] at ht; cases ht
 | bool b ht => exact ⟨b, rfl⟩
 | str s ht hs => rw [hu] at ht; cases ht
 | nilsl ht => rw [hu] at ht; cases ht
 | sl ht => rw [hu] at ht; cases ht
 | struct ht => rw [hu] at ht; cases ht
 | array ht => rw [hu] at ht; cases ht
theorem Ty.str_inv {h : AH} {t : TypeId} {l : List AV} (hu : P.underlying t = some .string) (hx : Ty P h t l) : ∃ s : ByteArray, l = [.str (bytesOf s)] ∧ s.size ≤ maxLen := by
 cases hx with
 | int n ht hw => rw [hu] at ht; cases ht
 | bool b ht => rw [hu] at ht; cases ht
 | str s ht hs => exact ⟨s, rfl, hs⟩
 | nilsl ht => rw [hu] at ht; cases ht
 | sl ht => rw [hu] at ht; cases ht
 | struct ht => rw [hu] at ht; cases ht
 | array ht => rw [hu] at ht; cases ht
theorem Ty.slice_inv {h : AH} {t e : TypeId} {l : List AV} (hu : P.underlying t = some (.slice e)) (hx : Ty P h t l) : l = [.nilsl] ∨ ∃ id len cs, l = [.sl id 0 len (P.cellsOf e) none] ∧ h.get id = some (.cells cs false false) ∧ len ≤ maxLen ∧ cs.length = len * P.cellsOf e ∧
  ∀ i, i < len → Ty P h e ((cs.drop (i * P.cellsOf e)).take (P.cellsOf e)) := by
 cases hx with
 | int n ht hw => rw [hu] at ht; cases ht
 | bool b ht => rw [hu] at ht; cases ht
 | str s ht hs => rw [hu] at ht; cases ht
 | nilsl ht => exact .inl rfl
 | sl ht hg hl hc hcs => rw [hu] at ht; cases ht; exact .inr ⟨_, _, _, rfl, hg, hl, hc, hcs⟩
 | struct ht => rw [hu] at ht; cases ht
 | array ht => rw [hu] at ht; cases ht
theorem Ty.struct_inv {h : AH} {t : TypeId} {fs : Array Field} {l : List AV} (hu : P.underlying t = some (.struct fs)) (hx : Ty P h t l) : l.length = P.cellsOf t ∧ ∀ f, f ∈ fs.toList → Ty P h f.type ((l.drop f.offset).take (P.cellsOf f.type)) := by
 cases hx with
 | int n ht hw => rw [hu] at ht; cases ht
 | bool b ht => rw [hu] at ht; cases ht
 | str s ht hs => rw [hu] at ht; cases ht
 | nilsl ht => rw [hu] at ht; cases ht
 | sl ht => rw [hu] at ht; cases ht
 | struct ht hc hf => rw [hu] at ht; cases ht; exact ⟨hc, hf⟩
 | array ht => rw [hu] at ht; cases ht

theorem Ty.one {h : AH} {t : TypeId} {l : List AV} (hd : ∀ fs, P.underlying t ≠ some (.struct fs)) (ha : ∀ n e, P.underlying t ≠ some (.array n e)) (hx : Ty P h t l) : ∃ v, l = [v] ∧ oneA v = true := by
 cases hx with
 | int n ht hw => exact ⟨_, rfl, rfl⟩
 | bool b ht => exact ⟨_, rfl, rfl⟩
 | str s ht hs => exact ⟨_, rfl, rfl⟩
 | nilsl ht => exact ⟨_, rfl, rfl⟩
 | sl ht => exact ⟨_, rfl, rfl⟩
 | struct ht => exact absurd ht (hd _)
 | array ht => exact absurd ht (ha _ _)

def Sl1 (h : AH) (v : AV) (cs : List AV) : Prop := (v = .nilsl ∧ cs = []) ∨ ∃ id, v = .sl id 0 cs.length 1 none ∧ h.get id = some (.cells cs false false) ∧ id < h.nx

theorem Ty.sl1 {h : AH} {t e : TypeId} {l : List AV} (hu : P.underlying t = some (.slice e)) (hc : P.cellsOf e = 1) (hd : ∀ fs, P.underlying e ≠ some (.struct fs)) (ha : ∀ n e', P.underlying e ≠ some (.array n e')) (hx : Ty P h t l) (hlt : ∀ id o, h.get id = some o → id < h.nx) :
  ∃ v cs, l = [v] ∧ Sl1 h v cs ∧ cs.all oneA = true ∧ cs.length ≤ maxLen ∧ ∀ (i : Nat) (c : AV), cs[i]? = some c → Ty P h e [c] := by
 rcases hx.slice_inv hu with rfl | ⟨id, len, cs, rfl, hg, hl, hcs, hel⟩
 ·exact ⟨_, [], rfl, .inl ⟨rfl, rfl⟩, rfl, Nat.zero_le _, fun i c hi => by simp at hi⟩
 ·rw [hc] at hcs hel
  have hcs : cs.length = len := by omega
  have he : ∀ (i : Nat) (c : AV), cs[i]? = some c → Ty P h e [c] := fun i c hi => by
   have hil := (List.getElem?_eq_some_iff.1 hi).1
   have := hel i (by omega)
   rw [Nat.mul_one] at this
   have h2 : (cs.drop i).take 1 = [c] := by
    rw [List.drop_eq_getElem_cons hil, List.take_succ_cons, List.take_zero, (List.getElem?_eq_some_iff.1 hi).2]
   rwa [h2] at this
  refine ⟨_, cs, rfl, .inr ⟨id, by rw [hc, hcs], hg, hlt _ _ hg⟩, ?_, by omega, he⟩
  rw [List.all_eq_true]
  intro c hcm
  obtain ⟨i, hi⟩ := List.mem_iff_getElem?.1 hcm
  obtain ⟨v, hv, ho⟩ := (he i c hi).one hd ha
  cases hv
  exact ho

end
end Go.Abs
end

section
namespace Go.Abs
open Go
set_option linter.unusedVariables false

section
variable {P : Program} {S : Sums}

theorem dataT_mono : ∀ (k : Nat) (t : TypeId), dataT P k t = true → dataT P (k + 1) t = true
 | 0, t, h => by cases h
 | k + 1, t, h => by
  have ih := dataT_mono k
  simp only [dataT] at h
  unfold dataT
  cases hu : P.underlying t with
  | none => rw [hu] at h; cases h
  | some d =>
   rw [hu] at h
   cases d <;> simp only at h ⊢ <;> try (first | exact h | cases h)
   case slice e =>
    rw [Bool.and_eq_true] at h ⊢
    exact ⟨h.1, ih _ h.2⟩
   case struct fs =>
    rw [Bool.and_eq_true] at h ⊢
    refine ⟨h.1, ?_⟩
    have h2 := h.2
    rw [List.all_eq_true] at h2 ⊢
    exact fun f hf => ih _ (h2 f hf)
   case array n e =>
    rw [Bool.and_eq_true] at h ⊢
    exact ⟨h.1, ih _ h.2⟩
theorem dataT_le {k j : Nat} (hkj : k ≤ j) {t : TypeId} (h : dataT P k t = true) : dataT P j t = true := by
 induction hkj with
 | refl => exact h
 | step _ ih => exact dataT_mono _ _ ih

theorem got_arg {H : Type} {enc : TypeId × Value → H} {W : World} {t : TypeId} {v : Value} {d : DataW H} {ps : List MemPlace} {k : Nat} (hd : ∃ (b : Nat) (c : Array Value) (e : TypeId) (fr : Nat × Nat), W.heap[b]? = some (Obj.cells c e fr)) (hk : dataT P k t = true)
  (h : DataW.Trod enc P W 0 (fun _ => true) true t v d ps) {ρ : Pm} {ah : AH} (hR : Rel (keptAll W) ρ ah W) : ∃ ρ' h' avs, Got P (keptAll W) W ρ ah t v.cells.toList ρ' h' avs := by
 obtain ⟨fuel, hf⟩ := h
 exact got (keptAll_allKept W) hd (max k fuel) t _ _ (dataT_le (Nat.le_max_left k fuel) hk) (DataW.trod_le (Nat.le_max_right k fuel) hf) ρ ah hR

theorem trod_below {H : Type} {enc : TypeId × Value → H} {t : TypeId} (hl : laidOutB P = true) (hr : P.readableRec t = true) (hrow : t < P.types.size) {W W' : World} {v : Value} {d : DataW H} {ps : List MemPlace}
  (h : DataW.Trod enc P W 0 (fun _ => true) true t v d ps) (hb : RowKit.Below W.heap.size W W') : DataW.Trod enc P W' 0 (fun b => decide (b < W.heap.size)) true t v d ps := by
 obtain ⟨fuel, hf⟩ := h
 exact RowKit.Below.trod hl hr hrow ⟨fuel, hf⟩ hb (DataW.trod_lt fuel t _ _ hf)

theorem cells_of_laid {laid : List (String × DataW Unit)} {w : World} (n : String) (d : DataW Unit) (r : List (String × DataW Unit)) (h : laidMetH P laid w) (hh : laid.filter (fun x => x.2.handleName?.isSome) = []) (hl : laid = (n, d) :: r) :
  ∃ (b : Nat) (c : Array Value) (e : TypeId) (fr : Nat × Nat), w.heap[b]? = some (Obj.cells c e fr) := by
 unfold laidMetH at h
 rw [hh] at h
 obtain ⟨ps, h1, _⟩ := h
 rw [hl] at h1
 obtain ⟨g, t, cs, fuel, p, q, h2, h3, h4, h5, h6, h7⟩ := h1
 unfold World.var? at h4
 rw [h2] at h4
 simp only [Option.bind_some] at h4
 split at h4
 ·rename_i c e fr hc
  exact ⟨g, c, e, fr, hc⟩
 ·cases h4

theorem rel_lt {K : Kp} {ρ : Pm} {h : AH} {w : World} (hR : Rel K ρ h w) : ∀ id o, h.get id = some o → id < h.nx := fun id o hg => by
 obtain ⟨p, hp, _⟩ := hR.obj id o hg
 refine Nat.lt_of_not_le fun hle => ?_
 rw [hR.fresh id hle] at hp
 cases hp

end
end Go.Abs
end

section
namespace Go.Abs
open Go

attribute [go_sem ↓] clsK_bin clsK_slice syC_skip syC_ret syC_exit syC_region syC_draw syC_seq syC_cond syC_block syC_loop syC_range thenK_normal thenK_ret thenK_exit blkK_normal blkK_ret blkK_same blkK_other syOps_nil syOps_cons sy1_none sy1_some syGo0_nil syGo0_cons syGo_nil syGo_cons syDS_none syO_move syO_assign syO_pick syO_load syO_store syO_build syO_binOp syO_unOp syO_slice syO_indexAddr syO_index syO_lookup syO_call syO_builtin syO_alloc syO_box syO_buildSlice syO_makeMap syO_makeSlice syO_nilCheck syO_convert syO_makeInterface syO_makeFunc syO_fieldAddr syO_field syO_mapUpdate syO_insert syO_typeAssert syO_extract syPut_none syPut_some syEnd_ret syEnd_normal
attribute [go_sem] plainFn clsOf wantedA evLoad evStore aggT oneA putCells fillA repCells evOper val? evCall minA maxA foldA evIndexAddr argsEnv bq_t bq_f gt_iff_lt clsK_0 clsK_1 clsK_2 clsK_3 bnd_some ltv_eq chk_true ifB_true ifB_false resK_val resK_skip resK_call resK_yield syV_func syV_yld rngK_func takeMarks_nil resultsA_nil resultsA_one resultsA_two resultsA_three resultA_tmp resultA_cell opnd_tmp opnd_func opnd_const toAV_int toAV_bool toAV_str toAV_nilsl toAV_nilptr toAV_nilmap toAV_nilfunc toAV_nilif Tr.get_set if_true if_false Option.getD_some Nat.zero_add Nat.add_zero List.map_cons List.map_nil List.append_nil List.nil_append List.cons_append cond_true cond_false binA_add binA_sub binA_mul binA_quo binA_rem binA_and binA_or binA_xor binA_eql binA_neq binA_lss binA_leq binA_gtr binA_geq binA_shl binA_shr unA_not unA_neg wrap64_id Bool.not_true Bool.not_false beq_self_eq_true decide_true decide_false Bool.false_eq_true Bool.true_eq_false not_true_eq_false not_false_eq_true ne_eq decide_not cA_bool cA_int cA_str cA_nilptr cA_ptr cA_nilsl cA_sl cA_nilmap cA_map cA_func cA_yld cA_nilfunc cA_iface cA_nilif cA_agg allocA_alloc allocA_box allocA_buildSlice allocA_makeSlice allocA_makeMap bsA_eq allocated_some Int.cast_ofNat_Int Int.natCast_one Int.natCast_zero min2A_int max2A_int below_of upTo_of Int.toNat_natCast Int.toNat_zero Nat.zero_mul List.isEmpty_cons List.isEmpty_nil Option.bind_some Option.bind_none Option.map_some Option.map_none Option.bind_eq_bind List.getElem?_cons_zero List.getElem?_cons_succ List.length_cons List.length_nil AH.get_put_eq AH.get_put_ne AH.get_new_eq AH.get_new_ne AH.get_more AH.nx_put AH.nx_new absorb_nil absorb_cons List.take_zero List.take_succ_cons List.drop_zero List.drop_succ_cons List.take_nil List.drop_nil Option.some.injEq List.getElem?_toArray BEq.rfl Bool.and_true Bool.true_and Bool.and_false Bool.false_and Bool.or_true Bool.or_false List.all_cons List.all_nil
theorem nxn (h : AH) (o : AO) : (h.new o).nx = h.nx + 1 := rfl
theorem nxp (h : AH) (i : Nat) (o : AO) : (h.put i o).nx = h.nx := rfl
/-! Numbers are reduced, too. -/
attribute [go_sem] Int.reduceEq Int.reduceNe Int.reduceLT Int.reduceLE Int.reduceAdd Int.reduceSub Int.reduceMul Int.reduceNeg Int.reduceToNat Nat.reducePow reduceCtorEq Nat.reduceEqDiff Nat.reduceAdd Nat.reduceLT Nat.reduceLeDiff Nat.reduceMul Nat.reduceSub Nat.reduceBEq
end Go.Abs
end

section
namespace Go.Abs
open Go
set_option linter.unusedVariables false

abbrev W32 := BitVec 32
def iw (x : W32) : Int := (x.toNat : Int)
theorem iw_def (x : W32) : iw x = (x.toNat : Int) := rfl
theorem wrap32 (n : Int) : IntKind.u32.wrap n = n % 4294967296 := by
 simp [IntKind.wrap, IntKind.bits, IntKind.signed]
theorem wrap32_nat (n : Nat) : IntKind.u32.wrap (n : Int) = ((n % 4294967296 : Nat) : Int) := by
 rw [wrap32]; exact (Int.natCast_emod n 4294967296).symm
theorem ofInt_iw (x : W32) : BitVec.ofInt IntKind.u32.bits (iw x) = x := by
 apply BitVec.eq_of_toNat_eq
 have h1 : (BitVec.ofInt IntKind.u32.bits (x.toNat : Int)).toNat = x.toNat % 2 ^ 32 := bv_ofInt _ _
 rw [iw, h1]
 exact Nat.mod_eq_of_lt x.isLt
theorem wrap_bv (x : W32) : IntKind.u32.wrap ((x.toNat : Nat) : Int) = iw x := by
 rw [wrap32_nat, iw, Nat.mod_eq_of_lt x.isLt]
theorem add_w (x y : W32) : IntKind.u32.wrap (iw x + iw y) = iw (x + y) := by
 rw [iw, iw, ← Int.natCast_add, wrap32_nat, iw, BitVec.toNat_add]
theorem xor_w (x y : W32) : IntKind.u32.wrap ((BitVec.ofInt IntKind.u32.bits (iw x) ^^^ BitVec.ofInt IntKind.u32.bits (iw y)).toNat : Int) = iw (x ^^^ y) := by
 rw [ofInt_iw, ofInt_iw]; exact wrap_bv _
theorem and_w (x y : W32) : IntKind.u32.wrap ((BitVec.ofInt IntKind.u32.bits (iw x) &&& BitVec.ofInt IntKind.u32.bits (iw y)).toNat : Int) = iw (x &&& y) := by
 rw [ofInt_iw, ofInt_iw]; exact wrap_bv _
theorem or_w (x y : W32) : IntKind.u32.wrap ((BitVec.ofInt IntKind.u32.bits (iw x) ||| BitVec.ofInt IntKind.u32.bits (iw y)).toNat : Int) = iw (x ||| y) := by
 rw [ofInt_iw, ofInt_iw]; exact wrap_bv _
theorem not_w (x : W32) : IntKind.u32.wrap ((BitVec.ofInt IntKind.u32.bits (if IntKind.u32.signed then -1 else IntKind.u32.max) ^^^ BitVec.ofInt IntKind.u32.bits (iw x)).toNat : Int) = iw (~~~ x) := by
 rw [ofInt_iw]
 have h1 : (BitVec.ofInt 32 4294967295 : W32) = BitVec.allOnes 32 := by decide
 have h : ((BitVec.ofInt 32 4294967295 : W32) ^^^ x) = ~~~ x := by
  rw [h1, BitVec.allOnes_xor]
 exact (congrArg (fun y : W32 => IntKind.u32.wrap (y.toNat : Int)) h).trans (wrap_bv _)
theorem shl_w (x : W32) (k : Nat) : IntKind.u32.wrap (iw x * 2 ^ k) = iw (x <<< k) := by
 have h : iw x * 2 ^ k = ((x.toNat * 2 ^ k : Nat) : Int) := by rw [iw, Int.natCast_mul, Int.natCast_pow]; rfl
 rw [h, wrap32_nat, iw, BitVec.toNat_shiftLeft, Nat.shiftLeft_eq]
theorem shr_w (x : W32) (k : Nat) : (iw x).fdiv (2 ^ k) = iw (x >>> k) := by
 have h : (2 ^ k : Int) = ((2 ^ k : Nat) : Int) := by rw [Int.natCast_pow]; rfl
 rw [h, Int.fdiv_eq_ediv_of_nonneg _ (Int.natCast_nonneg _), iw, iw, BitVec.toNat_ushiftRight, Nat.shiftRight_eq_div_pow]
 exact (Int.natCast_ediv _ _).symm
/-! ### The digest's functions -/
def rotr (x : W32) (n : Nat) : W32 := (x <<< (32 - n)) ||| (x >>> n)
def rots (x : W32) : List Nat → W32 → W32
 | [], o => o
 | n :: r, o => rots x r (o ^^^ rotr x n)
end Go.Abs
end

section
namespace Go.Abs
open Go
set_option linter.unusedVariables false
set_option linter.unusedSimpArgs false

section
variable {P : Program} {S : Sums}

theorem Fr.del {h h' : AH} (k : Fr h h') {i : Nat} (hi : h.nx ≤ i) : Fr h (h'.del i) := ⟨k.nx, fun j hj => by rw [AH.get_del, if_neg (by omega)]; exact k.get j hj⟩

def byC (l : List Nat) : List AV := l.map fun (b : Nat) => AV.int .u8 (b : Int)
theorem byC_length (l : List Nat) : (byC l).length = l.length := by simp [byC]
theorem byC_get (l : List Nat) (i : Nat) : (byC l)[i]? = (l[i]?).map fun (b : Nat) => AV.int .u8 (b : Int) := by simp [byC]
theorem byC_drop (l : List Nat) (i : Nat) : (byC l).drop i = byC (l.drop i) := by simp [byC, List.map_drop]
theorem byC_take (l : List Nat) (i : Nat) : (byC l).take i = byC (l.take i) := by simp [byC, List.map_take]
theorem byC_all (l : List Nat) : (byC l).all oneA = true := by
 rw [List.all_eq_true]
 intro c hc
 obtain ⟨b, _, rfl⟩ := List.mem_map.1 hc
 rfl
theorem bytesA_byC : ∀ (l : List Nat), (∀ b ∈ l, b < 256) → bytesA (byC l) = some l
 | [], _ => rfl
 | b :: l, h => by
  have hb : b < 256 := h b (List.mem_cons_self ..)
  have ih := bytesA_byC l fun c hc => h c (List.mem_cons_of_mem _ hc)
  show bytesA (AV.int .u8 ((b : Nat) : Int) :: byC l) = some (b :: l)
  have : ((b : Nat) : Int) = Int.ofNat b := rfl
  rw [this]
  simp only [bytesA, hb, if_true, ih, Option.map_some]

def Bs (h : AH) (v : AV) (l : List Nat) : Prop :=
 (v = .nilsl ∧ l = []) ∨ ∃ id off c cs o t, v = .sl id off l.length 1 c ∧ h.get id = some (.cells cs o t) ∧ id < h.nx ∧ off + l.length ≤ cs.length ∧ (∀ k, c = some k → l.length ≤ k) ∧ (cs.drop off).take l.length = byC l

theorem Bs.fr {h h' : AH} {v : AV} {l : List Nat} (hb : Bs h v l) (hf : Fr h h') : Bs h' v l := by
 rcases hb with h1 | ⟨id, off, c, cs, o, t, h1, h2, h3, h4, h5, h6⟩
 ·exact .inl h1
 ·exact .inr ⟨id, off, c, cs, o, t, h1, (hf.get id h3).trans h2, Nat.lt_of_lt_of_le h3 hf.nx, h4, h5, h6⟩

theorem bs_get {cs : List AV} {off : Nat} {l : List Nat} (hx : (cs.drop off).take l.length = byC l) {i b : Nat} (hi : l[i]? = some b) : cs[off + i]? = some (.int .u8 (b : Int)) := by
 have h1 : (byC l)[i]? = some (.int .u8 (b : Int)) := by rw [byC_get, hi]; rfl
 have hil : i < l.length := (List.getElem?_eq_some_iff.1 hi).1
 rw [← hx, List.getElem?_take_of_lt hil, List.getElem?_drop] at h1
 exact h1

theorem Bs.slice_to {h : AH} {v : AV} {l : List Nat} {t e : TypeId} {hi : Nat} (hb : Bs h v l) (ht : P.underlying t = some (.slice e)) (he : tsize P e = some 1) (hhi : hi ≤ l.length) :
  ∃ v', (∀ h1, evSlice P h1 t v none (some (.int .i64 (hi : Nat))) none = some v') ∧ Bs h v' (l.take hi) ∧ sameAV 20 v' v' = true ∧ oneA v' = true := by
 rcases hb with ⟨rfl, rfl⟩ | ⟨id, off, c, cs, o, tx, rfl, h2, h3, h4, h5, h6⟩
 ·obtain rfl : hi = 0 := by simpa using hhi
  refine ⟨.nilsl, fun h1 => ?_, .inl ⟨rfl, rfl⟩, rfl, rfl⟩
  simp [evSlice, ht, he, boundsA, boundA, upTo]
 ·refine ⟨.sl id (off + 0 * 1) (hi - 0) 1 (c.map (· - 0)), fun h1 => ?_, .inr ⟨id, off + 0 * 1, c.map (· - 0), cs, o, tx, ?_, h2, h3, ?_, ?_, ?_⟩, ?_, rfl⟩
  ·have hu : upTo ((hi : Nat) : Int) (c.getD l.length) = some hi := by
    rw [upTo_of (by omega) (by cases c with
     | none => simp; omega
     | some c => simp; have := h5 c rfl; omega)]
    simp
   simp [evSlice, ht, he, boundsA, boundA, hu]
  ·simp; omega
  ·simp; omega
  ·intro k hk
   cases c with
   | none => simp at hk
   | some c => simp at hk; have := h5 c rfl; simp; omega
  ·have h7 : (byC l).take hi = byC (l.take hi) := byC_take l hi
   rw [← h7, ← h6, List.take_take]
   simp
  ·simp [sameAV]

theorem Bs.slice_mid {h : AH} {v : AV} {l : List Nat} {t e : TypeId} {lo hi : Nat} (hb : Bs h v l) (ht : P.underlying t = some (.slice e)) (he : tsize P e = some 1) (hlo : lo ≤ hi) (hhi : hi ≤ l.length) :
  ∃ v', (∀ h1, evSlice P h1 t v (some (.int .i64 (lo : Nat))) (some (.int .i64 (hi : Nat))) none = some v') ∧ Bs h v' ((l.take hi).drop lo) ∧ sameAV 20 v' v' = true ∧ oneA v' = true := by
 rcases hb with ⟨rfl, rfl⟩ | ⟨id, off, c, cs, o, tx, rfl, h2, h3, h4, h5, h6⟩
 ·obtain rfl : hi = 0 := by simpa using hhi
  obtain rfl : lo = 0 := by simpa using hlo
  refine ⟨.nilsl, fun h1 => ?_, .inl ⟨rfl, rfl⟩, rfl, rfl⟩
  simp [evSlice, ht, he, boundsA, boundA, upTo]
 ·refine ⟨.sl id (off + lo * 1) (hi - lo) 1 (c.map (· - lo)), fun h1 => ?_, .inr ⟨id, off + lo * 1, c.map (· - lo), cs, o, tx, ?_, h2, h3, ?_, ?_, ?_⟩, ?_, rfl⟩
  ·have hu : upTo ((hi : Nat) : Int) (c.getD l.length) = some hi := by
    rw [upTo_of (by omega) (by cases c with
     | none => simp; omega
     | some c => simp; have := h5 c rfl; omega)]
    simp
   have hu2 : upTo ((lo : Nat) : Int) hi = some lo := by rw [upTo_of (by omega) (by omega)]; simp
   simp [evSlice, ht, he, boundsA, boundA, hu, hu2]
  ·simp; omega
  ·simp; omega
  ·intro k hk
   cases c with
   | none => simp at hk
   | some c => simp at hk; have := h5 c rfl; simp; omega
  ·have h7 : ((byC l).take hi).drop lo = byC ((l.take hi).drop lo) := by rw [byC_take, byC_drop]
   have h8 : ((l.take hi).drop lo).length = hi - lo := by simp; omega
   rw [h8, ← h7, ← h6, List.take_take, Nat.min_eq_left hhi, List.drop_take, List.drop_drop, Nat.mul_one]
  ·simp [sameAV]

theorem Bs.text {h : AH} {v : AV} {l : List Nat} {s e d : TypeId} (hb : Bs h v l) (hs : P.underlying s = some (.slice e)) (he : P.underlying e = some (.int .u8)) (hd : P.underlying d = some .string) (hl : ∀ b ∈ l, b < 256) :
  evConvert P h s d v = some (.val (.str l) h) := by
 rcases hb with ⟨rfl, rfl⟩ | ⟨id, off, c, cs, o, tx, rfl, h2, h3, h4, h5, h6⟩
 ·simp [evConvert, hs, hd, he, lenA, firstA, bytesA]
 ·have h7 : firstA h 1 l.length (.sl id off l.length 1 c) = some (byC l) := by
   simp only [firstA, cellsAt, h2, Nat.mul_one, h4]
   simp [h6]
  simp only [evConvert, hs, hd, he, lenA, Option.bind_eq_bind, Option.bind_some, h7, bytesA_byC l hl]

theorem Bs.first {h : AH} {v : AV} {l : List Nat} (hb : Bs h v l) : lenA v = some l.length ∧ firstA h 1 l.length v = some (byC l) := by
 rcases hb with ⟨rfl, rfl⟩ | ⟨id, off, c, cs, o, tx, rfl, h2, h3, h4, h5, h6⟩
 ·exact ⟨rfl, rfl⟩
 ·refine ⟨rfl, ?_⟩
  simp only [firstA, cellsAt, h2, Nat.mul_one, h4]
  simp [h6]

theorem Bs.own {h : AH} {x : AV} {l : List Nat} {id : Nat} {cs0 : List AV} {o t : Bool} {st e : TypeId} {bt : Nat} (hu : P.underlying st = some (.slice e)) (hi : appI P e = some (1, bt)) (hbt : bt ≤ 64) (hb : Bs h x l) (hl : l.length ≤ 1073741824) (hid : h.get id = some (.cells cs0 o t)) (hlt : id < h.nx) :
  ∃ v h', evAppend P h #[st, st] (.sl id 0 0 1 (some 0)) x = some (.val v h') ∧ Fr h h' ∧ Bs h' v l ∧ oneA v = true := by
 have hold : firstA h 1 0 (.sl id 0 0 1 (some 0)) = some [] := by
  rw [firstA_sl hid (Nat.le_refl _) (by omega)]; simp
 obtain ⟨hn, hnew⟩ := hb.first
 have hm : (2 * (0 + l.length) + 1000) * bt ≤ (2 * (0 + l.length) + 1000) * 64 := Nat.mul_le_mul_left _ hbt
 have key : ∀ (h0 : l.length = 0 ∨ ¬ l.length = 0), ∃ v h', evAppend P h #[st, st] (.sl id 0 0 1 (some 0)) x = some (.val v h') ∧ Fr h h' ∧ Bs h' v l ∧ oneA v = true := by
  intro h0
  rw [evAppend_eq hu hu rfl hi hn hnew rfl hold (byC_all l) (Nat.le_trans hm (by omega)) (by omega) rfl]
  rcases h0 with h0 | h0
  ·rw [if_pos h0]
   have : l = [] := List.length_eq_zero_iff.1 h0
   subst this
   exact ⟨_, _, rfl, Fr.refl _, .inr ⟨id, 0, some 0, cs0, o, t, rfl, hid, hlt, by simp, (fun k hk => by cases hk; simp), by simp [byC]⟩, rfl⟩
  ·rw [if_neg h0]
   simp only
   rw [if_pos (by omega)]
   refine ⟨_, _, rfl, Fr.new _ _, .inr ⟨h.nx, 0, none, [] ++ byC l, true, false, ?_, AH.get_new_eq rfl, Nat.lt_succ_self _, ?_, (fun k hk => by cases hk), ?_⟩, rfl⟩
   ·simp
   ·simp [byC_length]
   ·simp [← byC_length]
 exact key (Decidable.em _)

/-! ### Slices of texts -/
def Ss (n0 : Nat) (h : AH) (v : AV) (l : List (List Nat)) : Prop :=
 (v = .nilsl ∧ l = []) ∨ ∃ id, v = .sl id 0 l.length 1 none ∧ h.get id = some (.cells (l.map AV.str) true false) ∧ id < h.nx ∧ n0 ≤ id
theorem Ss.fr {n0 : Nat} {h h' : AH} {v : AV} {l : List (List Nat)} (hb : Ss n0 h v l) (hf : Fr h h') : Ss n0 h' v l := by
 rcases hb with h1 | ⟨id, h1, h2, h3, h4⟩
 ·exact .inl h1
 ·exact .inr ⟨id, h1, (hf.get id h3).trans h2, Nat.lt_of_lt_of_le h3 hf.nx, h4⟩
theorem Ss.low {n0 n1 : Nat} {h : AH} {v : AV} {l : List (List Nat)} (hb : Ss n0 h v l) (hn : n1 ≤ n0) : Ss n1 h v l := by
 rcases hb with h1 | ⟨id, h1, h2, h3, h4⟩
 ·exact .inl h1
 ·exact .inr ⟨id, h1, h2, h3, Nat.le_trans hn h4⟩
theorem Ss.app {h0 h : AH} {v : AV} {l : List (List Nat)} {p : List Nat} {id1 : Nat} {c : Option Nat} {o t : Bool} {st e : TypeId} {bt : Nat} (hu : P.underlying st = some (.slice e)) (hi : appI P e = some (1, bt)) (hbt : bt ≤ 64) (hs : Ss h0.nx h v l) (hf : Fr h0 h) (hl : l.length ≤ 1073741824)
  (hid : h.get id1 = some (.cells [.str p] o t)) (hlt : id1 < h.nx) (hne : ∀ id off n sz c, v = .sl id off n sz c → id ≠ id1) :
  ∃ v' h', evAppend P h #[st, st] v (.sl id1 0 1 1 c) = some (.val v' h') ∧ Fr h0 h' ∧ Ss h0.nx h' v' (l ++ [p]) ∧ oneA v' = true := by
 have hnew : firstA h 1 1 (.sl id1 0 1 1 c) = some [.str p] := by
  rw [firstA_sl hid (Nat.le_refl _) (by simp)]; rfl
 have hm : (2 * (l.length + 1) + 1000) * bt ≤ (2 * (l.length + 1) + 1000) * 64 := Nat.mul_le_mul_left _ hbt
 rcases hs with ⟨rfl, rfl⟩ | ⟨id, rfl, h2, h3, h4⟩
 ·have hm' : (2 * (0 + 1) + 1000) * bt ≤ (2 * (0 + 1) + 1000) * 64 := Nat.mul_le_mul_left _ hbt
  rw [evAppend_eq (len := 0) (old := []) hu hu rfl hi rfl hnew rfl rfl rfl (Nat.le_trans hm' (by omega)) (by omega) rfl]
  rw [if_neg (by decide)]
  exact ⟨_, _, rfl, hf.news _, .inr ⟨h.nx, rfl, AH.get_new_eq rfl, Nat.lt_succ_self _, hf.nx⟩, rfl⟩
 ·have hold : firstA h 1 l.length (.sl id 0 l.length 1 none) = some (l.map AV.str) := by
   rw [firstA_sl h2 (Nat.le_refl _) (by simp), List.drop_zero, Nat.mul_one]
   have ht : (l.map AV.str).take (l.map AV.str).length = l.map AV.str := List.take_length
   rw [List.length_map] at ht
   exact congrArg some ht
  rw [evAppend_eq (len := l.length) hu hu rfl hi rfl hnew rfl hold rfl (Nat.le_trans hm (by omega)) (by omega) rfl]
  rw [if_neg (by decide)]
  simp only
  rw [if_pos (by simp [ownBlock, h2])]
  have ht : (textBlock h id || !(Nat.beq 0 0)) = false := by simp [textBlock, h2]
  rw [ht]
  refine ⟨_, _, rfl, (hf.del h4).news _, .inr ⟨h.nx, ?_, ?_, Nat.lt_succ_self _, hf.nx⟩, rfl⟩
  ·simp
  ·exact (AH.get_new_eq (h := h.del id) rfl).trans (by simp)

/-! ### Numbers -/
/-! ### Words -/
theorem binA_add32 (h : AH) (t : TypeId) (x y : W32) : binA P h .add t (.int .u32 (iw x)) (.int .u32 (iw y)) = some (.int .u32 (iw (x + y))) := by rw [binA_add, add_w]
theorem binA_xor32 (h : AH) (t : TypeId) (x y : W32) : binA P h .xor t (.int .u32 (iw x)) (.int .u32 (iw y)) = some (.int .u32 (iw (x ^^^ y))) := by rw [binA_xor, xor_w]
theorem binA_and32 (h : AH) (t : TypeId) (x y : W32) : binA P h .and t (.int .u32 (iw x)) (.int .u32 (iw y)) = some (.int .u32 (iw (x &&& y))) := by rw [binA_and, and_w]
theorem binA_or32 (h : AH) (t : TypeId) (x y : W32) : binA P h .or t (.int .u32 (iw x)) (.int .u32 (iw y)) = some (.int .u32 (iw (x ||| y))) := by rw [binA_or, or_w]
theorem unA_not32 (x : W32) : unA .xor (.int .u32 (iw x)) = some (.int .u32 (iw (~~~ x))) := by
 show some (AV.int .u32 _) = _
 rw [not_w]
theorem binA_shl32 (h : AH) (t : TypeId) (k : IntKind) (x : W32) (n : Int) (h0 : 0 ≤ n) (h1 : n ≤ 32) : binA P h .shl t (.int .u32 (iw x)) (.int k n) = some (.int .u32 (iw (x <<< n.toNat))) := by
 rw [binA_shl, if_neg (by omega)]
 have : min n.toNat (IntKind.bits .u32) = n.toNat := Nat.min_eq_left (by show n.toNat ≤ 32; omega)
 rw [this, shl_w]
theorem binA_shr32 (h : AH) (t : TypeId) (k : IntKind) (x : W32) (n : Int) (h0 : 0 ≤ n) (h1 : n ≤ 32) : binA P h .shr t (.int .u32 (iw x)) (.int k n) = some (.int .u32 (iw (x >>> n.toNat))) := by
 rw [binA_shr, if_neg (by omega)]
 have : min n.toNat (IntKind.bits .u32) = n.toNat := Nat.min_eq_left (by show n.toNat ≤ 32; omega)
 rw [this, shr_w]
theorem conv_w {s d : TypeId} {u : TypeDesc} (hs : P.underlying s = some u) (hd : P.underlying d = some (.int .u32)) (h : AH) (b : Nat) : evConvert P h s d (.int .u8 (b : Int)) = some (.val (.int .u32 (iw (BitVec.ofNat 32 b))) h) := by
 simp only [evConvert, hs, hd, val?]
 have : IntKind.u32.wrap ((b : Nat) : Int) = iw (BitVec.ofNat 32 b) := by rw [wrap32_nat, iw, BitVec.toNat_ofNat]
 rw [this]

def four (a b c d : Nat) : Nat := ((a * 256 + b) * 256 + c) * 256 + d
theorem or_of_lt {x y k : Nat} (hy : y < 2 ^ k) : x * 2 ^ k ||| y = x * 2 ^ k + y := by
 rw [← Nat.shiftLeft_eq, ← Nat.shiftLeft_add_eq_or_of_lt hy]
/-! ### Bytes that are an argument -/
def natOf : AV → Nat
 | .int _ n => n.toNat
 | _ => 0
theorem Sl1.bs {h : AH} {x : AV} {cs : List AV} {e : TypeId} (hx : Sl1 h x cs) (he : ∀ (i : Nat) (c : AV), cs[i]? = some c → Ty P h e [c]) (hu : P.underlying e = some (.int .u8)) :
  ∃ l, cs = byC l ∧ Bs h x l ∧ (∀ b ∈ l, b < 256) ∧ l.length = cs.length := by
 have h1 : ∀ c ∈ cs, ∃ n : Nat, c = .int .u8 (n : Int) ∧ n < 256 := by
  intro c hc
  obtain ⟨i, hi⟩ := List.mem_iff_getElem?.1 hc
  obtain ⟨n, hn, h2, h3⟩ := (he i c hi).int_inv hu
  have h2' : (0 : Int) ≤ n := h2
  have h3' : n ≤ 255 := h3
  exact ⟨n.toNat, by cases hn; rw [Int.toNat_of_nonneg h2'], by omega⟩
 have h2 : cs = byC (cs.map natOf) := by
  unfold byC
  rw [List.map_map]
  have : cs.map ((fun (b : Nat) => AV.int .u8 (b : Int)) ∘ natOf) = cs.map id := List.map_congr_left fun c hc => by
   obtain ⟨n, rfl, _⟩ := h1 c hc
   simp [natOf]
  rw [this, List.map_id]
 refine ⟨cs.map natOf, h2, ?_, fun b hb => ?_, by simp⟩
 ·rcases hx with ⟨rfl, rfl⟩ | ⟨id, rfl, hg, hid⟩
  ·exact .inl ⟨rfl, rfl⟩
  ·refine .inr ⟨id, 0, none, cs, false, false, by simp, hg, hid, by simp, (fun k hk => by cases hk), ?_⟩
   rw [List.drop_zero, List.length_map, List.take_length]
   exact h2
 ·obtain ⟨c, hc, rfl⟩ := List.mem_map.1 hb
  obtain ⟨n, rfl, hn⟩ := h1 c hc
  simpa [natOf] using hn

end
attribute [go_sem high] binA_add32 binA_xor32 binA_and32 binA_or32 unA_not32 binA_shl32 binA_shr32
end Go.Abs
end

section
namespace Go.Abs
open Go
set_option linter.unusedVariables false
set_option linter.unusedSimpArgs false

section
variable {P : Program} {S : Sums}

def rndE (l : Nat) (Q : AV → AH → Prop) (ex : Ex) (s : St) : Prop :=
 ∃ st pend fn t n ps a b d, s.h.get l = some (.loop st pend fn t n ps a b d) ∧ match ex with
  | .normal => Q (.bool true) (s.h.put l (.loop .ready none fn t n ps a b d))
  | .ret => Q (.bool false) (s.h.put l (.loop .done (some .ret) fn t n ps a b d))
  | .exit id => Q (.bool false) (s.h.put l (.loop .done (some (.exit id)) fn t n ps a b d))
def rndB (P : Program) (S : Sums) (l fn n : Nat) (body : Code) (Q : AV → AH → Prop) (ex : Ex) (s : St) : Prop :=
 ex = .normal ∧ ∃ pend fn1 t1 n1 ps1 a1 b1 d1, s.h.get l = some (.loop .ready pend fn1 t1 n1 ps1 a1 b1 d1) ∧
  syC P S (some l) fn n body { t := s.t, h := s.h.put l (.loop .busy pend fn1 t1 n1 ps1 a1 b1 d1), d := s.d } (rndE l Q)

theorem RnR.enter {l : Nat} {args : List AV} {h : AH} {Q : AV → AH → Prop} {st : LoopState} {pend : Option Code} {fn n d : Nat} {t t' : Env} {ps : Array Tmp} {assign body : Code} (hg : h.get l = some (.loop st pend fn t n ps assign body d))
  (ht : setArgs ps.toList args n t = some t') (hw : syC P S (some l) fn n assign { t := t', h, d := [] } (rndB P S l fn n body Q)) : RnR P S l args h Q := by
 obtain ⟨k1, ex, s1, e1, rfl, pend1, fn1, t1, n1, ps1, a1, b1, d1, hg1, hw1⟩ := syC_sound hw
 obtain ⟨k2, ex2, s2, e2, st2, pend2, fn2, t2, n2, ps2, a2, b2, d2, hg2, hq⟩ := syC_sound hw1
 have h1 : evCode P (evN P S (max k1 k2)) (some l) fn n assign { t := t', h, d := [] } = some (.normal, s1) := evCode_mono (evN_mono (Nat.le_max_left k1 k2)) e1
 have h2 : evCode P (evN P S (max k1 k2)) (some l) fn n body { s1 with h := s1.h.put l (.loop .busy pend1 fn1 t1 n1 ps1 a1 b1 d1) } = some (ex2, s2) := evCode_mono (evN_mono (Nat.le_max_right k1 k2)) e2
 refine ⟨max k1 k2 + 1, ?_⟩
 show ∃ v h', evRound P (evN P S (max k1 k2)) l args h = some (v, h') ∧ Q v h'
 unfold evRound
 rw [hg]
 simp only
 rw [ht]
 simp only
 rw [h1]
 simp only
 rw [hg1]
 simp only
 rw [h2]
 simp only
 rw [hg2]
 cases ex2 with
 | normal => exact ⟨_, _, rfl, hq⟩
 | ret => exact ⟨_, _, rfl, hq⟩
 | exit i => exact ⟨_, _, rfl, hq⟩

def Bo (n0 : Nat) (h : AH) (v : AV) (l : List Nat) : Prop :=
 ∃ id c cs tx, v = .sl id 0 l.length 1 c ∧ h.get id = some (.cells cs true tx) ∧ id < h.nx ∧ n0 ≤ id ∧ cs.take l.length = byC l ∧ l.length ≤ cs.length ∧ (c = none ∨ c = some l.length)
theorem Bo.bs {n0 : Nat} {h : AH} {v : AV} {l : List Nat} (hb : Bo n0 h v l) : Bs h v l := by
 obtain ⟨id, c, cs, tx, h1, h2, h3, h4, h5, h6, h7⟩ := hb
 refine .inr ⟨id, 0, c, cs, true, tx, h1, h2, h3, by omega, fun k hk => ?_, by rw [List.drop_zero]; exact h5⟩
 rcases h7 with rfl | rfl
 ·cases hk
 ·cases hk; exact Nat.le_refl _
theorem Bo.fr {n0 : Nat} {h h' : AH} {v : AV} {l : List Nat} (hb : Bo n0 h v l) (hf : Fr h h') : Bo n0 h' v l := by
 obtain ⟨id, c, cs, tx, h1, h2, h3, h4, h5⟩ := hb
 exact ⟨id, c, cs, tx, h1, (hf.get id h3).trans h2, Nat.lt_of_lt_of_le h3 hf.nx, h4, h5⟩
theorem Bo.one {v : AV} {l : List Nat} {n0 : Nat} {h : AH} (hb : Bo n0 h v l) : oneA v = true := by
 obtain ⟨id, c, cs, tx, rfl, _⟩ := hb
 rfl

theorem Bo.app {h0 h : AH} {v x : AV} {l m : List Nat} {st e : TypeId} (hu : P.underlying st = some (.slice e)) (hi : appI P e = some (1, 1)) (hb : Bo h0.nx h v l) (hx : Bs h x m) (hf : Fr h0 h) (hl : l.length + m.length ≤ 274877906944) :
  ∃ v' h', evAppend P h #[st, st] v x = some (.val v' h') ∧ Fr h0 h' ∧ Bo h0.nx h' v' (l ++ m) := by
 obtain ⟨hn, hnew⟩ := hx.first
 obtain ⟨id, c, cs, tx, rfl, h2, h3, h4, h5, h6, h7⟩ := hb
 have hold : firstA h 1 l.length (.sl id 0 l.length 1 c) = some (byC l) := by
  rw [firstA_sl h2 (Nat.le_refl _) (by omega), List.drop_zero, Nat.mul_one, h5]
 rw [evAppend_eq hu hu rfl hi hn hnew rfl hold (byC_all m) (by omega) (by omega) rfl]
 by_cases hm : m.length = 0
 ·rw [if_pos hm]
  have : m = [] := List.length_eq_zero_iff.1 hm
  subst this
  exact ⟨_, _, rfl, hf, id, c, cs, tx, by simp, h2, h3, h4, by simpa using h5, by simpa using h6, by simpa using h7⟩
 ·rw [if_neg hm]
  have hlm : (l ++ m).length = l.length + m.length := by simp
  have hby : byC l ++ byC m = byC (l ++ m) := by simp [byC]
  have fin : ∀ (g : AH) (tf : Bool), Fr h0 g → g.nx = h.nx → ∃ v' h', newCells g (byC l ++ byC m) tf (fun id => .sl id 0 (l.length + m.length) 1 none) = some (.val v' h') ∧ Fr h0 h' ∧ Bo h0.nx h' v' (l ++ m) := fun g tf hg hgn =>
   ⟨_, _, rfl, hg.news _, g.nx, none, byC l ++ byC m, tf, by rw [hlm], AH.get_new_eq rfl, Nat.lt_succ_self _, hg.nx, by rw [hby, ← byC_length (l ++ m), List.take_length], by rw [hby, byC_length]; exact Nat.le_refl _, .inl rfl⟩
  rcases h7 with rfl | rfl
  ·simp only
   rw [if_pos (by simp [ownBlock, h2])]
   exact fin _ _ (hf.del h4) rfl
  ·simp only
   rw [if_pos (by omega)]
   exact fin _ _ hf rfl

end
end Go.Abs
end

section
namespace Go.Abs
open Go
set_option linter.unusedVariables false
set_option linter.unusedSimpArgs false

section
variable {P : Program} {S : Sums}

theorem syPut_mono {n : Nat} {t : Env} {dst : Option Tmp} {v : AV} {A B : Env → Prop} (hab : ∀ t', A t' → B t') (hx : syPut n t dst v A) : syPut n t dst v B := by
 unfold syPut at hx ⊢
 split
 ·rename_i hd; exact hab _ hx
 ·exact ⟨hx.1, hab _ hx.2⟩
theorem bnd_mono {α : Type} {ov : Option α} {A B : α → Prop} {u : Blk A} {w : Blk B} (hab : ∀ v, A v → B v) (hx : bnd ov A u) : bnd ov B w := let ⟨a, h1, h2⟩ := hx; ⟨a, h1, hab a h2⟩
theorem resK_mono {h : AH} {A B : AV → AH → Prop} (hab : ∀ v h', A v h' → B v h') : ∀ {r : ORes}, resK P S h A r → resK P S h B r := by
 intro r h2
 cases r with
 | val v h' => exact hab _ _ h2
 | skip h' => exact hab _ _ h2
 | call f args => exact RnC.mono h2 hab
 | yield id args => exact RnR.mono h2 hab
theorem syO_mono {E : Operand → AV} {op : Op} {h : AH} {A B : AV → AH → Prop} (hab : ∀ v h', A v h' → B v h') (hx : syO P S E op h A) : syO P S E op h B := by
 unfold syO at hx ⊢
 split at hx
 ·exact hab _ _ hx
 ·exact hab _ _ hx
 ·obtain ⟨tt, h1, h2, h3⟩ := hx; exact ⟨tt, h1, fun e => hab _ _ (h2 e), fun e => hab _ _ (h3 e)⟩
 ·exact bnd_mono (fun _ => hab _ _) hx
 ·exact bnd_mono (fun _ => hab _ _) hx
 ·exact bnd_mono (fun _ => hab _ _) hx
 ·exact bnd_mono (fun _ => hab _ _) hx
 ·exact bnd_mono (fun _ => hab _ _) hx
 ·exact bnd_mono (fun _ => hab _ _) hx
 ·exact bnd_mono (fun _ => hab _ _) hx
 ·exact bnd_mono (fun _ => hab _ _) hx
 ·exact bnd_mono (fun _ => hab _ _) hx
 ·split at hx
  ·rename_i c _ f _
   change syV P S (E f) (c.args.toList.map E) h A at hx
   change syV P S (E f) (c.args.toList.map E) h B
   unfold syV at hx ⊢
   split at hx
   ·exact RnC.mono hx hab
   ·exact bnd_mono (fun _ => resK_mono hab) hx
   ·exact RnR.mono hx hab
   ·exact hx
  ·exact bnd_mono (fun _ => resK_mono hab) hx
 ·exact bnd_mono (fun _ => resK_mono hab) hx
theorem sy1_mono {n : Nat} {ops : Array Oper} {o : Oper} {t : Env} {h : AH} {A B : Env → AH → Prop} (hab : ∀ t' h', A t' h' → B t' h') (hx : sy1 P S n ops o t h A) : sy1 P S n ops o t h B := by
 unfold sy1 at hx ⊢
 split at hx
 ·exact syO_mono (fun v h' => syPut_mono fun t' => hab t' h') hx
 ·obtain ⟨b, h1, tt, h2, h3, h4⟩ := hx
  exact ⟨b, h1, tt, h2, fun e => syO_mono (fun v h' => syPut_mono fun t' => hab t' h') (h3 e), fun e => syPut_mono (fun t' => hab t' h) (h4 e)⟩

def valOf : Option ORes → Option AV
 | some (.val v _) => some v
 | _ => none
def ptrR (R : Nat → Prop) : AV → Prop
 | .ptr id _ => R id
 | _ => False
def mapR (R : Nat → Prop) : AV → Prop
 | .map id => R id
 | .nilmap => True
 | _ => False
theorem ptrR_ptr (R : Nat → Prop) (id off : Nat) : ptrR R (.ptr id off) = R id := rfl
theorem mapR_map (R : Nat → Prop) (id : Nat) : mapR R (.map id) = R id := rfl
theorem mapR_nil (R : Nat → Prop) : mapR R .nilmap = True := rfl
theorem valOf_val (v : AV) (h : AH) : valOf (some (.val v h)) = some v := rfl

def syLow (P : Program) (R : Nat → Prop) (E : Operand → AV) (op : Op) (h : AH) (K : AV → Prop) : Prop :=
 match op with
 | .load t a => bnd (evLoad P h t (E a)) (fun v => ptrR R (E a) ∧ sameAV 20 v v = true ∧ K v) ⟨⟩
 | .lookup t m k ok => ∃ v, (∀ g, (∀ id, R id → g.get id = h.get id) → evLookup P g t (E m) (E k) ok = some v) ∧ sameAV 20 v v = true ∧ K v
 | .convert s d x => bnd (valOf (evConvert P h s d (E x))) (fun v => (∀ g, (∀ id, R id → g.get id = h.get id) → valOf (evConvert P g s d (E x)) = some v) ∧ sameAV 20 v v = true ∧ K v) ⟨⟩
 | op => bnd (valOf (evOper P E { dst := none, op, type := 0, pos := "", after := #[], guard := none } h)) (fun v => (∀ g, valOf (evOper P E { dst := none, op, type := 0, pos := "", after := #[], guard := none } g) = some v) ∧ sameAV 20 v v = true ∧ K v) ⟨⟩

theorem valOf_some {o : Option ORes} {v : AV} (h : valOf o = some v) : ∃ h', o = some (.val v h') := by
 unfold valOf at h
 split at h
 ·cases h; exact ⟨_, rfl⟩
 ·cases h

def Low (P : Program) (R : Nat → Prop) (E : Operand → AV) (o : Oper) (h : AH) (v : AV) : Prop := ∀ g, (∀ id, R id → g.get id = h.get id) → evOper P E o g = some (.val v g)

theorem evLoad_keep {R : Nat → Prop} {h g : AH} {t : TypeId} {x : AV} (hx : ptrR R x) (hg : ∀ id, R id → g.get id = h.get id) : evLoad P g t x = evLoad P h t x := by
 cases x <;> first | exact hx.elim | skip
 rename_i id off
 have h1 := hg id hx
 simp only [evLoad, h1]
theorem syLow_ok {R : Nat → Prop} {E : Operand → AV} {o : Oper} {h : AH} {K : AV → Prop} (hc : clsOf P o.op = 1) (hx : syLow P R E o.op h K) : ∃ v, Low P R E o h v ∧ sameAV 20 v v = true ∧ K v := by
 obtain ⟨dst, op, ty, pos, after, guard⟩ := o
 simp only at hc hx
 unfold syLow at hx
 split at hx
 ·rename_i t a
  obtain ⟨v, h1, h2, h3, h4⟩ := hx
  refine ⟨v, fun g hg => ?_, h3, h4⟩
  simp only [evOper, evLoad_keep (P := P) (t := t) h2 hg, h1, val?]
 ·rename_i t m k ok
  obtain ⟨v, h1, h3, h4⟩ := hx
  refine ⟨v, fun g hg => ?_, h3, h4⟩
  simp only [evOper, h1 g hg, val?]
 ·rename_i s d x
  obtain ⟨v, h1, h2, h3, h4⟩ := hx
  refine ⟨v, fun g hg => ?_, h3, h4⟩
  obtain ⟨g', hg'⟩ := valOf_some (h2 g hg)
  have hg2 : evOper P E { dst := dst, op := .convert s d x, type := ty, pos := pos, after := after, guard := guard } g = some (.val v g') := by
   rw [← hg']
   rfl
  obtain ⟨u, hu⟩ := evOper_read (P := P) (by simpa using Nat.le_of_eq hc) hg2
  cases hu
  exact hg2
 ·obtain ⟨v, h1, h2, h3, h4⟩ := hx
  refine ⟨v, fun g hg => ?_, h3, h4⟩
  obtain ⟨g', hg'⟩ := valOf_some (h2 g)
  obtain ⟨u, hu⟩ := evOper_read (P := P) (by simpa using Nat.le_of_eq hc) hg'
  cases hu
  exact hg'

/-! ### The walk -/
def clsK4 (c : Nat) (A B C D : Prop) (_ : Blk A) (_ : Blk B) (_ : Blk C) (_ : Blk D) : Prop :=
 match c with
 | 2 => A
 | 3 => B
 | 1 => C
 | _ => D
theorem clsK4_0 (A B C D : Prop) (u : Blk A) (v : Blk B) (w : Blk C) (x : Blk D) : clsK4 0 A B C D u v w x = D := rfl
theorem clsK4_1 (A B C D : Prop) (u : Blk A) (v : Blk B) (w : Blk C) (x : Blk D) : clsK4 1 A B C D u v w x = C := rfl
theorem clsK4_2 (A B C D : Prop) (u : Blk A) (v : Blk B) (w : Blk C) (x : Blk D) : clsK4 2 A B C D u v w x = A := rfl
theorem clsK4_3 (A B C D : Prop) (u : Blk A) (v : Blk B) (w : Blk C) (x : Blk D) : clsK4 3 A B C D u v w x = B := rfl
def syDSK (P : Program) (S : Sums) (R : Nat → Prop) (n : Nat) (ops : Array Oper) (base i : Nat) (o : Oper) (t : Env) (h : AH) (pend : List (Nat × AO)) (K : Env → AH → List (Nat × AO) → Prop) : Prop :=
 clsK4 (clsOf P o.op)
  (bnd (wantedA ops t o) (fun b => ifB (.bool b)
   (bnd (allocA P (opnd t) o.op) (fun x => syPut n t o.dst (x.2 (base + i)) fun t' => K t' h (pend ++ [(base + i, x.1)])) ⟨⟩)
   (syPut n t o.dst (.tup []) fun t' => K t' h pend) ⟨⟩ ⟨⟩) ⟨⟩)
  (sy1 P S n ops o t (absorb pend h) fun t' h' => (∀ id, R id → h'.get id = h.get id) ∧ K t' h' [])
  (bnd (wantedA ops t o) (fun b => ifB (.bool b) (syLow P R (opnd t) o.op h fun v => syPut n t o.dst v fun t' => K t' h pend) (syPut n t o.dst (.tup []) fun t' => K t' h pend) ⟨⟩ ⟨⟩) ⟨⟩)
  (sy1 P S n ops o t h fun t' _ => K t' h pend) ⟨⟩ ⟨⟩ ⟨⟩ ⟨⟩

def syGoK (P : Program) (S : Sums) (R : Nat → Prop) (n : Nat) (ops : Array Oper) (base : Nat) : List Oper → Nat → Env → AH → List (Nat × AO) → (Env → AH → Prop) → Prop
 | [], _, t, h, pend, K => K t (absorb pend h)
 | o :: r, i, t, h, pend, K => syDSK P S R n ops base i o t h pend fun t' h' pend' => syGoK P S R n ops base r (i + 1) t' h' pend' K

structure StepOK (P : Program) (R : Nat → Prop) (n : Nat) (ops : Array Oper) (o : Oper) (t : Env) (h : AH) (t' : Env) (h' : AH) : Prop where
 keep : ∀ id, R id → h'.get id = h.get id
 low : clsOf P o.op = 1 → ∀ (Rc : Rec) g, (∀ id, R id → g.get id = h.get id) → ∃ t2, evOp1 P Rc n ops o (restr t (o.looksAt ops) .nil) g = some (t2, g) ∧ ∀ d, o.dst = some d → ∃ a b, t2.get d = some a ∧ t'.get d = some b ∧ sameAV 20 a b = true

theorem putA_some {n : Nat} {t t' : Env} {dst : Option Tmp} {v : AV} (hp : putA n t dst v = some t') : ∀ d, dst = some d → t'.get d = some v := by
 intro d hd
 subst hd
 simp only [putA] at hp
 split at hp
 ·cases hp; rw [Tr.get_set, if_pos rfl]
 ·cases hp

theorem low_step {R : Nat → Prop} {n : Nat} {ops : Array Oper} {o : Oper} {t t' : Env} {h : AH} {v : AV} (hs : sameAV 20 v v = true) (hp : putA n t o.dst v = some t')
  (hev : ∀ (Rc : Rec) g, (∀ id, R id → g.get id = h.get id) → evOp1 P Rc n ops o t g = some (t', g)) : StepOK P R n ops o t h t' h := by
 refine ⟨fun _ _ => rfl, fun _ Rc g hg => ?_⟩
 obtain ⟨t1, h1, h2⟩ := evOp1_draw (hev Rc g hg)
 refine ⟨t1, h1, fun d hd => ⟨v, v, ?_, putA_some hp d hd, hs⟩⟩
 have h3 := congrArg (fun e => Tr.get e d) h2
 have h4 : t'.get d = some v := putA_some hp d hd
 simp only [backA, hd, Tr.get_set, if_true] at h3
 rw [h3]; exact h4

theorem syO_of_val {E : Operand → AV} {o : Oper} {h : AH} {v : AV} {K : AV → AH → Prop} (hc : clsOf P o.op = 1) (he : evOper P E o h = some (.val v h)) (hk : K v h) : syO P S E o.op h K := by
 obtain ⟨dst, op, ty, pos, after, guard⟩ := o
 cases op <;> simp only [clsOf] at hc <;> (first | (exact absurd hc (by decide)) | skip)
 case load => obtain ⟨u, h1, h2⟩ := val?_spec he; cases h2; exact ⟨_, h1, hk⟩
 case lookup => obtain ⟨u, h1, h2⟩ := val?_spec he; cases h2; exact ⟨_, h1, hk⟩
 case binOp => obtain ⟨u, h1, h2⟩ := val?_spec he; cases h2; exact ⟨_, h1, hk⟩
 case slice => obtain ⟨u, h1, h2⟩ := val?_spec he; cases h2; exact ⟨_, h1, hk⟩
 case convert => exact ⟨_, he, hk⟩
 case call c =>
  obtain ⟨callee, args, tys⟩ := c
  cases callee with
  | builtin b => exact ⟨_, he, hk⟩
  | invoke r nm => simp at hc
  | value f => simp at hc
theorem sy1_of {n : Nat} {ops : Array Oper} {o : Oper} {t : Env} {h : AH} {b : Bool} {K : Env → AH → Prop} (hw : wantedA ops t o = some b) (ht : b = true → syO P S (opnd t) o.op h fun v h' => syPut n t o.dst v fun t' => K t' h') (hf : b = false → syPut n t o.dst (.tup []) fun t' => K t' h) : sy1 P S n ops o t h K := by
 unfold sy1
 split
 ·rename_i hg
  have : b = true := by
   unfold wantedA at hw
   rw [hg] at hw
   cases hw; rfl
  exact ht this
 ·exact ⟨b, hw, b, rfl, ht, hf⟩

theorem syDSK_step {R : Nat → Prop} {n : Nat} {ops : Array Oper} {base i : Nat} {o : Oper} {t : Env} {h : AH} {pend : List (Nat × AO)} {K : Env → AH → List (Nat × AO) → Prop} (hw : syDSK P S R n ops base i o t h pend K) :
  syDS P S n ops base i o t h pend fun t' h' pend' => StepOK P R n ops o t h t' h' ∧ K t' h' pend' := by
 unfold syDSK clsK4 at hw
 unfold syDS clsK
 split at hw
 ·rename_i hc
  rw [hc]
  obtain ⟨b, h1, tt, h2, h3, h4⟩ := hw
  have hst : ∀ t', StepOK P R n ops o t h t' h := fun t' => ⟨fun _ _ => rfl, fun hh => by rw [hc] at hh; cases hh⟩
  exact ⟨b, h1, tt, h2, fun e => bnd_mono (fun x => syPut_mono fun t' hk => ⟨hst t', hk⟩) (h3 e), fun e => syPut_mono (fun t' hk => ⟨hst t', hk⟩) (h4 e)⟩
 ·rename_i hc
  rw [hc]
  exact sy1_mono (fun t' h' hk => ⟨⟨hk.1, fun hh => by rw [hc] at hh; cases hh⟩, hk.2⟩) hw
 ·rename_i hc
  rw [hc]
  obtain ⟨b, h1, h2⟩ := hw
  have hwant : ∀ (Rc : Rec) (g : AH) (v : AV) (t' : Env), b = true → evOper P (opnd t) o g = some (.val v g) → putA n t o.dst v = some t' → evOp1 P Rc n ops o t g = some (t', g) := fun Rc g v t' hb he hp => by
   subst hb
   rw [evOp1_eq, h1]
   simp only [he, stepR, hp, Option.map_some]
  have hskip : ∀ (Rc : Rec) (g : AH) (t' : Env), b = false → putA n t o.dst (.tup []) = some t' → evOp1 P Rc n ops o t g = some (t', g) := fun Rc g t' hb hp => by
   subst hb
   rw [evOp1_eq, h1]
   simp only [hp, Option.map_some]
  rcases ifB_bool h2 with ⟨hb, h3⟩ | ⟨hb, h3⟩
  ·obtain ⟨v, hlow, hs, hk⟩ := syLow_ok hc h3
   obtain ⟨t', hp, hk'⟩ := syPut_sound hk
   have hstep : StepOK P R n ops o t h t' h := low_step hs hp fun Rc g hg => hwant Rc g v t' hb (hlow g hg) hp
   subst hb
   have hput : syPut n t o.dst v fun t2 => StepOK P R n ops o t h t2 h ∧ K t2 h pend := by
    have : ∀ t2, putA n t o.dst v = some t2 → StepOK P R n ops o t h t2 h := fun t2 h2 => by rw [hp] at h2; cases h2; exact hstep
    unfold syPut at hk ⊢
    unfold putA at this
    split
    ·rename_i hd; rw [hd] at hk this; exact ⟨this _ rfl, hk⟩
    ·rename_i d hd; rw [hd] at hk this; exact ⟨hk.1, this _ (if_pos hk.1), hk.2⟩
   have hev := hlow h fun _ _ => rfl
   have hO := syO_of_val (S := S) (K := fun u h' => syPut n t o.dst u fun t2 => StepOK P R n ops o t h t2 h ∧ K t2 h pend) hc hev hput
   exact sy1_of h1 (fun _ => hO) (fun hf => by cases hf)
  ·obtain ⟨t', hp, hk'⟩ := syPut_sound h3
   have hstep : StepOK P R n ops o t h t' h := low_step (v := .tup []) rfl hp fun Rc g hg => hskip Rc g t' hb hp
   subst hb
   have hput : syPut n t o.dst (.tup []) fun t2 => StepOK P R n ops o t h t2 h ∧ K t2 h pend := by
    have : ∀ t2, putA n t o.dst (.tup []) = some t2 → StepOK P R n ops o t h t2 h := fun t2 h2 => by rw [hp] at h2; cases h2; exact hstep
    unfold syPut at h3 ⊢
    unfold putA at this
    split
    ·rename_i hd; rw [hd] at h3 this; exact ⟨this _ rfl, h3⟩
    ·rename_i d hd; rw [hd] at h3 this; exact ⟨h3.1, this _ (if_pos h3.1), h3.2⟩
   exact sy1_of (K := fun t2 _ => StepOK P R n ops o t h t2 h ∧ K t2 h pend) h1 (fun hf => by cases hf) (fun _ => hput)
 ·rename_i n2 n3 n1
  have hst : ∀ t', StepOK P R n ops o t h t' h := fun t' => ⟨fun _ _ => rfl, fun hh => absurd hh n1⟩
  have hres : sy1 P S n ops o t h fun t' _ => StepOK P R n ops o t h t' h ∧ K t' h pend := sy1_mono (fun t' h' hk => ⟨hst t', hk⟩) hw
  split
  ·rename_i hc; exact absurd hc n2
  ·rename_i hc; exact absurd hc n3
  ·exact hres

theorem syDS_mono {n : Nat} {ops : Array Oper} {base i : Nat} {o : Oper} {t : Env} {h : AH} {pend : List (Nat × AO)} {A B : Env → AH → List (Nat × AO) → Prop} (hab : ∀ t' h' p', A t' h' p' → B t' h' p') (hw : syDS P S n ops base i o t h pend A) : syDS P S n ops base i o t h pend B := by
 unfold syDS clsK at hw ⊢
 split at hw
 ·obtain ⟨b, h1, tt, h2, h3, h4⟩ := hw
  exact ⟨b, h1, tt, h2, fun e => bnd_mono (fun x => syPut_mono fun t' hk => hab _ _ _ hk) (h3 e), fun e => syPut_mono (fun t' hk => hab _ _ _ hk) (h4 e)⟩
 ·exact sy1_mono (fun t' h' hk => hab _ _ _ hk) hw
 ·exact sy1_mono (fun t' h' hk => hab _ _ _ hk) hw

def SS (P : Program) (R : Nat → Prop) (n : Nat) (ops : Array Oper) (ss : List DS) : Prop :=
 ∀ j o s s', ops[j]? = some o → ss[j]? = some s → ss[j + 1]? = some s' → StepOK P R n ops o s.t s.h s'.t s'.h

theorem syGoK_go {R : Nat → Prop} {n : Nat} {ops : Array Oper} {base : Nat} : ∀ {l : List Oper} {i : Nat} {t : Env} {h : AH} {pend : List (Nat × AO)} {acc : List DS} {K : Env → AH → Prop}, (∃ pre, ops.toList = pre ++ l ∧ pre.length = i) → acc.length = i →
  SS P R n ops (acc ++ [({ t := t, h := h, pend := pend } : DS)]) → syGoK P S R n ops base l i t h pend K →
  syGo P S n ops base l i t h pend acc fun ss t' h' => (SS P R n ops ss ∧ ss.length = ops.size + 1) ∧ K t' h'
 | [], i, t, h, pend, acc, K, ⟨pre, hp, hl⟩, ha, hs, hw => by
  refine ⟨⟨hs, ?_⟩, hw⟩
  have : ops.size = i := by rw [← Array.length_toList, hp]; simpa using hl
  simp [ha, this]
 | o :: r, i, t, h, pend, acc, K, ⟨pre, hp, hl⟩, ha, hs, hw => by
  refine syDS_mono (fun t' h' pend' hk => ?_) (syDSK_step hw)
  refine syGoK_go (l := r) ⟨pre ++ [o], by rw [hp]; simp, by simp [hl]⟩ (by simp [ha]) ?_ hk.2
  intro j oj s s' hoj hsj hsj'
  by_cases hj : j + 1 < acc.length + 1
  ·refine hs j oj s s' hoj ?_ ?_
   ·rw [List.getElem?_append_left (by simp; omega)] at hsj; exact hsj
   ·rw [List.getElem?_append_left (by simp; omega)] at hsj'; exact hsj'
  ·have hjl : j + 1 < ((acc ++ [({ t := t, h := h, pend := pend } : DS)]) ++ [({ t := t', h := h', pend := pend' } : DS)]).length := (List.getElem?_eq_some_iff.1 hsj').1
   simp at hjl
   have hje : j = acc.length := by omega
   subst hje
   have h1 : s = { t := t, h := h, pend := pend } := by
    rw [List.getElem?_append_left (by simp), List.getElem?_append_right (Nat.le_refl _)] at hsj
    simpa using hsj.symm
   have h2 : s' = { t := t', h := h', pend := pend' } := by
    rw [List.getElem?_append_right (by simp)] at hsj'
    simpa using hsj'.symm
   have h3 : oj = o := by
    rw [← Array.getElem?_toList, hp, ha, ← hl, List.getElem?_append_right (Nat.le_refl _)] at hoj
    simpa using hoj.symm
   subst h1; subst h2; subst h3
   exact hk.1

theorem SS.chain {R : Nat → Prop} {n : Nat} {ops : Array Oper} {ss : List DS} (hs : SS P R n ops ss) (hl : ss.length = ops.size + 1) : ∀ (b a : Nat), a ≤ b → b ≤ ops.size → ∀ sa sb, ss[a]? = some sa → ss[b]? = some sb → ∀ id, R id → sb.h.get id = sa.h.get id
 | 0, a, hab, _, sa, sb, h1, h2, id, hr => by
  obtain rfl : a = 0 := by omega
  rw [h1] at h2; cases h2; rfl
 | b + 1, a, hab, hb, sa, sb, h1, h2, id, hr => by
  by_cases he : a = b + 1
  ·subst he; rw [h1] at h2; cases h2; rfl
  ·have h3 : ss[b]? = some ss[b] := List.getElem?_eq_getElem (by omega)
   have h4 : ops[b]? = some ops[b] := Array.getElem?_eq_getElem (by omega)
   rw [(hs b _ _ _ h4 h3 h2).keep id hr]
   exact hs.chain hl b a (by omega) (by omega) sa _ h1 h3 id hr

def GoodP (P : Program) (ops : Array Oper) (p : Nat × Nat) : Prop := p.1 < p.2 ∧ ∃ oj oi, ops[p.1]? = some oj ∧ ops[p.2]? = some oi ∧ ((clsOf P oi.op = 1 ∧ clsOf P oj.op = 3) ∨ (clsOf P oi.op = 3 ∧ clsOf P oj.op = 1))

theorem pairsAt_good {o : Oper} {m i : Nat} : ∀ (l : List Oper) (j0 : Nat) (p : Nat × Nat), p ∈ pairsAt P o m i j0 l → ∃ j q, p = (j0 + j, i) ∧ l[j]? = some q ∧ ((clsOf P o.op = 1 ∧ clsOf P q.op = 3) ∨ (clsOf P o.op = 3 ∧ clsOf P q.op = 1))
 | [], j0, p, hp => by simp [pairsAt] at hp
 | q :: l, j0, p, hp => by
  have tail : p ∈ pairsAt P o m i (j0 + 1) l → ∃ j q', p = (j0 + j, i) ∧ (q :: l)[j]? = some q' ∧ ((clsOf P o.op = 1 ∧ clsOf P q'.op = 3) ∨ (clsOf P o.op = 3 ∧ clsOf P q'.op = 1)) := fun h => by
   obtain ⟨j, q', h1, h2, h3⟩ := pairsAt_good l (j0 + 1) p h
   exact ⟨j + 1, q', by rw [h1]; congr 1; omega, by simpa using h2, h3⟩
  simp only [pairsAt] at hp
  split at hp
  ·rename_i hc
   rcases List.mem_cons.1 hp with rfl | hp
   ·refine ⟨0, q, rfl, rfl, ?_⟩
    simp only [Bool.and_eq_true, Bool.or_eq_true, nat_beq_dec, decide_eq_true_eq] at hc
    exact hc.2
   ·exact tail hp
  ·exact tail hp

theorem statGo_good {ops : Array Oper} : ∀ (l : List Oper) (i : Nat) (prev : List Oper) (ms : List Nat) (acc prs : List (Nat × Nat)), prev.length = i → ops.toList = prev ++ l → (∀ p, p ∈ acc → GoodP P ops p) → statGo P ops l i prev ms acc = some prs → ∀ p, p ∈ prs → GoodP P ops p
 | [], i, prev, ms, acc, prs, _, _, ha, hs, p, hp => by simp only [statGo, Option.some.injEq] at hs; subst hs; exact ha p hp
 | o :: r, i, prev, ms, acc, prs, hl, ho, ha, hs, p, hp => by
  simp only [statGo] at hs
  split at hs
  ·cases hs
  ·rename_i m _
   split at hs
   ·refine statGo_good r (i + 1) (prev ++ [o]) _ _ prs (by simp [hl]) (by rw [ho]; simp) (fun q hq => ?_) hs p hp
    rcases List.mem_append.1 hq with hq | hq
    ·exact ha q hq
    ·obtain ⟨j, oj, h1, h2, h3⟩ := pairsAt_good prev 0 q hq
     have hj : j < prev.length := (List.getElem?_eq_some_iff.1 h2).1
     rw [Nat.zero_add] at h1
     subst h1
     refine ⟨by show j < i; omega, oj, o, ?_, ?_, h3⟩
     ·show ops[j]? = some oj
      rw [← Array.getElem?_toList, ho, List.getElem?_append_left hj]; exact h2
     ·show ops[i]? = some o
      rw [← Array.getElem?_toList, ho, ← hl, List.getElem?_append_right (Nat.le_refl _)]; simp
   ·cases hs

theorem sameAt_low {R : Nat → Prop} {Rc : Rec} {n i : Nat} {ops : Array Oper} {o : Oper} {t t' : Env} {h h' g : AH} (ho : ops[i]? = some o) (hst : StepOK P R n ops o t h t' h') (hc : clsOf P o.op = 1) (hg : ∀ id, R id → g.get id = h.get id) : sameAt P Rc n ops i t t' g = true := by
 obtain ⟨t2, h1, h2⟩ := hst.low hc Rc g hg
 unfold sameAt
 rw [ho]
 simp only [h1]
 cases hd : o.dst with
 | none => rfl
 | some d =>
  obtain ⟨a, b, h3, h4, h5⟩ := h2 d hd
  simp only [h3, h4]
  exact h5

theorem sameAll_good {R : Nat → Prop} {Rc : Rec} {n : Nat} {ops : Array Oper} {ss : List DS} (hs : SS P R n ops ss) (hl : ss.length = ops.size + 1) : ∀ (prs : List (Nat × Nat)), (∀ p, p ∈ prs → GoodP P ops p) → sameAll P Rc n ops ss prs = true
 | [], _ => rfl
 | (j, i) :: r, hg => by
  obtain ⟨hji, oj, oi, hoj, hoi, hcl⟩ := hg (j, i) (List.mem_cons_self ..)
  simp only at hji hoj hoi
  have hi : i < ops.size := (Array.getElem?_eq_some_iff.1 hoi).1
  have g1 : ss[i]? = some ss[i] := List.getElem?_eq_getElem (by omega)
  have g2 : ss[i + 1]? = some ss[i + 1] := List.getElem?_eq_getElem (by omega)
  have g3 : ss[j]? = some ss[j] := List.getElem?_eq_getElem (by omega)
  have g4 : ss[j + 1]? = some ss[j + 1] := List.getElem?_eq_getElem (by omega)
  refine sameAll_one hoi g1 g2 g3 g4 ?_ (sameAll_good hs hl r fun p hp => hg p (List.mem_cons_of_mem _ hp))
  rcases hcl with ⟨c1, c2⟩ | ⟨c1, c2⟩
  ·rw [if_pos (by rw [c1]; rfl)]
   exact sameAt_low hoi (hs i _ _ _ hoi g1 g2) c1 fun id hr => (hs.chain hl i j (by omega) (by omega) _ _ g3 g1 id hr).symm
  ·rw [if_neg (by rw [c1]; decide)]
   exact sameAt_low hoj (hs j _ _ _ hoj g3 g4) c2 fun id hr => hs.chain hl (i + 1) j (by omega) (by omega) _ _ g3 g2 id hr

theorem syGo_mono {n : Nat} {ops : Array Oper} {base : Nat} {A B : List DS → Env → AH → Prop} (hab : ∀ ss t h, A ss t h → B ss t h) : ∀ {l : List Oper} {i : Nat} {t : Env} {h : AH} {pend : List (Nat × AO)} {acc : List DS}, syGo P S n ops base l i t h pend acc A → syGo P S n ops base l i t h pend acc B
 | [], _, _, _, _, _, hw => hab _ _ _ hw
 | o :: r, i, t, h, pend, acc, hw => syDS_mono (fun _ _ _ hk => syGo_mono hab hk) hw

theorem syDraw.keep {n : Nat} {l : List Oper} {t : Env} {h : AH} {K : Env → AH → Prop} (R : Nat → Prop) (hf : P.follows .mixedOrders = true) (hs : (statGo P l.toArray l 0 [] [] []).isSome = true)
  (hw : syGoK P S R n l.toArray h.nx l 0 t { tr := h.tr, nx := h.nx + l.length } [] K) : syDraw P S n l.toArray t h K ⟨⟩ ⟨⟩ ⟨⟩ ⟨⟩ := by
 obtain ⟨prs, hp⟩ := Option.isSome_iff_exists.1 hs
 refine syDraw.go prs hf hp ?_
 have h1 := syGoK_go (P := P) (S := S) (R := R) (ops := l.toArray) (l := l) (i := 0) (acc := []) ⟨[], by simp, rfl⟩ rfl (fun j o s s' _ _ h2 => by simp at h2) hw
 refine syGo_mono (fun ss t' h' hk => ⟨?_, hk.2⟩) h1
 exact sameAll_good hk.1.1 hk.1.2 prs (statGo_good l 0 [] [] [] prs rfl (by simp) (fun p hp => by simp at hp) hp)

/-! ### Rules -/
theorem syGoK_nil (R : Nat → Prop) (n : Nat) (ops : Array Oper) (base i : Nat) (t : Env) (h : AH) (pend : List (Nat × AO)) (K : Env → AH → Prop) : syGoK P S R n ops base [] i t h pend K = K t (absorb pend h) := propext Iff.rfl
theorem syGoK_cons (R : Nat → Prop) (n : Nat) (ops : Array Oper) (base i : Nat) (o : Oper) (r : List Oper) (t : Env) (h : AH) (pend : List (Nat × AO)) (K : Env → AH → Prop) :
  syGoK P S R n ops base (o :: r) i t h pend K = syDSK P S R n ops base i o t h pend fun t' h' pend' => syGoK P S R n ops base r (i + 1) t' h' pend' K := rfl
theorem syDSK_none (R : Nat → Prop) (n : Nat) (ops : Array Oper) (base i : Nat) (dst : Option Tmp) (op : Op) (ty : TypeId) (pos : String) (after : Array Edge) (t : Env) (h : AH) (pend : List (Nat × AO)) (K : Env → AH → List (Nat × AO) → Prop) :
  syDSK P S R n ops base i { dst, op, type := ty, pos, after, guard := none } t h pend K = clsK4 (clsOf P op)
   (bnd (allocA P (opnd t) op) (fun x => syPut n t dst (x.2 (base + i)) fun t' => K t' h (pend ++ [(base + i, x.1)])) ⟨⟩)
   (syO P S (opnd t) op (absorb pend h) fun v h' => syPut n t dst v fun t' => (∀ id, R id → h'.get id = h.get id) ∧ K t' h' [])
   (syLow P R (opnd t) op h fun v => syPut n t dst v fun t' => K t' h pend)
   (syO P S (opnd t) op h fun v _ => syPut n t dst v fun t' => K t' h pend) ⟨⟩ ⟨⟩ ⟨⟩ ⟨⟩ := by
 have h1 : ∀ (c : Nat) (A A' B C C' D : Prop), A = A' → C = C' → clsK4 c A B C D ⟨⟩ ⟨⟩ ⟨⟩ ⟨⟩ = clsK4 c A' B C' D ⟨⟩ ⟨⟩ ⟨⟩ ⟨⟩ := by
  intro c A A' B C C' D e1 e2
  subst e1; subst e2
  rfl
 refine h1 _ _ _ _ _ _ _ ?_ ?_
 ·show bnd (some true) _ _ = _
  rw [bnd_some, ifB_true]
 ·show bnd (some true) _ _ = _
  rw [bnd_some, ifB_true]
theorem syDSK_some (R : Nat → Prop) (n : Nat) (ops : Array Oper) (base i : Nat) (dst : Option Tmp) (op : Op) (ty : TypeId) (pos : String) (after : Array Edge) (g : Nat × Bool) (t : Env) (h : AH) (pend : List (Nat × AO)) (K : Env → AH → List (Nat × AO) → Prop) :
  syDSK P S R n ops base i { dst, op, type := ty, pos, after, guard := some g } t h pend K = bnd (wantedA ops t { dst, op := .move (.tmp 0), type := ty, pos, after, guard := some g }) (fun b => ifB (.bool b)
   (clsK4 (clsOf P op)
    (bnd (allocA P (opnd t) op) (fun x => syPut n t dst (x.2 (base + i)) fun t' => K t' h (pend ++ [(base + i, x.1)])) ⟨⟩)
    (syO P S (opnd t) op (absorb pend h) fun v h' => syPut n t dst v fun t' => (∀ id, R id → h'.get id = h.get id) ∧ K t' h' [])
    (syLow P R (opnd t) op h fun v => syPut n t dst v fun t' => K t' h pend)
    (syO P S (opnd t) op h fun v _ => syPut n t dst v fun t' => K t' h pend) ⟨⟩ ⟨⟩ ⟨⟩ ⟨⟩)
   (clsK4 (clsOf P op)
    (syPut n t dst (.tup []) fun t' => K t' h pend)
    (syPut n t dst (.tup []) fun t' => (∀ id, R id → (absorb pend h).get id = h.get id) ∧ K t' (absorb pend h) [])
    (syPut n t dst (.tup []) fun t' => K t' h pend)
    (syPut n t dst (.tup []) fun t' => K t' h pend) ⟨⟩ ⟨⟩ ⟨⟩ ⟨⟩) ⟨⟩ ⟨⟩) ⟨⟩ := by
 unfold syDSK
 show clsK4 (clsOf P op) _ _ _ _ _ _ _ _ = _
 generalize clsOf P op = c
 rcases c with _ | _ | _ | _ | c <;> rfl
theorem syLow_load (R : Nat → Prop) (E : Operand → AV) (t : TypeId) (a : Operand) (h : AH) (K : AV → Prop) : syLow P R E (.load t a) h K = bnd (evLoad P h t (E a)) (fun v => ptrR R (E a) ∧ sameAV 20 v v = true ∧ K v) ⟨⟩ := rfl
theorem syLow_lookup (R : Nat → Prop) (E : Operand → AV) (t : TypeId) (m k : Operand) (ok : Bool) (h : AH) (K : AV → Prop) : syLow P R E (.lookup t m k ok) h K = ∃ v, (∀ g, (∀ id, R id → g.get id = h.get id) → evLookup P g t (E m) (E k) ok = some v) ∧ sameAV 20 v v = true ∧ K v := rfl
theorem syLow_call (R : Nat → Prop) (E : Operand → AV) (c : Call) (h : AH) (K : AV → Prop) : syLow P R E (.call c) h K = bnd (valOf (evCall P h E c)) (fun v => (∀ g, valOf (evCall P g E c) = some v) ∧ sameAV 20 v v = true ∧ K v) ⟨⟩ := rfl
theorem syLow_bin (R : Nat → Prop) (E : Operand → AV) (op : BinOp) (t : TypeId) (x y : Operand) (z : TypeId) (h : AH) (K : AV → Prop) : syLow P R E (.binOp op t x y z) h K = bnd (valOf (val? h (binA P h op t (E x) (E y)))) (fun v => (∀ g, valOf (val? g (binA P g op t (E x) (E y))) = some v) ∧ sameAV 20 v v = true ∧ K v) ⟨⟩ := rfl
theorem syLow_conv (R : Nat → Prop) (E : Operand → AV) (s d : TypeId) (x : Operand) (h : AH) (K : AV → Prop) : syLow P R E (.convert s d x) h K = bnd (valOf (evConvert P h s d (E x))) (fun v => (∀ g, (∀ id, R id → g.get id = h.get id) → valOf (evConvert P g s d (E x)) = some v) ∧ sameAV 20 v v = true ∧ K v) ⟨⟩ := rfl

end
attribute [go_sem ↓] syGoK_nil syGoK_cons syDSK_none syDSK_some syLow_load syLow_lookup syLow_call syLow_bin syLow_conv
attribute [go_sem] clsK4_0 clsK4_1 clsK4_2 clsK4_3 ptrR_ptr mapR_map mapR_nil valOf_val
end Go.Abs
end

section
namespace Go.Abs
open Go
set_option linter.unusedVariables false
set_option linter.unusedSimpArgs false

section
variable {P : Program} {S : Sums}

def syGoL (P : Program) (S : Sums) (R : Nat → Prop) (n : Nat) (ops : Array Oper) (base : Nat) : List Oper → Nat → Env → AH → List (Nat × AO) → (Env → AH → Prop) → Prop
 | [], _, t, h, pend, K => K t (absorb pend h)
 | [o], i, t, h, pend, K => syDS P S n ops base i o t h pend fun t' h' pend' => K t' (absorb pend' h')
 | o :: o2 :: r, i, t, h, pend, K => syDSK P S R n ops base i o t h pend fun t' h' pend' => syGoL P S R n ops base (o2 :: r) (i + 1) t' h' pend' K
def SSL (P : Program) (R : Nat → Prop) (n : Nat) (ops : Array Oper) (ss : List DS) : Prop :=
 ∀ j o s s', j + 1 < ops.size → ops[j]? = some o → ss[j]? = some s → ss[j + 1]? = some s' → StepOK P R n ops o s.t s.h s'.t s'.h

theorem SSL.chain {R : Nat → Prop} {n : Nat} {ops : Array Oper} {ss : List DS} (hs : SSL P R n ops ss) (hl : ss.length = ops.size + 1) : ∀ (b a : Nat), a ≤ b → b + 1 ≤ ops.size → ∀ sa sb, ss[a]? = some sa → ss[b]? = some sb → ∀ id, R id → sb.h.get id = sa.h.get id
 | 0, a, hab, _, sa, sb, h1, h2, id, hr => by
  obtain rfl : a = 0 := by omega
  rw [h1] at h2; cases h2; rfl
 | b + 1, a, hab, hb, sa, sb, h1, h2, id, hr => by
  by_cases he : a = b + 1
  ·subst he; rw [h1] at h2; cases h2; rfl
  ·have h3 : ss[b]? = some ss[b] := List.getElem?_eq_getElem (by omega)
   have h4 : ops[b]? = some ops[b] := Array.getElem?_eq_getElem (by omega)
   rw [(hs b _ _ _ (by omega) h4 h3 h2).keep id hr]
   exact hs.chain hl b a (by omega) (by omega) sa _ h1 h3 id hr

def lastFree (n : Nat) (o : Option (List (Nat × Nat))) : Bool := match o with
 | some prs => prs.all fun p => Nat.blt (p.2 + 1) n
 | none => false
theorem syGoL_one (R : Nat → Prop) (n : Nat) (ops : Array Oper) (base : Nat) (o : Oper) (i : Nat) (t : Env) (h : AH) (pend : List (Nat × AO)) (K : Env → AH → Prop) : syGoL P S R n ops base [o] i t h pend K = syDS P S n ops base i o t h pend fun t' h' pend' => K t' (absorb pend' h') := rfl
theorem syGoL_cons (R : Nat → Prop) (n : Nat) (ops : Array Oper) (base : Nat) (o o2 : Oper) (r : List Oper) (i : Nat) (t : Env) (h : AH) (pend : List (Nat × AO)) (K : Env → AH → Prop) : syGoL P S R n ops base (o :: o2 :: r) i t h pend K = syDSK P S R n ops base i o t h pend fun t' h' pend' => syGoL P S R n ops base (o2 :: r) (i + 1) t' h' pend' K := rfl
end
attribute [go_sem ↓] syGoL_one syGoL_cons
end Go.Abs
end

section
namespace Go.Abs
open Go
set_option linter.unusedVariables false

section
variable {P : Program}

end
end Go.Abs
end

section
namespace Go.Abs
open Go
set_option linter.unusedVariables false

section
variable {P : Program}
theorem Ty.array_inv {h : AH} {t e : TypeId} {n : Nat} {l : List AV} (hu : P.underlying t = some (.array n e)) (hx : Ty P h t l) : l.length = P.cellsOf t ∧ ∀ i, i < n → Ty P h e ((l.drop (i * P.cellsOf e)).take (P.cellsOf e)) := by
 cases hx with
 | array ht hc hf => rw [hu] at ht; cases ht; exact ⟨hc, hf⟩
 | struct ht hc hf => rw [hu] at ht; cases ht
 | bool b ht => rw [hu] at ht; cases ht
 | int n ht hw => rw [hu] at ht; cases ht
 | str s ht hs => rw [hu] at ht; cases ht
 | nilsl ht => rw [hu] at ht; cases ht
 | sl ht hg hl hc hcs => rw [hu] at ht; cases ht
theorem byC_of {cs : List AV} (h1 : ∀ c ∈ cs, ∃ n : Nat, c = .int .u8 (n : Int) ∧ n < 256) : cs = byC (cs.map natOf) ∧ ∀ b ∈ cs.map natOf, b < 256 := by
 refine ⟨?_, fun b hb => ?_⟩
 ·unfold byC
  rw [List.map_map]
  have : cs.map ((fun (b : Nat) => AV.int .u8 (b : Int)) ∘ natOf) = cs.map id := List.map_congr_left fun c hc => by
   obtain ⟨n, rfl, _⟩ := h1 c hc
   simp [natOf]
  rw [this, List.map_id]
 ·obtain ⟨c, hc, rfl⟩ := List.mem_map.1 hb
  obtain ⟨n, rfl, hn⟩ := h1 c hc
  simpa [natOf] using hn
theorem Ty.bytes {h : AH} {t e : TypeId} {n : Nat} {cs : List AV} (hu : P.underlying t = some (.array n e)) (he : P.underlying e = some (.int .u8)) (hc : P.cellsOf e = 1) (hn : P.cellsOf t = n) (hx : Ty P h t cs) : ∃ d, cs = byC d ∧ d.length = n ∧ ∀ b ∈ d, b < 256 := by
 obtain ⟨h1, h2⟩ := hx.array_inv hu
 rw [hn] at h1
 have h3 : ∀ c ∈ cs, ∃ n : Nat, c = .int .u8 (n : Int) ∧ n < 256 := by
  intro c hm
  obtain ⟨i, hi⟩ := List.mem_iff_getElem?.1 hm
  have hil := (List.getElem?_eq_some_iff.1 hi).1
  have h4 := h2 i (by omega)
  rw [hc, Nat.mul_one, List.drop_eq_getElem_cons hil] at h4
  obtain ⟨k, hk, q1, q2⟩ := h4.int_inv he
  have q1' : (0 : Int) ≤ k := q1
  have q2' : k ≤ 255 := q2
  simp only [List.take_succ_cons, List.take_zero, List.cons.injEq, and_true] at hk
  rw [List.getElem?_eq_getElem hil] at hi
  cases hi
  exact ⟨k.toNat, by rw [hk, Int.toNat_of_nonneg q1'], by omega⟩
 obtain ⟨h5, h6⟩ := byC_of h3
 exact ⟨cs.map natOf, h5, by rw [List.length_map, h1], h6⟩
theorem Ty.rows {h : AH} {t e u : TypeId} {n : Nat} {l : List AV} (hu : P.underlying t = some (.slice e)) (he : P.underlying e = some (.array n u)) (hb : P.underlying u = some (.int .u8)) (hc : P.cellsOf u = 1) (hn : P.cellsOf e = n) (hx : Ty P h t l) (hlt : ∀ id o, h.get id = some o → id < h.nx) :
  ∃ v D, l = [v] ∧ (∀ d ∈ D, d.length = n) ∧ ((v = .nilsl ∧ D = []) ∨ ∃ id cs, v = .sl id 0 D.length n none ∧ h.get id = some (.cells cs false false) ∧ id < h.nx ∧ cs.length = D.length * n ∧ ∀ (i : Nat) d, D[i]? = some d → (cs.drop (i * n)).take n = byC d) := by
 rcases hx.slice_inv hu with rfl | ⟨id, len, cs, rfl, hg, hl, hcs, hel⟩
 ·exact ⟨_, [], rfl, fun d hd => by simp at hd, .inl ⟨rfl, rfl⟩⟩
 ·rw [hn] at hcs hel ⊢
  have hrow : ∀ i, i < len → ∃ d, (cs.drop (i * n)).take n = byC d ∧ d.length = n := fun i hi => by
   obtain ⟨d, h1, h2, _⟩ := (hel i hi).bytes he hb hc hn
   exact ⟨d, h1, h2⟩
  refine ⟨_, (List.range len).map fun i => ((cs.drop (i * n)).take n).map natOf, rfl, fun d hd => ?_, .inr ⟨id, cs, by simp, hg, hlt _ _ hg, by simpa using hcs, fun i d hd => ?_⟩⟩
  ·obtain ⟨i, hi, rfl⟩ := List.mem_map.1 hd
   obtain ⟨d, h1, h2⟩ := hrow i (List.mem_range.1 hi)
   rw [h1, List.length_map, byC_length, h2]
  ·rw [List.getElem?_map] at hd
   cases hr : (List.range len)[i]? with
   | none => rw [hr] at hd; cases hd
   | some j =>
    rw [hr] at hd
    have hj : i < len ∧ j = i := by
     obtain ⟨h1, h2⟩ := List.getElem?_eq_some_iff.1 hr
     simp at h1 h2
     exact ⟨h1, h2.symm⟩
    obtain ⟨hj1, rfl⟩ := hj
    obtain ⟨d', h1, h2⟩ := hrow _ hj1
    have e : ((cs.drop (j * n)).take n).map natOf = d' := by
     rw [h1]
     unfold byC
     rw [List.map_map]
     have : d'.map (natOf ∘ fun (b : Nat) => AV.int .u8 (b : Int)) = d'.map (fun x => x) := List.map_congr_left fun c _ => by simp [natOf]
     rw [this, List.map_id']
    have hd2 : ((cs.drop (j * n)).take n).map natOf = d := Option.some.inj hd
    rw [← hd2, e, h1]
end
end Go.Abs
end

section
namespace Go.Abs
open Go
set_option linter.unusedVariables false

section
variable {P : Program}
abbrev Ent := List (List Nat × AV)
def enS (E : Ent) : List (AV × AV) := E.map fun e => (.str e.1, e.2)
def valS {α : Type} : List (List Nat × α) → List Nat → Option α
 | [], _ => none
 | e :: r, k => if e.1 = k then some e.2 else valS r k
def fndS {α : Type} : List (List Nat × α) → List Nat → Nat → Option (Nat × α)
 | [], _, _ => none
 | e :: r, k, i => if e.1 = k then some (i, e.2) else fndS r k (i + 1)
def updS {α : Type} : List (List Nat × α) → List Nat → α → List (List Nat × α)
 | [], k, v => [(k, v)]
 | e :: r, k, v => if e.1 = k then (k, v) :: r else e :: updS r k v
def delS {α : Type} : List (List Nat × α) → List Nat → List (List Nat × α)
 | [], _ => []
 | e :: r, k => if e.1 = k then r else e :: delS r k
def onceS {α : Type} : List (List Nat × α) → Prop
 | [] => True
 | e :: r => valS r e.1 = none ∧ onceS r
theorem valS_upd {α : Type} : ∀ (E : List (List Nat × α)) (k j : List Nat) (v : α), valS (updS E k v) j = if j = k then some v else valS E j
 | [], k, j, v => by
  unfold updS valS valS
  by_cases h : j = k
  ·simp [h]
  ·simp [h, Ne.symm h]
 | e :: r, k, j, v => by
  unfold updS
  by_cases h : e.1 = k
  ·rw [if_pos h]
   unfold valS
   by_cases hj : j = k
   ·simp [hj]
   ·have : ¬ k = j := fun hh => hj hh.symm
    have h2 : ¬ e.1 = j := fun hh => hj (hh.symm.trans h)
    rw [if_neg this, if_neg hj, if_neg h2]
  ·rw [if_neg h]
   unfold valS
   rw [valS_upd r k j v]
   by_cases hj : j = k
   ·subst hj; simp [h]
   ·rw [if_neg hj, if_neg hj]
theorem valS_del {α : Type} : ∀ (E : List (List Nat × α)), onceS E → ∀ (k j : List Nat), valS (delS E k) j = if j = k then none else valS E j
 | [], _, k, j => by
  unfold delS valS
  simp
 | e :: r, ho, k, j => by
  obtain ⟨h1, h2⟩ := ho
  unfold delS
  by_cases h : e.1 = k
  ·rw [if_pos h]
   by_cases hj : j = k
   ·rw [if_pos hj, hj, ← h, h1]
   ·rw [if_neg hj]
    have h3 : ¬ e.1 = j := fun hh => hj (hh.symm.trans h)
    conv => rhs; unfold valS
    rw [if_neg h3]
  ·rw [if_neg h]
   unfold valS
   rw [valS_del r h2 k j]
   by_cases hj : j = k
   ·subst hj; simp [h]
   ·rw [if_neg hj, if_neg hj]
theorem onceS_upd {α : Type} : ∀ (E : List (List Nat × α)) (k : List Nat) (v : α), onceS E → onceS (updS E k v)
 | [], k, v, _ => ⟨rfl, trivial⟩
 | e :: r, k, v, ⟨h1, h2⟩ => by
  unfold updS
  by_cases h : e.1 = k
  ·rw [if_pos h]
   exact ⟨by rw [← h]; exact h1, h2⟩
  ·rw [if_neg h]
   exact ⟨by rw [valS_upd, if_neg h]; exact h1, onceS_upd r k v h2⟩
theorem onceS_del {α : Type} : ∀ (E : List (List Nat × α)) (k : List Nat), onceS E → onceS (delS E k)
 | [], k, _ => trivial
 | e :: r, k, ⟨h1, h2⟩ => by
  unfold delS
  by_cases h : e.1 = k
  ·rw [if_pos h]; exact h2
  ·rw [if_neg h]
   refine ⟨?_, onceS_del r k h2⟩
   rw [valS_del r h2]
   split
   ·rfl
   ·exact h1
def mapS {α β : Type} (f : α → β) (E : List (List Nat × α)) : List (List Nat × β) := E.map fun e => (e.1, f e.2)
end
end Go.Abs
end

section
namespace Go.Abs
open Go
set_option linter.unusedVariables false

abbrev Pth := List Nat
structure Fil where
 b : List Nat
 s : List Nat
 st : Nat
inductive Nte where
 | mk (p : Pth) (i : Nat)
 | ren (a b : Pth)
 | rm (p : Pth)
abbrev Ixs := List (Pth × Nat)
def doN : Nte → Ixs → Ixs
 | .mk p i, E => updS E p i
 | .ren a b, E => match valS E a with
  | some i => delS (updS E b i) a
  | none => E
 | .rm p, E => delS E p
def doAll : List Nte → Ixs → Ixs
 | [], E => E
 | n :: r, E => doAll r (doN n E)
structure TT where
 room : Int
 now : Ixs
 safe : Ixs
 notes : List Nte
 clock : Nat
 off : Bool
 fuse : Int
 files : List Fil
def newT (room : Int) : TT := ⟨room, [], [], [], 0, false, -1, []⟩
def TT.fil (T : TT) (i : Nat) : Fil := (T.files[i]?).getD ⟨[], [], 0⟩
def lenE (fs : List Fil) : Ixs → Nat
 | [] => 0
 | e :: r => ((fs[e.2]?).getD ⟨[], [], 0⟩).b.length + lenE fs r
def TT.used (T : TT) : Nat := lenE T.files T.now
def opT (T : TT) (ok : Bool) : Nat × TT :=
 if ok = false then (2, T) else if T.off = true then (11, T) else if T.fuse = 0 then (11, { T with off := true, fuse := -1 }) else if 0 < T.fuse then (0, { T with fuse := T.fuse - 1 }) else (0, T)
def noteT (T : TT) (n : Nte) : TT := { T with now := doN n T.now, notes := T.notes ++ [n] }
def tickT (T : TT) : TT := { T with clock := T.clock + 1 }
def makeT (T : TT) (ok : Bool) (p : Pth) : Nat × TT :=
 let r := opT T ok
 if r.1 ≠ 0 then r else match valS r.2.now p with
  | some _ => (7, r.2)
  | none => (0, noteT { r.2 with clock := r.2.clock + 1, files := r.2.files ++ [⟨[], [], r.2.clock + 1⟩] } (.mk p r.2.files.length))
def putT (T : TT) (ok : Bool) (p : Pth) (g : List Nat → List Nat) : Nat × TT :=
 let r := opT T ok
 if r.1 ≠ 0 then r else match valS r.2.now p with
  | none => (6, r.2)
  | some i => if T.room < (r.2.used : Int) - (r.2.fil i).b.length + (g (r.2.fil i).b).length then (10, r.2)
   else (0, { r.2 with clock := r.2.clock + 1, files := r.2.files.set i ⟨g (r.2.fil i).b, (r.2.fil i).s, r.2.clock + 1⟩ })
def syncT (T : TT) (ok : Bool) (p : Pth) : Nat × TT :=
 let r := opT T ok
 if r.1 ≠ 0 then r else match valS r.2.now p with
  | none => (6, r.2)
  | some i => (0, { r.2 with files := r.2.files.set i ⟨(r.2.fil i).b, (r.2.fil i).b, (r.2.fil i).st⟩ })
def keepT (T : TT) (n : Nat) : TT := { T with safe := doAll (T.notes.take n) T.safe, notes := [] }
def syncPT (T : TT) : Nat × TT :=
 let r := opT T true
 if r.1 ≠ 0 then r else (0, keepT r.2 r.2.notes.length)
def renT (T : TT) (ok : Bool) (a b : Pth) : Nat × TT :=
 let r := opT T ok
 if r.1 ≠ 0 then r else match valS r.2.now a with
  | none => (6, r.2)
  | some _ => if a = b then (0, r.2) else (0, noteT (tickT r.2) (.ren a b))
def rmT (T : TT) (ok : Bool) (p : Pth) : Nat × TT :=
 let r := opT T ok
 if r.1 ≠ 0 then r else match valS r.2.now p with
  | none => (6, r.2)
  | some _ => (0, noteT (tickT r.2) (.rm p))
def readT (T : TT) (ok : Bool) (p : Pth) : List Nat × Nat × TT :=
 let r := opT T ok
 if r.1 ≠ 0 then ([], r) else match valS r.2.now p with
  | none => ([], 6, r.2)
  | some i => ((r.2.fil i).b, 0, r.2)
def statT (T : TT) (p : Pth) : Nat × Nat × Bool := match valS T.now p with
 | none => (0, 0, false)
 | some i => ((T.fil i).b.length, (T.fil i).st, true)
def leftF (f : Fil) (part : Int) : List Nat :=
 if f.b.take f.s.length = f.s then f.b.take (f.s.length + (max 0 part).toNat % (f.b.length - f.s.length + 1)) else f.s
def hd0 : List Int → Int
 | [] => 0
 | a :: _ => a
def crash1 (was : Ixs) (T : TT) (s : Pth) (part : Int) : TT := match valS T.safe s with
 | none => T
 | some i =>
  let b := leftF (T.fil i) part
  if valS was s = some i ∧ b = (T.fil i).b then { T with now := updS T.now s T.files.length, files := T.files ++ [⟨b, b, (T.fil i).st⟩] }
  else { T with clock := T.clock + 1, now := updS T.now s T.files.length, files := T.files ++ [⟨b, b, T.clock + 1⟩] }
def crashL (was : Ixs) : TT → List Pth → List Int → TT
 | T, [], _ => T
 | T, s :: r, ps => crashL was (crash1 was T s (hd0 ps)) r ps.tail
def crashT (T : TT) (keep : Int) (parts : List Int) : TT :=
 let T1 := keepT T ((max 0 keep).toNat % (T.notes.length + 1))
 let T2 := crashL T.now { T1 with clock := T1.clock + 1, now := [] } (sortS (T1.safe.map (·.1))) parts
 {T2 with safe := T2.now, off := false, fuse := -1 }

/-! ### What is right of every tree -/
def NteOK (n : Nat) : Nte → Prop
 | .mk p i => i < n ∧ p.length ≤ 69
 | .ren a b => b.length ≤ 69
 | .rm _ => True
def IxOK (n : Nat) (E : Ixs) : Prop := onceS E ∧ ∀ k i, valS E k = some i → i < n ∧ k.length ≤ 69
def FilOK (f : Fil) : Prop := (∀ b ∈ f.b, b < 256) ∧ (∀ b ∈ f.s, b < 256) ∧ f.b.length ≤ 67108864 ∧ f.s.length ≤ 67108864
theorem FilOK.zero (n : Nat) : FilOK ⟨[], [], n⟩ := ⟨fun b hb => by simp at hb, fun b hb => by simp at hb, Nat.zero_le _, Nat.zero_le _⟩
structure Wf (T : TT) : Prop where
 now : IxOK T.files.length T.now
 safe : IxOK T.files.length T.safe
 notes : ∀ n ∈ T.notes, NteOK T.files.length n
 fuse : -1 ≤ T.fuse ∧ T.fuse ≤ 9223372036854775807
 room : 0 ≤ T.room ∧ T.room ≤ 67108864
 byt : ∀ f ∈ T.files, FilOK f
theorem IxOK.mono {n m : Nat} {E : Ixs} (h : IxOK n E) (hm : n ≤ m) : IxOK m E := ⟨h.1, fun k i hk => ⟨Nat.lt_of_lt_of_le (h.2 k i hk).1 hm, (h.2 k i hk).2⟩⟩
theorem NteOK.mono {n m : Nat} : ∀ {t : Nte}, NteOK n t → n ≤ m → NteOK m t
 | .mk _ _, h, hm => ⟨Nat.lt_of_lt_of_le h.1 hm, h.2⟩
 | .ren _ _, h, _ => h
 | .rm _, _, _ => trivial
theorem IxOK.upd {n : Nat} {E : Ixs} (h : IxOK n E) (p : Pth) {i : Nat} (hi : i < n) (hp : p.length ≤ 69) : IxOK n (updS E p i) := by
 refine ⟨onceS_upd _ _ _ h.1, fun k j hk => ?_⟩
 rw [valS_upd] at hk
 split at hk
 ·rename_i hh
  cases hk; exact ⟨hi, by rw [hh]; exact hp⟩
 ·exact h.2 k j hk
theorem IxOK.del {n : Nat} {E : Ixs} (h : IxOK n E) (p : Pth) : IxOK n (delS E p) := by
 refine ⟨onceS_del _ _ h.1, fun k j hk => ?_⟩
 rw [valS_del _ h.1] at hk
 split at hk
 ·cases hk
 ·exact h.2 k j hk
theorem IxOK.nil (n : Nat) : IxOK n [] := ⟨trivial, fun k i h => by cases h⟩
theorem IxOK.doN {n : Nat} {E : Ixs} (h : IxOK n E) : ∀ {t : Nte}, NteOK n t → IxOK n (doN t E)
 | .mk p i, ht => h.upd p ht.1 ht.2
 | .ren a b, ht => by
  show IxOK n (match valS E a with | some i => delS (updS E b i) a | none => E)
  cases hv : valS E a with
  | none => exact h
  | some i => exact (h.upd b (h.2 a i hv).1 ht).del a
 | .rm p, _ => h.del p
theorem IxOK.doAll {n : Nat} : ∀ {l : List Nte} {E : Ixs}, IxOK n E → (∀ t ∈ l, NteOK n t) → IxOK n (doAll l E)
 | [], _, h, _ => h
 | t :: r, E, h, hl => IxOK.doAll (l := r) (h.doN (hl t (List.mem_cons_self ..))) fun x hx => hl x (List.mem_cons_of_mem _ hx)
theorem Wf.new {room : Int} (h : 0 ≤ room ∧ room ≤ 67108864) : Wf (newT room) :=
 ⟨IxOK.nil _, IxOK.nil _, fun n hn => by simp [newT] at hn, ⟨Int.le_refl _, show (-1 : Int) ≤ 9223372036854775807 by decide⟩, h, fun f hf => by simp [newT] at hf⟩
theorem opT_eq (T : TT) (ok : Bool) : (opT T ok).2.room = T.room ∧ (opT T ok).2.now = T.now ∧ (opT T ok).2.safe = T.safe ∧ (opT T ok).2.notes = T.notes ∧ (opT T ok).2.clock = T.clock ∧ (opT T ok).2.files = T.files := by
 unfold opT
 repeat' split
 all_goals exact ⟨rfl, rfl, rfl, rfl, rfl, rfl⟩
theorem Wf.op {T : TT} (h : Wf T) (ok : Bool) : Wf (opT T ok).2 := by
 obtain ⟨h1, h2, h3, h4, h5, h6⟩ := h
 unfold opT
 repeat' split
 all_goals first
  | exact ⟨h1, h2, h3, h4, h5, h6⟩
  | exact ⟨h1, h2, h3, ⟨by decide, by decide⟩, h5, h6⟩
  | (refine ⟨h1, h2, h3, ⟨?_, ?_⟩, h5, h6⟩ <;> simp only <;> omega)
theorem Wf.tick {T : TT} (h : Wf T) : Wf (tickT T) := ⟨h.1, h.2, h.3, h.4, h.5, h.6⟩
theorem Wf.note {T : TT} (h : Wf T) {n : Nte} (hn : NteOK T.files.length n) : Wf (noteT T n) := by
 refine ⟨h.1.doN hn, h.2, fun t ht => ?_, h.4, h.5, h.6⟩
 rcases List.mem_append.1 ht with h1 | h1
 ·exact h.3 t h1
 ·rw [List.mem_singleton.1 h1]; exact hn
theorem Wf.grow {T : TT} (h : Wf T) (f : Fil) (hf : FilOK f) (c : Nat) : Wf { T with clock := c, files := T.files ++ [f] } := by
 have hle : T.files.length ≤ (T.files ++ [f]).length := by simp
 refine ⟨h.1.mono hle, h.2.mono hle, fun t ht => (h.3 t ht).mono hle, h.4, h.5, fun x hx => ?_⟩
 rcases List.mem_append.1 hx with h1 | h1
 ·exact h.6 x h1
 ·rw [List.mem_singleton.1 h1]; exact hf
theorem opT_ok {T : TT} {ok : Bool} (h : ¬ (opT T ok).1 ≠ 0) : ok = true := by
 cases ok
 ·exact absurd (show (opT T false).1 ≠ 0 by simp [opT]) h
 ·rfl
theorem Wf.make {T : TT} (h : Wf T) (ok : Bool) (p : Pth) (hp : ok = true → p.length ≤ 69) : Wf (makeT T ok p).2 := by
 unfold makeT
 dsimp only
 split
 ·exact h.op ok
 ·rename_i hh
  split
  ·exact h.op ok
  ·refine Wf.note (Wf.grow (h.op ok) _ (FilOK.zero _) _) ⟨?_, hp (opT_ok hh)⟩
   show (opT T ok).2.files.length < ((opT T ok).2.files ++ [_]).length
   simp
theorem fil_ok {T : TT} (h : Wf T) (i : Nat) : FilOK (T.fil i) := by
 unfold TT.fil
 cases hf : T.files[i]? with
 | none => exact FilOK.zero _
 | some f => exact h.6 f (List.mem_iff_getElem?.2 ⟨i, hf⟩)
theorem Wf.set {T : TT} (h : Wf T) (i : Nat) {f : Fil} (hf : FilOK f) (c : Nat) : Wf { T with clock := c, files := T.files.set i f } := by
 have e : (T.files.set i f).length = T.files.length := by simp
 refine ⟨by rw [e]; exact h.1, by rw [e]; exact h.2, by rw [e]; exact h.3, h.4, h.5, fun x hx => ?_⟩
 rcases List.mem_or_eq_of_mem_set hx with h1 | rfl
 ·exact h.6 x h1
 ·exact hf
theorem lenE_ge {fs : List Fil} : ∀ {E : Ixs} {p : Pth} {i : Nat}, valS E p = some i → ((fs[i]?).getD ⟨[], [], 0⟩).b.length ≤ lenE fs E
 | e :: r, p, i, h => by
  unfold valS at h
  unfold lenE
  by_cases hk : e.1 = p
  ·rw [if_pos hk] at h
   cases h
   omega
  ·rw [if_neg hk] at h
   have := lenE_ge (fs := fs) h
   omega
theorem Wf.put {T : TT} (h : Wf T) (ok : Bool) (p : Pth) {g : List Nat → List Nat} (hg : ∀ l, (∀ b ∈ l, b < 256) → ∀ b ∈ g l, b < 256) : Wf (putT T ok p g).2 := by
 have hw := h.op ok
 have hr := (opT_eq T ok).1
 unfold putT
 dsimp only
 split
 ·exact hw
 ·split
  ·exact hw
  ·rename_i i hv
   split
   ·exact hw
   ·rename_i hu
    have hge : ((opT T ok).2.fil i).b.length ≤ (opT T ok).2.used := lenE_ge hv
    have hl := h.room
    obtain ⟨q1, q2, q3, q4⟩ := fil_ok hw i
    refine Wf.set hw _ ?_ _
    refine ⟨hg _ q1, q2, ?_, q4⟩
    show (g ((opT T ok).2.fil i).b).length ≤ 67108864
    omega
theorem Wf.sync {T : TT} (h : Wf T) (ok : Bool) (p : Pth) : Wf (syncT T ok p).2 := by
 unfold syncT
 dsimp only
 split
 ·exact h.op ok
 ·split
  ·exact h.op ok
  ·rename_i i hv
   obtain ⟨q1, q2, q3, q4⟩ := fil_ok (h.op ok) i
   refine Wf.set (h.op ok) _ ?_ _
   exact ⟨q1, q1, q3, q3⟩
theorem Wf.keep {T : TT} (h : Wf T) (n : Nat) : Wf (keepT T n) :=
 ⟨h.1, h.2.doAll fun t ht => h.3 t (List.mem_of_mem_take ht), fun t ht => by simp [keepT] at ht, h.4, h.5, h.6⟩
theorem Wf.syncP {T : TT} (h : Wf T) : Wf (syncPT T).2 := by
 unfold syncPT
 dsimp only
 split
 ·exact h.op true
 ·exact (h.op true).keep _
theorem Wf.ren {T : TT} (h : Wf T) (ok : Bool) (a b : Pth) (hb : ok = true → b.length ≤ 69) : Wf (renT T ok a b).2 := by
 unfold renT
 dsimp only
 split
 ·exact h.op ok
 ·rename_i hh
  split
  ·exact h.op ok
  ·split
   ·exact h.op ok
   ·exact Wf.note (h.op ok).tick (hb (opT_ok hh))
theorem Wf.rm {T : TT} (h : Wf T) (ok : Bool) (p : Pth) : Wf (rmT T ok p).2 := by
 unfold rmT
 dsimp only
 split
 ·exact h.op ok
 ·split
  ·exact h.op ok
  ·exact Wf.note (h.op ok).tick trivial
theorem Wf.read {T : TT} (h : Wf T) (ok : Bool) (p : Pth) : Wf (readT T ok p).2.2 := by
 unfold readT
 dsimp only
 split
 ·exact h.op ok
 ·split <;> exact h.op ok
theorem leftF_ok {f : Fil} (h : FilOK f) (part : Int) (n : Nat) : FilOK ⟨leftF f part, leftF f part, n⟩ := by
 have key : (∀ b ∈ leftF f part, b < 256) ∧ (leftF f part).length ≤ 67108864 := by
  unfold leftF
  split
  ·refine ⟨fun b hb => h.1 b (List.mem_of_mem_take hb), ?_⟩
   have := h.2.2.1
   rw [List.length_take]
   omega
  ·exact ⟨h.2.1, h.2.2.2⟩
 exact ⟨key.1, key.1, key.2, key.2⟩
theorem Wf.crash1 {was : Ixs} {T : TT} (h : Wf T) (s : Pth) (part : Int) : Wf (crash1 was T s part) := by
 unfold Abs.crash1
 split
 ·exact h
 ·rename_i i hi
  have hs := (h.2.2 s i hi).2
  dsimp only
  split
  ·have h2 := Wf.grow h _ (leftF_ok (fil_ok h i) part (T.fil i).st) T.clock
   exact ⟨h2.1.upd _ (by simp) hs, h2.2, h2.3, h2.4, h2.5, h2.6⟩
  ·have h2 := Wf.grow h _ (leftF_ok (fil_ok h i) part (T.clock + 1)) (T.clock + 1)
   exact ⟨h2.1.upd _ (by simp) hs, h2.2, h2.3, h2.4, h2.5, h2.6⟩
theorem Wf.crashL {was : Ixs} : ∀ {l : List Pth} {T : TT} {ps : List Int}, Wf T → Wf (crashL was T l ps)
 | [], _, _, h => h
 | s :: r, T, ps, h => Wf.crashL (l := r) (h.crash1 s (hd0 ps))
end Go.Abs
end

section
namespace Go.Abs
open Go
set_option linter.unusedVariables false
set_option linter.unusedSimpArgs false

section
variable {P : Program}
def Cs (h : AH) (v : AV) (l : List AV) : Prop :=
 (v = .nilsl ∧ l = []) ∨ ∃ id off c cs o t, v = .sl id off l.length 1 c ∧ h.get id = some (.cells cs o t) ∧ id < h.nx ∧ off + l.length ≤ cs.length ∧ (∀ k, c = some k → l.length ≤ k) ∧ (cs.drop off).take l.length = l
theorem Cs.fr {h h' : AH} {v : AV} {l : List AV} (hb : Cs h v l) (hf : Fr h h') : Cs h' v l := by
 rcases hb with h1 | ⟨id, off, c, cs, o, t, h1, h2, h3, h4, h5, h6⟩
 ·exact .inl h1
 ·exact .inr ⟨id, off, c, cs, o, t, h1, (hf.get id h3).trans h2, Nat.lt_of_lt_of_le h3 hf.nx, h4, h5, h6⟩
theorem cs_get {cs : List AV} {off : Nat} {l : List AV} (hx : (cs.drop off).take l.length = l) {i : Nat} {b : AV} (hi : l[i]? = some b) : cs[off + i]? = some b := by
 have hil : i < l.length := (List.getElem?_eq_some_iff.1 hi).1
 rw [← hx, List.getElem?_take_of_lt hil, List.getElem?_drop] at hi
 exact hi
theorem Cs.first {h : AH} {v : AV} {l : List AV} (hb : Cs h v l) : lenA v = some l.length ∧ firstA h 1 l.length v = some l := by
 rcases hb with ⟨rfl, rfl⟩ | ⟨id, off, c, cs, o, t, rfl, h2, h3, h4, h5, h6⟩
 ·exact ⟨rfl, rfl⟩
 ·refine ⟨rfl, ?_⟩
  rw [firstA_sl h2 (Nat.le_refl _) (by omega), Nat.mul_one, h6]
theorem Cs.one {h : AH} {v : AV} {l : List AV} (hb : Cs h v l) : oneA v = true ∧ sameAV 20 v v = true := by
 rcases hb with ⟨rfl, rfl⟩ | ⟨id, off, c, cs, o, t, rfl, _⟩
 ·exact ⟨rfl, rfl⟩
 ·exact ⟨rfl, by simp [sameAV]⟩
theorem Cs.len {h : AH} {v : AV} {l : List AV} {t e : TypeId} (hb : Cs h v l) (ht : P.underlying t = some (.slice e)) (g : AH) : evLen P g #[t] v = some (.int .i64 (l.length : Nat)) := by
 rcases hb with ⟨rfl, rfl⟩ | ⟨id, off, c, cs, o, tx, rfl, _⟩
 ·simp [evLen, ht]
 ·simp [evLen, ht]
theorem Cs.slice_to {h : AH} {v : AV} {l : List AV} {t e : TypeId} {hi : Nat} (hb : Cs h v l) (ht : P.underlying t = some (.slice e)) (he : tsize P e = some 1) (hhi : hi ≤ l.length) :
  ∃ v', (∀ h1, evSlice P h1 t v none (some (.int .i64 (hi : Nat))) none = some v') ∧ Cs h v' (l.take hi) ∧ (∀ id off n z c, v' = .sl id off n z c → ∃ off n z c, v = .sl id off n z c) := by
 rcases hb with ⟨rfl, rfl⟩ | ⟨id, off, c, cs, o, tx, rfl, h2, h3, h4, h5, h6⟩
 ·obtain rfl : hi = 0 := by simpa using hhi
  refine ⟨.nilsl, fun h1 => ?_, .inl ⟨rfl, rfl⟩, fun _ _ _ _ _ hh => by cases hh⟩
  simp [evSlice, ht, he, boundsA, boundA, upTo]
 ·have hlen : (l.take hi).length = hi := by simp; omega
  refine ⟨.sl id off hi 1 c, fun h1 => ?_, .inr ⟨id, off, c, cs, o, tx, ?_, h2, h3, ?_, ?_, ?_⟩, fun _ _ _ _ _ hh => by cases hh; exact ⟨_, _, _, _, rfl⟩⟩
  ·have hu : upTo ((hi : Nat) : Int) l.length = some hi := by rw [upTo_of (by omega) (by omega)]; simp
   cases c with
   | none => simp [evSlice, ht, he, boundsA, boundA, hu]
   | some k =>
    have hk := h5 k rfl
    have hu2 : upTo ((hi : Nat) : Int) k = some hi := by rw [upTo_of (by omega) (by omega)]; simp
    simp [evSlice, ht, he, boundsA, boundA, hu, hu2]
  ·rw [hlen]
  ·rw [hlen]; omega
  ·intro k hk
   rw [hlen]
   have := h5 k hk
   omega
  ·rw [hlen]
   have := congrArg (List.take hi) h6
   rw [List.take_take, Nat.min_eq_left hhi] at this
   exact this
def Co (n0 : Nat) (h : AH) (v : AV) (l : List AV) : Prop :=
 ∃ id c cs tx, v = .sl id 0 l.length 1 c ∧ h.get id = some (.cells cs true tx) ∧ id < h.nx ∧ n0 ≤ id ∧ cs.take l.length = l ∧ l.length ≤ cs.length ∧ (c = none ∨ c = some l.length)
theorem Co.cs {n0 : Nat} {h : AH} {v : AV} {l : List AV} (hb : Co n0 h v l) : Cs h v l := by
 obtain ⟨id, c, cs, tx, h1, h2, h3, h4, h5, h6, h7⟩ := hb
 refine .inr ⟨id, 0, c, cs, true, tx, h1, h2, h3, by omega, fun k hk => ?_, by rw [List.drop_zero]; exact h5⟩
 rcases h7 with rfl | rfl
 ·cases hk
 ·cases hk; exact Nat.le_refl _
theorem Co.fr {n0 : Nat} {h h' : AH} {v : AV} {l : List AV} (hb : Co n0 h v l) (hf : Fr h h') : Co n0 h' v l := by
 obtain ⟨id, c, cs, tx, h1, h2, h3, h4, h5⟩ := hb
 exact ⟨id, c, cs, tx, h1, (hf.get id h3).trans h2, Nat.lt_of_lt_of_le h3 hf.nx, h4, h5⟩
theorem Co.low {n0 n1 : Nat} {h : AH} {v : AV} {l : List AV} (hb : Co n0 h v l) (hn : n1 ≤ n0) : Co n1 h v l := by
 obtain ⟨id, c, cs, tx, h1, h2, h3, h4, h5⟩ := hb
 exact ⟨id, c, cs, tx, h1, h2, h3, Nat.le_trans hn h4, h5⟩
theorem Co.app {h0 h : AH} {v x : AV} {l m : List AV} {st xt e : TypeId} {d : TypeDesc} {bt : Nat} (hu : P.underlying st = some (.slice e)) (hd : P.underlying xt = some d) (hni : notInt d = true) (hi : appI P e = some (1, bt)) (hbt : bt ≤ 64) (hb : Co h0.nx h v l) (hn : lenA x = some m.length) (hnew : firstA h 1 m.length x = some m) (hall : m.all oneA = true) (hf : Fr h0 h) (hl : l.length + m.length ≤ 1073741824) :
  ∃ v' h', evAppend P h #[st, xt] v x = some (.val v' h') ∧ Fr h0 h' ∧ Co h0.nx h' v' (l ++ m) ∧ oneA v' = true := by
 obtain ⟨id, c, cs, tx, rfl, h2, h3, h4, h5, h6, h7⟩ := hb
 have hold : firstA h 1 l.length (.sl id 0 l.length 1 c) = some l := by
  rw [firstA_sl h2 (Nat.le_refl _) (by omega), List.drop_zero, Nat.mul_one, h5]
 have hm : (2 * (l.length + m.length) + 1000) * bt ≤ (2 * (l.length + m.length) + 1000) * 64 := Nat.mul_le_mul_left _ hbt
 rw [evAppend_eq hu hd hni hi hn hnew rfl hold hall (Nat.le_trans hm (by omega)) (by omega) rfl]
 by_cases hm : m.length = 0
 ·rw [if_pos hm]
  have : m = [] := List.length_eq_zero_iff.1 hm
  subst this
  exact ⟨_, _, rfl, hf, ⟨id, c, cs, tx, by simp, h2, h3, h4, by simpa using h5, by simpa using h6, by simpa using h7⟩, rfl⟩
 ·rw [if_neg hm]
  have hlm : (l ++ m).length = l.length + m.length := by simp
  have fin : ∀ (g : AH) (tf : Bool), Fr h0 g → g.nx = h.nx → ∃ v' h', newCells g (l ++ m) tf (fun id => .sl id 0 (l.length + m.length) 1 none) = some (.val v' h') ∧ Fr h0 h' ∧ Co h0.nx h' v' (l ++ m) ∧ oneA v' = true := fun g tf hg hgn =>
   ⟨_, _, rfl, hg.news _, ⟨g.nx, none, l ++ m, tf, by rw [hlm], AH.get_new_eq rfl, Nat.lt_succ_self _, hg.nx, List.take_length, Nat.le_refl _, .inl rfl⟩, rfl⟩
  rcases h7 with rfl | rfl
  ·simp only
   rw [if_pos (by simp [ownBlock, h2])]
   exact fin _ _ (hf.del h4) rfl
  ·simp only
   rw [if_pos (by omega)]
   exact fin _ _ hf rfl
theorem Ss.cs {n0 : Nat} {h : AH} {v : AV} {l : List (List Nat)} (hb : Ss n0 h v l) : Cs h v (l.map AV.str) := by
 rcases hb with ⟨rfl, rfl⟩ | ⟨id, rfl, h2, h3, h4⟩
 ·exact .inl ⟨rfl, rfl⟩
 ·exact .inr ⟨id, 0, none, l.map AV.str, true, false, by simp, h2, h3, by simp, fun k hk => (by cases hk), by rw [List.drop_zero, List.take_length]⟩
def Tx (K : Nat → Nat) (h : AH) (v : AV) (l : List (List Nat)) : Prop := Cs h v (l.map AV.str) ∧ ∀ id off n z c, v = .sl id off n z c → K id = 0
theorem Tx.fr {K : Nat → Nat} {h h' : AH} {v : AV} {l : List (List Nat)} (hb : Tx K h v l) (hf : Fr h h') : Tx K h' v l := ⟨hb.1.fr hf, hb.2⟩
theorem Tx.len {K : Nat → Nat} {h : AH} {v : AV} {l : List (List Nat)} {t e : TypeId} (hb : Tx K h v l) (ht : P.underlying t = some (.slice e)) (g : AH) : evLen P g #[t] v = some (.int .i64 (l.length : Nat)) := by
 have := hb.1.len ht g
 rwa [List.length_map] at this
theorem Tx.get {K : Nat → Nat} {h : AH} {v : AV} {l : List (List Nat)} (hb : Tx K h v l) {i : Nat} {s : List Nat} (hi : l[i]? = some s) : ∃ id off c cs o t, v = .sl id off l.length 1 c ∧ h.get id = some (.cells cs o t) ∧ id < h.nx ∧ cs[off + i]? = some (.str s) := by
 have hil : i < l.length := (List.getElem?_eq_some_iff.1 hi).1
 rcases hb.1 with ⟨_, h1⟩ | ⟨id, off, c, cs, o, t, h1, h2, h3, h4, h5, h6⟩
 ·have : l = [] := List.map_eq_nil_iff.1 h1
  rw [this] at hil; simp at hil
 ·rw [List.length_map] at h1
  exact ⟨id, off, c, cs, o, t, h1, h2, h3, cs_get h6 (by simp [hi])⟩
theorem Tx.of {K : Nat → Nat} {n0 : Nat} {h : AH} {v : AV} {l : List (List Nat)} (hb : Ss n0 h v l) (top : ∀ j, n0 ≤ j → K j = 0) : Tx K h v l := by
 refine ⟨hb.cs, fun id off n z c hh => ?_⟩
 rcases hb with ⟨h1, _⟩ | ⟨id', h1, h2, h3, h4⟩
 ·rw [h1] at hh; cases hh
 ·rw [h1] at hh
  cases hh
  exact top _ h4
theorem Tx.own {K : Nat → Nat} {n0 : Nat} {h : AH} {v : AV} {l : List (List Nat)} (hb : Co n0 h v (l.map AV.str)) (top : ∀ j, n0 ≤ j → K j = 0) : Tx K h v l := by
 refine ⟨hb.cs, fun id off n z c hh => ?_⟩
 obtain ⟨id', c', cs, tx, h1, h2, h3, h4, h5⟩ := hb
 rw [h1] at hh
 cases hh
 exact top _ h4
theorem Tx.take {K : Nat → Nat} {h : AH} {v : AV} {l : List (List Nat)} {t e : TypeId} {hi : Nat} (hb : Tx K h v l) (ht : P.underlying t = some (.slice e)) (he : tsize P e = some 1) (hhi : hi ≤ l.length) :
  ∃ v', (∀ h1, evSlice P h1 t v none (some (.int .i64 (hi : Nat))) none = some v') ∧ Tx K h v' (l.take hi) := by
 obtain ⟨v', h1, h2, h3⟩ := hb.1.slice_to ht he (by rw [List.length_map]; exact hhi)
 refine ⟨v', h1, by rw [List.map_take]; exact h2, fun id off n z c hh => ?_⟩
 obtain ⟨_, _, _, _, e⟩ := h3 id off n z c hh
 exact hb.2 _ _ _ _ _ e
end
end Go.Abs
end

section
namespace Go.Abs
open Go
set_option linter.unusedVariables false
set_option linter.unusedSimpArgs false

namespace Wal
def stepsT : List (TT → Nat × TT) → TT → Nat × TT
 | [], T => (0, T)
 | f :: r, T => if (f T).1 ≠ 0 then f T else stepsT r (f T).2
def remT (q : Pth) (T : TT) : Nat × TT := if (statT T q).2.2 = true then rmT T true q else (0, T)
def nf (φ : Int) : Int := if 0 < φ then φ - 1 else φ
section
variable {R : Int} {N Sf : Ixs} {nt : List Nte} {c : Nat} {φ : Int} {fs : List Fil} {p q : Pth}
theorem opS (h : φ ≠ 0) : opT ⟨R, N, Sf, nt, c, false, φ, fs⟩ true = (0, ⟨R, N, Sf, nt, c, false, nf φ, fs⟩) := by
 by_cases h2 : 0 < φ
 ·simp [opT, nf, h, h2]
 ·simp [opT, nf, h, h2]
theorem putS (h : φ ≠ 0) {i : Nat} {f : Fil} (hv : valS N q = some i) (hf : fs[i]? = some f) {g : List Nat → List Nat} (hg : ((lenE fs N : Nat) : Int) - f.b.length + (g f.b).length ≤ R) :
  putT ⟨R, N, Sf, nt, c, false, φ, fs⟩ true q g = (0, ⟨R, N, Sf, nt, c + 1, false, nf φ, fs.set i ⟨g f.b, f.s, c + 1⟩⟩) := by
 have : ¬ R < ((lenE fs N : Nat) : Int) - f.b.length + (g f.b).length := by omega
 simp [putT, opS h, hv, TT.used, TT.fil, hf, this]
end
theorem updS_len {α : Type} : ∀ (E : List (List Nat × α)) (k : List Nat) (v : α), (updS E k v).length ≤ E.length + 1
 | [], _, _ => Nat.le_refl _
 | e :: r, k, v => by
  unfold updS
  split
  ·simp
  ·have := updS_len r k v
   simp; omega
theorem delS_len {α : Type} : ∀ (E : List (List Nat × α)) (k : List Nat), (delS E k).length ≤ E.length
 | [], _ => Nat.le_refl _
 | e :: r, k => by
  unfold delS
  split
  ·simp
  ·have := delS_len r k
   simp; omega
theorem doN_len (t : Nte) (E : Ixs) : (doN t E).length ≤ E.length + 1 := by
 cases t with
 | mk p i => exact updS_len _ _ _
 | ren a b =>
  show (match valS E a with | some i => delS (updS E b i) a | none => E).length ≤ _
  cases valS E a with
  | none => exact Nat.le_succ _
  | some i => exact Nat.le_trans (delS_len _ _) (updS_len _ _ _)
 | rm p => exact Nat.le_succ_of_le (delS_len _ _)
theorem doAll_len : ∀ (l : List Nte) (E : Ixs), (doAll l E).length ≤ E.length + l.length
 | [], E => Nat.le_refl _
 | t :: r, E => by
  have h1 := doAll_len r (doN t E)
  have h2 := doN_len t E
  show (doAll r (doN t E)).length ≤ E.length + (r.length + 1)
  omega
structure Bm (n c : Nat) (T : TT) : Prop where
 now : T.now.length ≤ n
 sn : T.safe.length + T.notes.length ≤ n
 clock : T.clock ≤ c
section
variable {n c : Nat} {T : TT}
theorem Bm.mono (h : Bm n c T) {m d : Nat} (h1 : n ≤ m) (h2 : c ≤ d) : Bm m d T := ⟨Nat.le_trans h.now h1, Nat.le_trans h.sn h1, Nat.le_trans h.clock h2⟩
theorem Bm.op (h : Bm n c T) (b : Bool) : Bm n c (opT T b).2 := by
 obtain ⟨e1, e2, e3, e4, e5, e6⟩ := opT_eq T b
 exact ⟨by rw [e2]; exact h.now, by rw [e3, e4]; exact h.sn, by rw [e5]; exact h.clock⟩
theorem Bm.note (h : Bm n c T) (t : Nte) : Bm (n + 1) c (noteT T t) := by
 have h1 := doN_len t T.now
 have := h.now; have := h.sn
 exact ⟨by show (doN t T.now).length ≤ n + 1; omega, by show T.safe.length + (T.notes ++ [t]).length ≤ n + 1; simp; omega, h.clock⟩
theorem Bm.make (h : Bm n c T) (b : Bool) (p : Pth) : Bm (n + 1) (c + 1) (makeT T b p).2 := by
 unfold makeT
 dsimp only
 split
 ·exact (h.op _).mono (Nat.le_succ _) (Nat.le_succ _)
 ·split
  ·exact (h.op _).mono (Nat.le_succ _) (Nat.le_succ _)
  ·have h1 := h.op b
   refine Bm.note ?_ _
   exact ⟨h1.now, h1.sn, Nat.succ_le_succ h1.clock⟩
theorem Bm.put (h : Bm n c T) (b : Bool) (p : Pth) (g : List Nat → List Nat) : Bm n (c + 1) (putT T b p g).2 := by
 have h1 := h.op b
 have h2 := h1.mono (Nat.le_refl n) (Nat.le_succ c)
 unfold putT
 dsimp only
 split
 ·exact h2
 ·split
  ·exact h2
  ·split
   ·exact h2
   ·exact ⟨h1.now, h1.sn, Nat.succ_le_succ h1.clock⟩
theorem Bm.sync (h : Bm n c T) (b : Bool) (p : Pth) : Bm n c (syncT T b p).2 := by
 have h1 := h.op b
 unfold syncT
 dsimp only
 split
 ·exact h1
 ·split
  ·exact h1
  ·exact ⟨h1.now, h1.sn, h1.clock⟩
theorem keepT_len (h : Bm n c T) (k : Nat) : (keepT T k).safe.length ≤ n := by
 have h1 := doAll_len (T.notes.take k) T.safe
 have h2 := h.sn
 rw [List.length_take] at h1
 show (doAll (T.notes.take k) T.safe).length ≤ n
 omega
theorem Bm.syncP (h : Bm n c T) : Bm n c (syncPT T).2 := by
 have h1 := h.op true
 unfold syncPT
 dsimp only
 split
 ·exact h1
 ·have h2 := keepT_len h1 (opT T true).2.notes.length
  exact ⟨h1.now, by show (keepT (opT T true).2 (opT T true).2.notes.length).safe.length + 0 ≤ n; omega, h1.clock⟩
theorem Bm.rm (h : Bm n c T) (b : Bool) (p : Pth) : Bm (n + 1) (c + 1) (rmT T b p).2 := by
 have h1 := h.op b
 have h2 := h1.mono (Nat.le_succ n) (Nat.le_succ c)
 unfold rmT
 dsimp only
 split
 ·exact h2
 ·split
  ·exact h2
  ·refine Bm.note ?_ _
   exact ⟨h1.now, h1.sn, Nat.succ_le_succ h1.clock⟩
theorem Bm.new (R : Int) : Bm 0 0 (newT R) := ⟨Nat.le_refl _, Nat.le_refl _, Nat.le_refl _⟩
theorem Bm.rem (h : Bm n c T) (q : Pth) : Bm (n + 1) (c + 1) (remT q T).2 := by
 unfold remT
 split
 ·exact h.rm _ _
 ·exact h.mono (Nat.le_succ _) (Nat.le_succ _)
end
end Wal
end Go.Abs
end
