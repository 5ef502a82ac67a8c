/- The abstract layer, parts 33 to 48. Conditions: none. -/
import Derived.Test.YthkdhdcbhpknnaaGreatDoorAb5
import Derived.Carry
import Derived.ChangeOld
import Derived.WideShapes
set_option linter.unusedVariables false
set_option linter.unusedSimpArgs false

section
namespace Go.Abs
open Go
set_option linter.unusedVariables false

section
variable {P : Program} {S : Sums}

def keptAll (w : World) : Kp := { os := w.os, tape := w.tape, output := w.output, size := w.heap.size, at_ := fun b => w.heap[b]?, ro := fun b => decide (b < w.heap.size), roAt := fun b hb => by simp at hb; simp [hb] }

theorem rel_empty (w : World) : Rel (keptAll w) (fun _ => none) { tr := .nil, nx := 0 } w :=
 ⟨rfl, rfl, rfl, Nat.le_refl _, fun _ _ h => h, fun _ _ => rfl, fun id o hg => by simp [AH.get] at hg, fun i j oi oj pi pj hi => by simp [AH.get] at hi⟩

theorem keptAll_allKept (w : World) : AllKept (keptAll w) w := fun b o h => ⟨h, by simp [keptAll, (Array.getElem?_eq_some_iff.1 h).1]⟩

theorem CallRes.mono {f : FuncId} {cargs : Array Value} {w : World} {Q Q' : Value → World → Prop} (h : CallRes P f cargs w Q) (hq : ∀ v w', Q v w' → Q' v w') : CallRes P f cargs w Q' := by
 obtain ⟨n, w1, h1, h2⟩ := h
 refine ⟨n, w1, h1, ?_⟩
 cases n with
 | enter g a => exact CallsIn.mono h2 fun e w2 ⟨cv, h3, h4⟩ => ⟨cv, h3, hq _ _ h4⟩
 | value cv => exact hq _ _ h2
 | _ => exact h2.elim

theorem walk_of_run (hS : SumsOK P S) {f : FuncId} (hb : bodied P f = true) {w : World} {ρ : Pm} {h : AH} {avs : List AV} {cargs : Array Value} (hR : Rel (keptAll w) ρ h w) (hv : VRs ρ avs cargs.toList)
  (hrun : RnC P S f avs h fun v _ => v = .bool true) : Calls P f cargs w fun e w' => e = .returned (.bool true) ∧ RowKit.Below w.heap.size w w' := by
 obtain ⟨k, v, h', hc, rfl⟩ := hrun
 obtain ⟨nx, w1, hrn, hm⟩ := (evN_sound hS k).call (keptAll w) ρ h w f avs cargs _ h' hR hv hc
 rw [callFunc_bodied hb] at hrn
 cases hrn
 refine (callsIn_wide.1 hm).mono fun e w' hp => ?_
 obtain ⟨cv, rfl, ρ', _, hvr, hR'⟩ := hp
 cases hvr
 refine ⟨rfl, ⟨hR'.os, hR'.tape, hR'.output, hR'.size, fun b hb => ?_⟩⟩
 have : w.heap[b]? = some w.heap[b] := by simp
 rw [this]
 exact hR'.keep b _ this

theorem RnC.sum {f : FuncId} {args : List AV} {h : AH} {Q : AV → AH → Prop} {v : AV} {h' : AH} (hs : S f args h = some (v, h')) (hq : Q v h') : RnC P S f args h Q :=
 ⟨1, v, h', by show evFn P S (evN P S 0) f args h = _; unfold evFn; rw [hs], hq⟩

end
end Go.Abs
namespace Go.Abs
open Go

/-! ### What stays -/
structure Fr (h h' : AH) : Prop where
 nx : h.nx ≤ h'.nx
 get : ∀ j, j < h.nx → h'.get j = h.get j
theorem Fr.refl (h : AH) : Fr h h := ⟨Nat.le_refl _, fun _ _ => rfl⟩
theorem Fr.trans {a b c : AH} (h : Fr a b) (k : Fr b c) : Fr a c := ⟨Nat.le_trans h.nx k.nx, fun j hj => (k.get j (Nat.lt_of_lt_of_le hj h.nx)).trans (h.get j hj)⟩
theorem Fr.new (h : AH) (o : AO) : Fr h (h.new o) := ⟨Nat.le_succ _, fun j hj => by rw [AH.get_new, if_neg (Nat.ne_of_lt hj)]⟩
theorem Fr.put {h h' : AH} (k : Fr h h') {i : Nat} (o : AO) (hi : h.nx ≤ i) : Fr h (h'.put i o) := ⟨k.nx, fun j hj => by rw [AH.get_put, if_neg (by omega)]; exact k.get j hj⟩
theorem Fr.news {h h' : AH} (k : Fr h h') (o : AO) : Fr h (h'.new o) := k.trans (Fr.new h' o)
theorem Fr.more {h h' : AH} (k : Fr h h') (n : Nat) (hn : h'.nx ≤ n) : Fr h { tr := h'.tr, nx := n } := ⟨Nat.le_trans k.nx hn, fun j hj => k.get j hj⟩

theorem AH.get_put_eq {h : AH} {i j : Nat} {o : AO} (e : j = i) : (h.put i o).get j = some o := by rw [AH.get_put, if_pos e]
theorem AH.get_put_ne {h : AH} {i j : Nat} {o : AO} (e : j ≠ i) : (h.put i o).get j = h.get j := by rw [AH.get_put, if_neg e]
theorem AH.get_new_eq {h : AH} {j : Nat} {o : AO} (e : j = h.nx) : (h.new o).get j = some o := by rw [AH.get_new, if_pos e]
theorem AH.get_new_ne {h : AH} {j : Nat} {o : AO} (e : j ≠ h.nx) : (h.new o).get j = h.get j := by rw [AH.get_new, if_neg e]
theorem AH.get_more (h : AH) (n j : Nat) : ({ tr := h.tr, nx := n } : AH).get j = h.get j := rfl
theorem absorb_nil (h : AH) : absorb [] h = h := rfl
theorem absorb_cons (i : Nat) (o : AO) (l : List (Nat × AO)) (h : AH) : absorb ((i, o) :: l) h = absorb l (h.put i o) := rfl
end Go.Abs
end

section
namespace Go.Abs
open Go
set_option linter.unusedVariables false

section
variable {P : Program} {S : Sums}

theorem RnL.unroll {r : Option Nat} {fn : FuncId} {n : Nat} {c : Code} {s : St} {Q : Ex → St → Prop} (hw : syC P S r fn n c s (thenK (fun s' => RnL P S r fn n c s' Q) Q)) : RnL P S r fn n c s Q := by
 obtain ⟨k1, ex, s1, e1, hw1⟩ := syC_sound hw
 cases ex with
 | normal =>
  obtain ⟨k2, ex2, s2, e2, hq⟩ := hw1
  refine ⟨max k1 k2 + 1, ex2, s2, ?_, hq⟩
  show (match evCode P (evN P S (max k1 k2)) r fn n c s with | some (.normal, s') => (evN P S (max k1 k2)).loop r fn n c s' | x => x) = some (ex2, s2)
  rw [evCode_mono (evN_mono (Nat.le_max_left k1 k2)) e1]
  exact (evN_mono (Nat.le_max_right k1 k2)).loop _ _ _ _ _ _ e2
 | exit i =>
  refine ⟨k1 + 1, _, s1, ?_, hw1⟩
  show (match evCode P (evN P S k1) r fn n c s with | some (.normal, s') => (evN P S k1).loop r fn n c s' | x => x) = some (.exit i, s1)
  rw [e1]
 | ret =>
  refine ⟨k1 + 1, _, s1, ?_, hw1⟩
  show (match evCode P (evN P S k1) r fn n c s with | some (.normal, s') => (evN P S k1).loop r fn n c s' | x => x) = some (.ret, s1)
  rw [e1]

theorem min2A_int (k k' : IntKind) (x y : Int) : min2A (.int k x) (.int k' y) = some (.int k (min x y)) := by
 have h : (if y < x then y else x) = min x y := by rw [Int.min_def]; split <;> split <;> omega
 simp only [min2A, h]
theorem max2A_int (k k' : IntKind) (x y : Int) : max2A (.int k x) (.int k' y) = some (.int k (max x y)) := by
 have h : (if y > x then y else x) = max x y := by rw [Int.max_def]; split <;> split <;> omega
 simp only [max2A, h]

theorem syDraw.go {n : Nat} {l : List Oper} {t : Env} {h : AH} {K : Env → AH → Prop} (prs : List (Nat × Nat)) (hf : P.follows .mixedOrders = true) (hs : statGo P l.toArray l 0 [] [] [] = some prs)
  (hw : syGo P S n l.toArray h.nx l 0 t { tr := h.tr, nx := h.nx + l.length } [] [] fun ss t' h' => sameAll P (evN P S 0) n l.toArray ss prs = true ∧ K t' h') : syDraw P S n l.toArray t h K ⟨⟩ ⟨⟩ ⟨⟩ ⟨⟩ :=
 ⟨hf, prs, hs, hw⟩
theorem syGo_nil (n : Nat) (ops : Array Oper) (base i : Nat) (t : Env) (h : AH) (pend : List (Nat × AO)) (acc : List DS) (K : List DS → Env → AH → Prop) : syGo P S n ops base [] i t h pend acc K = K (acc ++ [({ t := t, h := h, pend := pend } : DS)]) t (absorb pend h) := propext Iff.rfl
theorem syGo_cons (n : Nat) (ops : Array Oper) (base i : Nat) (o : Oper) (r : List Oper) (t : Env) (h : AH) (pend : List (Nat × AO)) (acc : List DS) (K : List DS → Env → AH → Prop) :
  syGo P S n ops base (o :: r) i t h pend acc K = syDS P S n ops base i o t h pend fun t' h' pend' => syGo P S n ops base r (i + 1) t' h' pend' (acc ++ [({ t := t, h := h, pend := pend } : DS)]) K := propext Iff.rfl
theorem sameAll_one {R : Rec} {n i j : Nat} {ops : Array Oper} {ss : List DS} {r : List (Nat × Nat)} {o : Oper} {si si' sj sj' : DS} (ho : ops[i]? = some o) (h1 : ss[i]? = some si) (h2 : ss[i + 1]? = some si') (h3 : ss[j]? = some sj) (h4 : ss[j + 1]? = some sj')
  (hx : (if Nat.beq (clsOf P o.op) 1 then sameAt P R n ops i si.t si'.t sj.h else sameAt P R n ops j sj.t sj'.t si'.h) = true) (hr : sameAll P R n ops ss r = true) : sameAll P R n ops ss ((j, i) :: r) = true := by
 unfold sameAll
 simp only [ho, h1, h2, h3, h4, hx, hr, Bool.and_self]
theorem blkK_same (id : Nat) (Q : Ex → St → Prop) (s : St) : blkK id Q (.exit id) s = Q .normal s := by
 unfold blkK
 simp
theorem blkK_other {id j : Nat} (h : j ≠ id) (Q : Ex → St → Prop) (s : St) : blkK id Q (.exit j) s = Q (.exit j) s := by
 unfold blkK
 have : Nat.beq j id = false := by rw [nat_beq_dec]; simp [h]
 simp [this]
theorem below_of {i : Int} {n : Nat} (h1 : 0 ≤ i) (h2 : i < n) : below i n = some i.toNat := by
 cases i with
 | ofNat m =>
  have : m < n := by simp only [Int.ofNat_eq_natCast] at h2; omega
  simp [below, this]
 | negSucc m => omega
theorem upTo_of {i : Int} {n : Nat} (h1 : 0 ≤ i) (h2 : i ≤ n) : upTo i n = some i.toNat := by
 cases i with
 | ofNat m =>
  have : m ≤ n := by simp only [Int.ofNat_eq_natCast] at h2; omega
  simp [upTo, this]
 | negSucc m => omega

/-! ### Appending -/
noncomputable def appI (P : Program) (e : TypeId) : Option (Nat × Nat) := (P.info? e).bind fun i => i.zero.bind fun z => (cellsA (toAV z)).bind fun zc => if zc.length = i.size ∧ i.size ≠ 0 then some (i.size, i.bytes) else none

def notInt : TypeDesc → Bool
 | .int _ => false
 | _ => true
def notStr : AV → Bool
 | .str _ => false
 | _ => true

theorem evAppend_eq {st xt e : TypeId} {d : TypeDesc} {size bytes : Nat} (hu : P.underlying st = some (.slice e)) (hd : P.underlying xt = some d) (hni : notInt d = true) (hi : appI P e = some (size, bytes))
  {h : AH} {s x : AV} {n len : Nat} {new old : List AV} (hn : lenA x = some n) (hnew : firstA h size n x = some new) (hl : lenA s = some len) (hold : firstA h size len s = some old) (hall : new.all oneA = true)
  (hb : (2 * (len + n) + 1000) * bytes ≤ 2 ^ 40) (hb2 : len + n ≤ 2 ^ 40) (hs : notStr s = true) :
  evAppend P h #[st, xt] s x = if n = 0 then some (.val s h) else
   match s with
   | .nilsl => newCells h new false fun id => .sl id 0 n size none
   | .sl id off _ _ (some c) =>
    if c < len + n then newCells h (old ++ new) false fun id => .sl id 0 (len + n) size none
    else if ownBlock h id then newCells (h.del id) (old ++ new) (textBlock h id || !(Nat.beq off 0)) fun id => .sl id 0 (len + n) size none else none
   | .sl id off _ _ none =>
    if ownBlock h id then newCells (h.del id) (old ++ new) (textBlock h id || !(Nat.beq off 0)) fun id => .sl id 0 (len + n) size none else none
   | _ => none := by
 unfold appI at hi
 simp only [Option.bind_eq_some_iff] at hi
 obtain ⟨i, h1, z, h2, zc, h3, h4⟩ := hi
 split at h4
 ·rename_i hz
  obtain ⟨hz1, hz2⟩ := hz
  cases h4
  have hap : appendedA P h i zc xt x = some (n, new) := by
   unfold appendedA
   simp only [hd, Option.bind_eq_bind, Option.bind_some]
   cases d <;> first | (cases hni; done) | simp only [hn, hnew, Option.bind_some]
  unfold evAppend
  simp only [List.getElem?_toArray, List.getElem?_cons_zero, List.getElem?_cons_succ, Option.bind_eq_bind, Option.bind_some, hu, h1, h2, h3]
  rw [if_neg (by simp [hz1, hz2])]
  simp only [hap, hl, hold, Option.bind_some]
  by_cases hn0 : n = 0
  ·simp only [hn0, if_true]
   cases s <;> first | rfl | (cases hs; done)
  ·simp only [hn0, if_false]
   rw [if_neg (by simp [hall]), if_neg (by simp only [Bool.or_eq_true, decide_eq_true_eq]; intro hh; rcases hh with hh | hh <;> omega)]
   rfl
 ·cases h4

theorem firstA_sl {h : AH} {id off n sz k : Nat} {c : Option Nat} {cs : List AV} {o t : Bool} (hg : h.get id = some (.cells cs o t)) (hk : k ≤ n) (hl : off + k * sz ≤ cs.length) : firstA h sz k (.sl id off n sz c) = some ((cs.drop off).take (k * sz)) := by
 simp [firstA, hk, cellsAt, hg, hl]

theorem cA_bool (b : Bool) : cellsA (.bool b) = some [.bool b] := rfl
theorem cA_int (k : IntKind) (n : Int) : cellsA (.int k n) = some [.int k n] := rfl
theorem cA_str (s : List Nat) : cellsA (.str s) = some [.str s] := rfl
theorem cA_nilptr  : cellsA .nilptr = some [.nilptr] := rfl
theorem cA_ptr (i o : Nat) : cellsA (.ptr i o) = some [.ptr i o] := rfl
theorem cA_nilsl  : cellsA .nilsl = some [.nilsl] := rfl
theorem cA_sl (i o l s : Nat) (c : Option Nat) : cellsA (.sl i o l s c) = some [.sl i o l s c] := rfl
theorem cA_nilmap  : cellsA .nilmap = some [.nilmap] := rfl
theorem cA_map (i : Nat) : cellsA (.map i) = some [.map i] := rfl
theorem cA_func (fn : Fn) (a b : List AV) : cellsA (.func fn a b) = some [.func fn a b] := rfl
theorem cA_yld (i : Nat) : cellsA (.yld i) = some [.yld i] := rfl
theorem cA_nilfunc  : cellsA .nilfunc = some [.nilfunc] := rfl
theorem cA_iface (t : TypeId) (v : AV) : cellsA (.iface t v) = some [.iface t v] := rfl
theorem cA_nilif  : cellsA .nilif = some [.nilif] := rfl
theorem cA_agg (l : List AV) : cellsA (.agg l) = some l := rfl
/-! ### Arguments -/
theorem Ty.int_inv {h : AH} {t : TypeId} {k : IntKind} {l : List AV} (hu : P.underlying t = some (.int k)) (hx : Ty P h t l) : ∃ n, l = [.int k n] ∧ k.min ≤ n ∧ n ≤ k.max := by
 cases hx with
 | int n ht hw => rw [hu] at ht; cases ht; exact ⟨n, rfl, hw⟩
 | bool b ht => rw [hu] at ht; cases ht
 | str s ht hs => rw [hu] at ht; cases ht
 | nilsl ht => rw [hu] at ht; cases ht
 | sl ht => rw [hu] at ht; cases ht
 | struct ht => rw [hu] at ht; cases ht
 | array ht => rw [hu] at ht; cases ht
theorem Ty.str_inv {h : AH} {t : TypeId} {l : List AV} (hu : P.underlying t = some .string) (hx : Ty P h t l) : ∃ s : ByteArray, l = [.str (bytesOf s)] ∧ s.size ≤ maxLen := by
 cases hx with
 | int n ht hw => rw [hu] at ht; cases ht
 | bool b ht => rw [hu] at ht; cases ht
 | str s ht hs => exact ⟨s, rfl, hs⟩
 | nilsl ht => rw [hu] at ht; cases ht
 | sl ht => rw [hu] at ht; cases ht
 | struct ht => rw [hu] at ht; cases ht
 | array ht => rw [hu] at ht; cases ht
theorem Ty.slice_inv {h : AH} {t e : TypeId} {l : List AV} (hu : P.underlying t = some (.slice e)) (hx : Ty P h t l) : l = [.nilsl] ∨ ∃ id len cs, l = [.sl id 0 len (P.cellsOf e) none] ∧ h.get id = some (.cells cs false false) ∧ len ≤ maxLen ∧ cs.length = len * P.cellsOf e ∧
  ∀ i, i < len → Ty P h e ((cs.drop (i * P.cellsOf e)).take (P.cellsOf e)) := by
 cases hx with
 | int n ht hw => rw [hu] at ht; cases ht
 | bool b ht => rw [hu] at ht; cases ht
 | str s ht hs => rw [hu] at ht; cases ht
 | nilsl ht => exact .inl rfl
 | sl ht hg hl hc hcs => rw [hu] at ht; cases ht; exact .inr ⟨_, _, _, rfl, hg, hl, hc, hcs⟩
 | struct ht => rw [hu] at ht; cases ht
 | array ht => rw [hu] at ht; cases ht
theorem Ty.struct_inv {h : AH} {t : TypeId} {fs : Array Field} {l : List AV} (hu : P.underlying t = some (.struct fs)) (hx : Ty P h t l) : l.length = P.cellsOf t ∧ ∀ f, f ∈ fs.toList → Ty P h f.type ((l.drop f.offset).take (P.cellsOf f.type)) := by
 cases hx with
 | int n ht hw => rw [hu] at ht; cases ht
 | bool b ht => rw [hu] at ht; cases ht
 | str s ht hs => rw [hu] at ht; cases ht
 | nilsl ht => rw [hu] at ht; cases ht
 | sl ht => rw [hu] at ht; cases ht
 | struct ht hc hf => rw [hu] at ht; cases ht; exact ⟨hc, hf⟩
 | array ht => rw [hu] at ht; cases ht

theorem Ty.one {h : AH} {t : TypeId} {l : List AV} (hd : ∀ fs, P.underlying t ≠ some (.struct fs)) (ha : ∀ n e, P.underlying t ≠ some (.array n e)) (hx : Ty P h t l) : ∃ v, l = [v] ∧ oneA v = true := by
 cases hx with
 | int n ht hw => exact ⟨_, rfl, rfl⟩
 | bool b ht => exact ⟨_, rfl, rfl⟩
 | str s ht hs => exact ⟨_, rfl, rfl⟩
 | nilsl ht => exact ⟨_, rfl, rfl⟩
 | sl ht => exact ⟨_, rfl, rfl⟩
 | struct ht => exact absurd ht (hd _)
 | array ht => exact absurd ht (ha _ _)

def Sl1 (h : AH) (v : AV) (cs : List AV) : Prop := (v = .nilsl ∧ cs = []) ∨ ∃ id, v = .sl id 0 cs.length 1 none ∧ h.get id = some (.cells cs false false) ∧ id < h.nx

theorem Ty.sl1 {h : AH} {t e : TypeId} {l : List AV} (hu : P.underlying t = some (.slice e)) (hc : P.cellsOf e = 1) (hd : ∀ fs, P.underlying e ≠ some (.struct fs)) (ha : ∀ n e', P.underlying e ≠ some (.array n e')) (hx : Ty P h t l) (hlt : ∀ id o, h.get id = some o → id < h.nx) :
  ∃ v cs, l = [v] ∧ Sl1 h v cs ∧ cs.all oneA = true ∧ cs.length ≤ maxLen ∧ ∀ (i : Nat) (c : AV), cs[i]? = some c → Ty P h e [c] := by
 rcases hx.slice_inv hu with rfl | ⟨id, len, cs, rfl, hg, hl, hcs, hel⟩
 ·exact ⟨_, [], rfl, .inl ⟨rfl, rfl⟩, rfl, Nat.zero_le _, fun i c hi => by simp at hi⟩
 ·rw [hc] at hcs hel
  have hcs : cs.length = len := by omega
  have he : ∀ (i : Nat) (c : AV), cs[i]? = some c → Ty P h e [c] := fun i c hi => by
   have hil := (List.getElem?_eq_some_iff.1 hi).1
   have := hel i (by omega)
   rw [Nat.mul_one] at this
   have h2 : (cs.drop i).take 1 = [c] := by
    rw [List.drop_eq_getElem_cons hil, List.take_succ_cons, List.take_zero, (List.getElem?_eq_some_iff.1 hi).2]
   rwa [h2] at this
  refine ⟨_, cs, rfl, .inr ⟨id, by rw [hc, hcs], hg, hlt _ _ hg⟩, ?_, by omega, he⟩
  rw [List.all_eq_true]
  intro c hcm
  obtain ⟨i, hi⟩ := List.mem_iff_getElem?.1 hcm
  obtain ⟨v, hv, ho⟩ := (he i c hi).one hd ha
  cases hv
  exact ho

end
end Go.Abs
end

section
namespace Go.Abs
open Go
set_option linter.unusedVariables false

section
variable {P : Program} {S : Sums}

theorem dataT_mono : ∀ (k : Nat) (t : TypeId), dataT P k t = true → dataT P (k + 1) t = true
 | 0, t, h => by cases h
 | k + 1, t, h => by
  have ih := dataT_mono k
  simp only [dataT] at h
  unfold dataT
  cases hu : P.underlying t with
  | none => rw [hu] at h; cases h
  | some d =>
   rw [hu] at h
   cases d <;> simp only at h ⊢ <;> try (first | exact h | cases h)
   case slice e =>
    rw [Bool.and_eq_true] at h ⊢
    exact ⟨h.1, ih _ h.2⟩
   case struct fs =>
    rw [Bool.and_eq_true] at h ⊢
    refine ⟨h.1, ?_⟩
    have h2 := h.2
    rw [List.all_eq_true] at h2 ⊢
    exact fun f hf => ih _ (h2 f hf)
   case array n e =>
    rw [Bool.and_eq_true] at h ⊢
    exact ⟨h.1, ih _ h.2⟩
theorem dataT_le {k j : Nat} (hkj : k ≤ j) {t : TypeId} (h : dataT P k t = true) : dataT P j t = true := by
 induction hkj with
 | refl => exact h
 | step _ ih => exact dataT_mono _ _ ih

theorem got_arg {H : Type} {enc : TypeId × Value → H} {W : World} {t : TypeId} {v : Value} {d : DataW H} {ps : List MemPlace} {k : Nat} (hd : ∃ (b : Nat) (c : Array Value) (e : TypeId) (fr : Nat × Nat), W.heap[b]? = some (Obj.cells c e fr)) (hk : dataT P k t = true)
  (h : DataW.Trod enc P W 0 (fun _ => true) true t v d ps) {ρ : Pm} {ah : AH} (hR : Rel (keptAll W) ρ ah W) : ∃ ρ' h' avs, Got P (keptAll W) W ρ ah t v.cells.toList ρ' h' avs := by
 obtain ⟨fuel, hf⟩ := h
 exact got (keptAll_allKept W) hd (max k fuel) t _ _ (dataT_le (Nat.le_max_left k fuel) hk) (DataW.trod_le (Nat.le_max_right k fuel) hf) ρ ah hR

theorem trod_below {H : Type} {enc : TypeId × Value → H} {t : TypeId} (hl : laidOutB P = true) (hr : P.readableRec t = true) (hrow : t < P.types.size) {W W' : World} {v : Value} {d : DataW H} {ps : List MemPlace}
  (h : DataW.Trod enc P W 0 (fun _ => true) true t v d ps) (hb : RowKit.Below W.heap.size W W') : DataW.Trod enc P W' 0 (fun b => decide (b < W.heap.size)) true t v d ps := by
 obtain ⟨fuel, hf⟩ := h
 exact RowKit.Below.trod hl hr hrow ⟨fuel, hf⟩ hb (DataW.trod_lt fuel t _ _ hf)

theorem cells_of_laid {laid : List (String × DataW Unit)} {w : World} (n : String) (d : DataW Unit) (r : List (String × DataW Unit)) (h : laidMetH P laid w) (hh : laid.filter (fun x => x.2.handleName?.isSome) = []) (hl : laid = (n, d) :: r) :
  ∃ (b : Nat) (c : Array Value) (e : TypeId) (fr : Nat × Nat), w.heap[b]? = some (Obj.cells c e fr) := by
 unfold laidMetH at h
 rw [hh] at h
 obtain ⟨ps, h1, _⟩ := h
 rw [hl] at h1
 obtain ⟨g, t, cs, fuel, p, q, h2, h3, h4, h5, h6, h7⟩ := h1
 unfold World.var? at h4
 rw [h2] at h4
 simp only [Option.bind_some] at h4
 split at h4
 ·rename_i c e fr hc
  exact ⟨g, c, e, fr, hc⟩
 ·cases h4

theorem rel_lt {K : Kp} {ρ : Pm} {h : AH} {w : World} (hR : Rel K ρ h w) : ∀ id o, h.get id = some o → id < h.nx := fun id o hg => by
 obtain ⟨p, hp, _⟩ := hR.obj id o hg
 refine Nat.lt_of_not_le fun hle => ?_
 rw [hR.fresh id hle] at hp
 cases hp

end
end Go.Abs
end

section
namespace Go.Abs
open Go

attribute [go_sem ↓] clsK_bin clsK_slice syC_skip syC_ret syC_exit syC_region syC_draw syC_seq syC_cond syC_block syC_loop syC_range thenK_normal thenK_ret thenK_exit blkK_normal blkK_ret blkK_same blkK_other syOps_nil syOps_cons sy1_none sy1_some syGo0_nil syGo0_cons syGo_nil syGo_cons syDS_none syO_move syO_assign syO_pick syO_load syO_store syO_build syO_binOp syO_unOp syO_slice syO_indexAddr syO_index syO_lookup syO_call syO_builtin syO_alloc syO_box syO_buildSlice syO_makeMap syO_makeSlice syO_nilCheck syO_convert syO_makeInterface syO_makeFunc syO_fieldAddr syO_field syO_mapUpdate syO_insert syO_typeAssert syO_extract syPut_none syPut_some syEnd_ret syEnd_normal
attribute [go_sem] plainFn clsOf wantedA evLoad evStore aggT oneA putCells fillA repCells evOper val? evCall minA maxA foldA evIndexAddr argsEnv bq_t bq_f gt_iff_lt clsK_0 clsK_1 clsK_2 clsK_3 bnd_some ltv_eq chk_true ifB_true ifB_false resK_val resK_skip resK_call resK_yield syV_func syV_yld rngK_func takeMarks_nil resultsA_nil resultsA_one resultsA_two resultsA_three resultA_tmp resultA_cell opnd_tmp opnd_func opnd_const toAV_int toAV_bool toAV_str toAV_nilsl toAV_nilptr toAV_nilmap toAV_nilfunc toAV_nilif Tr.get_set if_true if_false Option.getD_some Nat.zero_add Nat.add_zero List.map_cons List.map_nil List.append_nil List.nil_append List.cons_append cond_true cond_false binA_add binA_sub binA_mul binA_quo binA_rem binA_and binA_or binA_xor binA_eql binA_neq binA_lss binA_leq binA_gtr binA_geq binA_shl binA_shr unA_not unA_neg wrap64_id Bool.not_true Bool.not_false beq_self_eq_true decide_true decide_false Bool.false_eq_true Bool.true_eq_false not_true_eq_false not_false_eq_true ne_eq decide_not cA_bool cA_int cA_str cA_nilptr cA_ptr cA_nilsl cA_sl cA_nilmap cA_map cA_func cA_yld cA_nilfunc cA_iface cA_nilif cA_agg allocA_alloc allocA_box allocA_buildSlice allocA_makeSlice allocA_makeMap bsA_eq allocated_some Int.cast_ofNat_Int Int.natCast_one Int.natCast_zero min2A_int max2A_int below_of upTo_of Int.toNat_natCast Int.toNat_zero Nat.zero_mul List.isEmpty_cons List.isEmpty_nil Option.bind_some Option.bind_none Option.map_some Option.map_none Option.bind_eq_bind List.getElem?_cons_zero List.getElem?_cons_succ List.length_cons List.length_nil AH.get_put_eq AH.get_put_ne AH.get_new_eq AH.get_new_ne AH.get_more AH.nx_put AH.nx_new absorb_nil absorb_cons List.take_zero List.take_succ_cons List.drop_zero List.drop_succ_cons List.take_nil List.drop_nil Option.some.injEq List.getElem?_toArray BEq.rfl Bool.and_true Bool.true_and Bool.and_false Bool.false_and Bool.or_true Bool.or_false List.all_cons List.all_nil
theorem nxn (h : AH) (o : AO) : (h.new o).nx = h.nx + 1 := rfl
theorem nxp (h : AH) (i : Nat) (o : AO) : (h.put i o).nx = h.nx := rfl
/-! Numbers are reduced, too. -/
attribute [go_sem] Int.reduceEq Int.reduceNe Int.reduceLT Int.reduceLE Int.reduceAdd Int.reduceSub Int.reduceMul Int.reduceNeg Int.reduceToNat Nat.reducePow reduceCtorEq Nat.reduceEqDiff Nat.reduceAdd Nat.reduceLT Nat.reduceLeDiff Nat.reduceMul Nat.reduceSub Nat.reduceBEq
end Go.Abs
end

section
namespace Go.Abs
open Go
set_option linter.unusedVariables false

section
variable {P : Program} {S : Sums}

def flatA : AV → Bool
 | .agg l => l.all scalarA
 | .tup l => l.all scalarA
 | a => scalarA a

theorem vr_scalar {ρ ρ' : Pm} {a : AV} {v : Value} (hs : scalarA a = true) (h : VR ρ a v) : VR ρ' a v := by
 cases h <;> first | (cases hs; done) | constructor
theorem vrs_scalar {ρ ρ' : Pm} : ∀ {l : List AV} {m : List Value}, l.all scalarA = true → VRs ρ l m → VRs ρ' l m
 | _, _, _, .nil => .nil
 | _, _, hs, .cons h t => by
  rw [List.all_cons, Bool.and_eq_true] at hs
  exact .cons (vr_scalar hs.1 h) (vrs_scalar hs.2 t)
theorem vr_flat {ρ ρ' : Pm} {a : AV} {v : Value} (hs : flatA a = true) (h : VR ρ a v) : VR ρ' a v := by
 cases h with
 | agg h => exact .agg (vrs_scalar hs h)
 | tup h => exact .tup (vrs_scalar hs h)
 | _ => first | (cases hs; done) | constructor

theorem sumKept_ok (hS : SumsOK P S) {f : FuncId} {k : Nat} {v : AV} {args0 : List AV} {h0 h0' : AH} {ρ0 : Pm} (hc : (evN P S k).call f args0 h0 = some (v, h0')) (hv : flatA v = true)
  {K : Kp} {ρ : Pm} {h : AH} {w : World} {cargs : Array Value} (hR0 : Rel (keptAll w) ρ0 h0 w) (ha : VRs ρ0 args0 cargs.toList) (hR : Rel K ρ h w) : CallRes P f cargs w (CallPost K h ρ v h) := by
 refine ((evN_sound hS k).call (keptAll w) ρ0 h0 w f args0 cargs v h0' hR0 ha hc).mono fun cv w' hp => ?_
 obtain ⟨ρ', _, hvr, hR'⟩ := hp
 refine ⟨ρ, Ext.refl _ _, vr_flat hv hvr, ⟨hR'.os.trans hR.os, hR'.tape.trans hR.tape, hR'.output.trans hR.output, Nat.le_trans hR.size hR'.size, fun b o hb => hR'.keep b o (hR.keep b o hb), hR.fresh, fun id o hg => ?_, hR.inj⟩⟩
 obtain ⟨p, h1, h2, h3⟩ := hR.obj id o hg
 refine ⟨p, h1, ?_, h3⟩
 cases hb : w.heap[p.b]? with
 | some x => rw [hR'.keep p.b x hb, ← hb]; exact h2
 | none =>
  rw [hb] at h2
  exact (or_none h2).elim

theorem sumScalar_ok (hS : SumsOK P S) {f : FuncId} {v : AV} {args : List AV} (hs : args.all scalarA = true) (hc : RnC P S f args { tr := .nil, nx := 0 } fun u _ => u = v) (hv : flatA v = true)
  {K : Kp} {ρ : Pm} {h : AH} {w : World} {cargs : Array Value} (ha : VRs ρ args cargs.toList) (hR : Rel K ρ h w) : CallRes P f cargs w (CallPost K h ρ v h) := by
 obtain ⟨k, u, h', h1, rfl⟩ := hc
 exact sumKept_ok hS h1 hv (rel_empty w) (vrs_scalar hs ha) hR

/-! ### One block -/
noncomputable def oneH (l : List AV) : AH := { tr := Tr.nil.set 0 (some (.cells l false false)), nx := 1 }
def oneP (q : Pl) : Pm := fun j => if j = 0 then some q else none

theorem rel_one {K : Kp} {ρ : Pm} {h : AH} {w : World} (hR : Rel K ρ h w) {id off n : Nat} {l : List AV} (hc : cellsAt h id off n = some l) (hs : l.all scalarA = true) :
  ∃ p, ρ id = some p ∧ p.o + off + n ≤ p.lim ∧ Rel (keptAll w) (oneP ⟨p.b, p.o + off, p.lim⟩) (oneH l) w := by
 unfold cellsAt at hc
 split at hc
 ·rename_i cs own text hg
  split at hc
  ·rename_i hle
   cases hc
   obtain ⟨p, hp, hor, -, -⟩ := hR.obj id _ hg
   obtain ⟨c, e, fr, h1, h2, h3, h4, -⟩ := hor
   have hlen : ((cs.drop off).take n).length = n := by rw [List.length_take, List.length_drop]; omega
   refine ⟨p, hp, by omega, rfl, rfl, rfl, Nat.le_refl _, fun _ _ h => h, fun id hid => ?_, fun i o hi => ?_, fun i j oi oj pi pj hi hj ho => ?_⟩
   ·have : (1 : Nat) ≤ id := hid
    exact if_neg (by omega)
   ·have hi' : (Tr.nil.set 0 (some (AO.cells ((cs.drop off).take n) false false))).get i = some o := hi
    rw [Tr.get_set] at hi'
    by_cases h0 : i = 0
    ·rw [if_pos h0] at hi'
     cases hi'
     refine ⟨_, if_pos h0, ⟨c, e, fr, h1, ?_, ?_, (fun k a hk => ?_), (fun h => by cases h), (fun h => by cases h)⟩, (fun h => by cases h), (fun _ => ?_)⟩
     ·show p.lim ≤ c.size
      cases own with
      | true => have h2' : c.size = p.lim := h2; omega
      | false => exact h2
     ·show p.o + off + ((cs.drop off).take n).length ≤ p.lim
      rw [hlen]; omega
     ·have hkl := (List.getElem?_eq_some_iff.1 hk).1
      rw [hlen] at hkl
      have hk2 : cs[off + k]? = some a := by
       rw [List.getElem?_take_of_lt hkl, List.getElem?_drop] at hk
       exact hk
      obtain ⟨u, hu, hr⟩ := h4 _ a hk2
      refine ⟨u, by show c[p.o + off + k]? = some u; rw [Nat.add_assoc]; exact hu, vr_scalar ?_ hr⟩
      rw [List.all_eq_true] at hs
      exact hs a (List.mem_of_getElem? hk)
     ·have hb := (Array.getElem?_eq_some_iff.1 h1).1
      simp [keptAll, hb]
    ·rw [if_neg h0, Tr.get_nil] at hi'
     cases hi'
   ·have hi' : (Tr.nil.set 0 (some (AO.cells ((cs.drop off).take n) false false))).get i = some oi := hi
    rw [Tr.get_set] at hi'
    by_cases h0 : i = 0
    ·rw [if_pos h0] at hi'
     cases hi'
     cases ho
    ·rw [if_neg h0, Tr.get_nil] at hi'
     cases hi'
  ·cases hc
 ·cases hc

theorem sumSlice_ok (hS : SumsOK P S) {f : FuncId} {k : Nat} {v : AV} {l : List AV} {h0' : AH} (hc : (evN P S k).call f [.sl 0 0 l.length 1 none] (oneH l) = some (v, h0')) (hv : flatA v = true) (hs : l.all scalarA = true)
  {K : Kp} {ρ : Pm} {h : AH} {w : World} {cargs : Array Value} {id off : Nat} {c : Option Nat} (hl : cellsAt h id off l.length = some l) (ha : VRs ρ [.sl id off l.length 1 c] cargs.toList) (hR : Rel K ρ h w) : CallRes P f cargs w (CallPost K h ρ v h) := by
 obtain ⟨p, hp, hle, hR0⟩ := rel_one hR hl hs
 obtain ⟨cx, rfl, h1⟩ := args1 ha
 refine sumKept_ok hS hc hv hR0 (.cons ?_ .nil) hR
 cases h1 with
 | sl h hl2 ha2 hx hc2 =>
  rw [hp] at h
  cases h
  exact .sl (p := ⟨p.b, p.o + off, p.lim⟩) (if_pos rfl) hl2 ha2 (by simpa using hx) (fun n h => by cases h)

theorem sumCapt_ok (hS : SumsOK P S) {f g : FuncId} {k : Nat} {v a : AV} {h0' : AH} (hc : (evN P S k).call f [.func (.func g) [] [.ptr 0 0]] (oneH [a]) = some (v, h0')) (hv : flatA v = true) (hs : scalarA a = true)
  {K : Kp} {ρ : Pm} {h : AH} {w : World} {cargs : Array Value} {id off : Nat} (hl : cellsAt h id off 1 = some [a]) (ha : VRs ρ [.func (.func g) [] [.ptr id off]] cargs.toList) (hR : Rel K ρ h w) : CallRes P f cargs w (CallPost K h ρ v h) := by
 obtain ⟨p, hp, hle, hR0⟩ := rel_one hR hl (by simp [hs])
 obtain ⟨cx, rfl, h1⟩ := args1 ha
 refine sumKept_ok hS hc hv hR0 (.cons ?_ .nil) hR
 cases h1 with
 | func hpl hl2 hm =>
  refine .func hpl ?_ ?_
  ·generalize hz : Array.toList _ = z at hl2 ⊢
   cases hl2
   exact .nil
  ·generalize hz : Array.toList _ = z at hm ⊢
   cases hm with
   | cons h1 t =>
    cases t
    refine .cons ?_ .nil
    cases h1 with
    | ptr h =>
     rw [hp] at h
     cases h
     exact .ptr (p := ⟨p.b, p.o + off, p.lim⟩) (if_pos rfl)

/-! ### Tables -/
def orS (A B : Sums) : Sums := fun f args h =>
 match A f args h with
 | some r => some r
 | none => B f args h
theorem orS_ok {A B : Sums} (hA : SumsOK P A) (hB : SumsOK P B) : SumsOK P (orS A B) := by
 intro K ρ h w f args cargs v h' hR hv hs
 unfold orS at hs
 split at hs
 ·rename_i r hr
  cases hs
  exact hA K ρ h w f args cargs v h' hR hv hr
 ·exact hB K ρ h w f args cargs v h' hR hv hs


noncomputable def runsTo (P : Program) (S : Sums) (k : Nat) (f : FuncId) (args : List AV) (h : AH) (v : AV) : Bool := @Option.rec (AV × AH) (fun _ => Bool) false (fun r => sameAV 3 r.1 v) ((fN P S k).call f args h)
theorem run_of {k : Nat} {f : FuncId} {args : List AV} {h : AH} {v : AV} (hr : runsTo P S k f args h v = true) : ∃ h', (evN P S k).call f args h = some (v, h') := by
 unfold runsTo at hr
 rw [← fN_eq]
 cases hc : (fN P S k).call f args h with
 | none => rw [hc] at hr; cases hr
 | some r =>
  obtain ⟨u, h'⟩ := r
  rw [hc] at hr
  have := sameAV_eq 3 u v hr
  subst this
  exact ⟨h', rfl⟩

def sumConst (g : FuncId) (v : AV) : Sums := fun f args h => cond (Nat.beq f g) (match args with | [] => some (v, h) | _ => none) none
theorem sumConst_ok (hS : SumsOK P S) {k : Nat} {g : FuncId} {v : AV} (hr : runsTo P S k g [] { tr := .nil, nx := 0 } v = true) (hv : flatA v = true) : SumsOK P (sumConst g v) := by
 intro K ρ h w f args cargs u h' hR ha hs
 unfold sumConst at hs
 rw [nat_beq_dec] at hs
 by_cases hf : f = g
 ·subst hf
  simp only [decide_true, cond_true] at hs
  split at hs
  ·cases hs
   obtain ⟨h0', hc⟩ := run_of hr
   exact sumKept_ok hS hc hv (rel_empty w) (vrs_scalar (by rfl) ha) hR
  ·cases hs
 ·simp only [hf, decide_false, cond_false] at hs
  cases hs

def lookT : List (List Nat × AV) → List Nat → Option AV
 | [], _ => none
 | e :: r, key => cond (eqL e.1 key) (some e.2) (lookT r key)
theorem eqL_same : ∀ {l m : List Nat}, eqL l m = true → l = m
 | [], [], _ => rfl
 | a :: l, b :: m, h => by
  simp only [eqL, Bool.and_eq_true] at h
  rw [Nat.eq_of_beq_eq_true h.1, eqL_same h.2]
 | [], _ :: _, h => by cases h
 | _ :: _, [], h => by cases h
theorem lookT_mem : ∀ {t : List (List Nat × AV)} {key : List Nat} {v : AV}, lookT t key = some v → (key, v) ∈ t
 | [], _, _, h => by cases h
 | e :: r, key, v, h => by
  unfold lookT at h
  cases he : eqL e.1 key with
  | true =>
   rw [he] at h
   cases h
   rw [← eqL_same he]
   exact List.mem_cons_self ..
  | false =>
   rw [he] at h
   exact List.mem_cons_of_mem _ (lookT_mem h)

noncomputable def okNB (P : Program) (S : Sums) (k : Nat) (g : FuncId) (e : List Nat × AV) : Bool :=
 match e.1 with
 | [p, b] => runsTo P S k g [.int .u64 (.ofNat p), .bool (Nat.beq b 1)] { tr := .nil, nx := 0 } e.2 && flatA e.2
 | _ => false
def tableNB (g : FuncId) (t : List (List Nat × AV)) : Sums := fun f args h => cond (Nat.beq f g) (match args with
 | [.int .u64 (.ofNat p), .bool b] => (lookT t [p, cond b 1 0]).map fun v => (v, h)
 | _ => none) none
theorem tableNB_ok (hS : SumsOK P S) {k : Nat} {g : FuncId} {t : List (List Nat × AV)} (ht : t.all (okNB P S k g) = true) : SumsOK P (tableNB g t) := by
 intro K ρ h w f args cargs u h' hR ha hs
 unfold tableNB at hs
 rw [nat_beq_dec] at hs
 by_cases hf : f = g
 ·subst hf
  simp only [decide_true, cond_true] at hs
  split at hs
  ·rename_i p b
   rw [Option.map_eq_some_iff] at hs
   obtain ⟨v, h1, h2⟩ := hs
   cases h2
   rw [List.all_eq_true] at ht
   have h3 := ht _ (lookT_mem h1)
   simp only [okNB, Bool.and_eq_true] at h3
   obtain ⟨h0', hc⟩ := run_of h3.1
   have hb : Nat.beq (cond b 1 0) 1 = b := by cases b <;> rfl
   rw [hb] at hc
   exact sumKept_ok hS hc h3.2 (rel_empty w) (vrs_scalar (by rfl) ha) hR
  ·cases hs
 ·simp only [hf, decide_false, cond_false] at hs
  cases hs

noncomputable def okCapt (P : Program) (S : Sums) (k : Nat) (g g' : FuncId) (e : List Nat × AV) : Bool :=
 match e.1 with
 | [p] => runsTo P S k g [.func (.func g') [] [.ptr 0 0]] (oneH [.int .u64 (.ofNat p)]) e.2 && flatA e.2
 | _ => false
noncomputable def tableCapt (g g' : FuncId) (t : List (List Nat × AV)) : Sums := fun f args h => cond (Nat.beq f g) (match args with
 | [.func (.func q) [] [.ptr id off]] => cond (Nat.beq q g') (match cellsAt h id off 1 with
  | some [.int .u64 (.ofNat p)] => (lookT t [p]).map fun v => (v, h)
  | _ => none) none
 | _ => none) none
theorem tableCapt_ok (hS : SumsOK P S) {k : Nat} {g g' : FuncId} {t : List (List Nat × AV)} (ht : t.all (okCapt P S k g g') = true) : SumsOK P (tableCapt g g' t) := by
 intro K ρ h w f args cargs u h' hR ha hs
 unfold tableCapt at hs
 rw [nat_beq_dec] at hs
 by_cases hf : f = g
 ·subst hf
  simp only [decide_true, cond_true] at hs
  split at hs
  ·rename_i q id off
   rw [nat_beq_dec] at hs
   by_cases hq : q = g'
   ·subst hq
    simp only [decide_true, cond_true] at hs
    split at hs
    ·rename_i p hl
     rw [Option.map_eq_some_iff] at hs
     obtain ⟨v, h1, h2⟩ := hs
     cases h2
     rw [List.all_eq_true] at ht
     have h3 := ht _ (lookT_mem h1)
     simp only [okCapt, Bool.and_eq_true] at h3
     obtain ⟨h0', hc⟩ := run_of h3.1
     exact sumCapt_ok hS hc h3.2 rfl hl ha hR
    ·cases hs
   ·simp only [hq, decide_false, cond_false] at hs
    cases hs
  ·cases hs
 ·simp only [hf, decide_false, cond_false] at hs
  cases hs

theorem bytesA_map : ∀ {l : List AV} {bs : List Nat}, bytesA l = some bs → l = bs.map fun b => AV.int .u8 (.ofNat b)
 | [], bs, h => by cases h; rfl
 | a :: l, bs, h => by
  unfold bytesA at h
  split at h
  ·rename_i h0; cases h0
  ·rename_i n r h0
   cases h0
   split at h
   ·rename_i m
    split at h
    ·rw [Option.map_eq_some_iff] at h
     obtain ⟨bs', h1, rfl⟩ := h
     rw [bytesA_map h1]
     rfl
    ·cases h
   ·cases h
  ·cases h
noncomputable def okBytes (P : Program) (S : Sums) (k : Nat) (g : FuncId) (e : List Nat × AV) : Bool :=
 runsTo P S k g [.sl 0 0 e.1.length 1 none] (oneH (e.1.map fun b => AV.int .u8 (.ofNat b))) e.2 && flatA e.2
noncomputable def tableBytes (g : FuncId) (t : List (List Nat × AV)) : Sums := fun f args h => cond (Nat.beq f g) (match args with
 | [.sl id off len sz _] => cond (Nat.beq sz 1) ((cellsAt h id off len).bind fun l => (bytesA l).bind fun bs => (lookT t bs).map fun v => (v, h)) none
 | _ => none) none
theorem cellsAt_length {h : AH} {id off n : Nat} {l : List AV} (hc : cellsAt h id off n = some l) : l.length = n := by
 unfold cellsAt at hc
 split at hc
 ·split at hc
  ·cases hc
   rw [List.length_take, List.length_drop]; omega
  ·cases hc
 ·cases hc
theorem tableBytes_ok (hS : SumsOK P S) {k : Nat} {g : FuncId} {t : List (List Nat × AV)} (ht : t.all (okBytes P S k g) = true) : SumsOK P (tableBytes g t) := by
 intro K ρ h w f args cargs u h' hR ha hs
 unfold tableBytes at hs
 rw [nat_beq_dec] at hs
 by_cases hf : f = g
 ·subst hf
  simp only [decide_true, cond_true] at hs
  split at hs
  ·rename_i id off len sz c
   rw [nat_beq_dec] at hs
   by_cases hz : sz = 1
   ·subst hz
    simp only [decide_true, cond_true, Option.bind_eq_some_iff, Option.map_eq_some_iff] at hs
    obtain ⟨l, hl, bs, hb, v, h1, h2⟩ := hs
    cases h2
    rw [List.all_eq_true] at ht
    have h3 := ht _ (lookT_mem h1)
    simp only [okBytes, Bool.and_eq_true] at h3
    obtain ⟨h0', hc⟩ := run_of h3.1
    have hlen := cellsAt_length hl
    have hm := bytesA_map hb
    rw [hm, List.length_map] at hlen
    subst hlen
    rw [hm] at hl
    have hlm : (bs.map fun b => AV.int .u8 (.ofNat b)).length = bs.length := List.length_map _
    rw [← hlm] at hc hl ha
    exact sumSlice_ok hS hc h3.2 (by rw [List.all_map]; simp [scalarA]) hl ha hR
   ·simp only [hz, decide_false, cond_false] at hs
    cases hs
  ·cases hs
 ·simp only [hf, decide_false, cond_false] at hs
  cases hs

end
end Go.Abs
end

section
namespace Go.Abs
open Go
set_option linter.unusedVariables false

section
variable {P : Program} {S : Sums}

theorem sumFresh_ok (hS : SumsOK P S) {f : FuncId} {args0 : List AV} {h0 : AH} {id n : Nat} {l : List AV} {txt : Bool} {ρ0 : Pm}
  (hc : RnC P S f args0 h0 fun v h' => ∃ id, v = .sl id 0 n 1 none ∧ h'.get id = some (.cells l true txt)) (hs : l.all scalarA = true)
  {K : Kp} {ρ : Pm} {h : AH} {w : World} {cargs : Array Value} (hR0 : Rel (keptAll w) ρ0 h0 w) (ha : VRs ρ0 args0 cargs.toList) (hR : Rel K ρ h w) : CallRes P f cargs w (CallPost K h ρ (.sl h.nx 0 n 1 none) (h.new (.cells l true txt))) := by
 obtain ⟨k, v, h0', hc, id, rfl, hg⟩ := hc
 refine ((evN_sound hS k).call (keptAll w) ρ0 h0 w f args0 cargs _ h0' hR0 ha hc).mono fun cv w' hp => ?_
 obtain ⟨ρ', _, hvr, hR'⟩ := hp
 obtain ⟨p, hpi, hor, hown, -⟩ := hR'.obj id _ hg
 have hpb : w.heap.size ≤ p.b := (hown rfl).2
 have hnone : ρ h.nx = none := hR.fresh _ (Nat.le_refl _)
 have hle : ρ.le (ρ.put h.nx p) := Pm.le_put hnone
 have hold : ∀ b, b < w.heap.size → w'.heap[b]? = w.heap[b]? := fun b hb => by
  have h1 : w.heap[b]? = some w.heap[b] := by simp
  rw [h1]
  exact hR'.keep b _ h1
 have hlt : ∀ i o q, h.get i = some o → ρ i = some q → q.b < w.heap.size := fun i o q hi hq => by
  obtain ⟨q', hq', hq2, -⟩ := hR.obj i o hi
  rw [hq] at hq'
  cases hq'
  cases hb : w.heap[q.b]? with
  | some x => exact (Array.getElem?_eq_some_iff.1 hb).1
  | none =>
   rw [hb] at hq2
   exact (or_none hq2).elim
 refine ⟨ρ.put h.nx p, Ext.put hnone, ?_, ⟨hR'.os.trans hR.os, hR'.tape.trans hR.tape, hR'.output.trans hR.output, Nat.le_trans hR.size hR'.size, fun b o hb => hR'.keep b o (hR.keep b o hb), fun i hi => ?_, fun i o hi => ?_, fun i j oi oj pi pj hi hj ho ho' hpi hpj hb => ?_⟩⟩
 ·cases hvr with
  | sl h1 hl2 ha2 hx hc2 =>
   rw [hpi] at h1
   cases h1
   exact .sl (Pm.put_self _ _ _) hl2 ha2 hx hc2
 ·have hi' : h.nx + 1 ≤ i := hi
  have hne : i ≠ h.nx := by omega
  simp only [Pm.put, if_neg hne]
  exact hR.fresh i (by omega)
 ·rw [AH.get_new] at hi
  by_cases he : i = h.nx
  ·subst he
   rw [if_pos rfl] at hi
   cases hi
   refine ⟨p, Pm.put_self _ _ _, ?_, fun _ => ⟨?_, Nat.le_trans hR.size hpb⟩, fun h => by cases h⟩
   ·obtain ⟨c, e, fr, h1, h2, h3, h4, h5⟩ := hor
    refine ⟨c, e, fr, h1, h2, h3, fun k a hk => ?_, h5⟩
    obtain ⟨u, hu, hr⟩ := h4 k a hk
    refine ⟨u, hu, vr_scalar ?_ hr⟩
    rw [List.all_eq_true] at hs
    exact hs a (List.mem_of_getElem? hk)
   ·cases hk : K.at_ p.b with
    | none => rfl
    | some o' => have := hR.size_le _ _ hk; omega
  ·rw [if_neg he] at hi
   obtain ⟨q, hq1, hq2, hq3⟩ := hR.obj i o hi
   have hqb := hlt i o q hi hq1
   refine ⟨q, hle _ _ hq1, ?_, hq3⟩
   rw [hold _ hqb]
   exact OR.mono hle hq2
 ·rw [AH.get_new] at hi hj
  by_cases he : i = h.nx
  ·by_cases he' : j = h.nx
   ·rw [he, he']
   ·rw [if_neg he'] at hj
    rw [he, Pm.put_self] at hpi
    cases hpi
    simp only [Pm.put, if_neg he'] at hpj
    have := hlt j oj pj hj hpj
    omega
  ·rw [if_neg he] at hi
   simp only [Pm.put, if_neg he] at hpi
   by_cases he' : j = h.nx
   ·rw [he', Pm.put_self] at hpj
    cases hpj
    have := hlt i oi pi hi hpi
    omega
   ·rw [if_neg he'] at hj
    simp only [Pm.put, if_neg he'] at hpj
    exact hR.inj i j oi oj pi pj hi hj ho ho' hpi hpj hb

noncomputable def sumRow (g : FuncId) (t : List (Nat × List AV)) : Sums := fun f args h => cond (Nat.beq f g) (match args with
 | [.int .i64 (.ofNat n)] => (t.find? fun e => Nat.beq e.1 n).map fun e => (.sl h.nx 0 e.2.length 1 none, h.new (.cells e.2 true false))
 | _ => none) none
theorem sumRow_ok (hS : SumsOK P S) {g : FuncId} {t : List (Nat × List AV)}
  (ht : ∀ e ∈ t, e.2.all scalarA = true ∧ RnC P S g [.int .i64 (.ofNat e.1)] { tr := .nil, nx := 0 } fun v h' => ∃ id, v = .sl id 0 e.2.length 1 none ∧ h'.get id = some (.cells e.2 true false)) : SumsOK P (sumRow g t) := by
 intro K ρ h w f args cargs u h' hR ha hs
 unfold sumRow at hs
 rw [nat_beq_dec] at hs
 by_cases hf : f = g
 ·subst hf
  simp only [decide_true, cond_true] at hs
  split at hs
  ·rename_i n
   rw [Option.map_eq_some_iff] at hs
   obtain ⟨e, h1, h2⟩ := hs
   cases h2
   have hm := List.mem_of_find?_eq_some h1
   have hn : e.1 = n := by have := List.find?_some h1; exact Nat.eq_of_beq_eq_true this
   subst hn
   obtain ⟨hall, hc⟩ := ht e hm
   exact sumFresh_ok (id := 0) hS hc hall (rel_empty w) (vrs_scalar (by rfl) ha) hR
  ·cases hs
 ·simp only [hf, decide_false, cond_false] at hs
  cases hs

def sumNums (g : FuncId) (val : List AV → Option AV) : Sums := fun f args h => cond (Nat.beq f g) ((val args).map fun v => (v, h)) none
theorem sumNums_ok (hS : SumsOK P S) {g : FuncId} {val : List AV → Option AV} (hv : ∀ args v, val args = some v → args.all scalarA = true ∧ flatA v = true ∧ RnC P S g args { tr := .nil, nx := 0 } fun u _ => u = v) : SumsOK P (sumNums g val) := by
 intro K ρ h w f args cargs u h' hR ha hs
 unfold sumNums at hs
 rw [nat_beq_dec] at hs
 by_cases hf : f = g
 ·subst hf
  simp only [decide_true, cond_true, Option.map_eq_some_iff] at hs
  obtain ⟨v, h1, h2⟩ := hs
  cases h2
  obtain ⟨h3, h4, h5⟩ := hv _ _ h1
  exact sumScalar_ok hS h3 h5 h4 ha hR
 ·simp only [hf, decide_false, cond_false] at hs
  cases hs

end
end Go.Abs
end

section
namespace Go.Abs
open Go
set_option linter.unusedVariables false

abbrev W32 := BitVec 32
def iw (x : W32) : Int := (x.toNat : Int)
theorem wrap32 (n : Int) : IntKind.u32.wrap n = n % 4294967296 := by
 simp [IntKind.wrap, IntKind.bits, IntKind.signed]
theorem wrap32_nat (n : Nat) : IntKind.u32.wrap (n : Int) = ((n % 4294967296 : Nat) : Int) := by
 rw [wrap32]; exact (Int.natCast_emod n 4294967296).symm
theorem ofInt_iw (x : W32) : BitVec.ofInt IntKind.u32.bits (iw x) = x := by
 apply BitVec.eq_of_toNat_eq
 have h1 : (BitVec.ofInt IntKind.u32.bits (x.toNat : Int)).toNat = x.toNat % 2 ^ 32 := bv_ofInt _ _
 rw [iw, h1]
 exact Nat.mod_eq_of_lt x.isLt
theorem wrap_bv (x : W32) : IntKind.u32.wrap ((x.toNat : Nat) : Int) = iw x := by
 rw [wrap32_nat, iw, Nat.mod_eq_of_lt x.isLt]
theorem add_w (x y : W32) : IntKind.u32.wrap (iw x + iw y) = iw (x + y) := by
 rw [iw, iw, ← Int.natCast_add, wrap32_nat, iw, BitVec.toNat_add]
theorem xor_w (x y : W32) : IntKind.u32.wrap ((BitVec.ofInt IntKind.u32.bits (iw x) ^^^ BitVec.ofInt IntKind.u32.bits (iw y)).toNat : Int) = iw (x ^^^ y) := by
 rw [ofInt_iw, ofInt_iw]; exact wrap_bv _
theorem and_w (x y : W32) : IntKind.u32.wrap ((BitVec.ofInt IntKind.u32.bits (iw x) &&& BitVec.ofInt IntKind.u32.bits (iw y)).toNat : Int) = iw (x &&& y) := by
 rw [ofInt_iw, ofInt_iw]; exact wrap_bv _
theorem or_w (x y : W32) : IntKind.u32.wrap ((BitVec.ofInt IntKind.u32.bits (iw x) ||| BitVec.ofInt IntKind.u32.bits (iw y)).toNat : Int) = iw (x ||| y) := by
 rw [ofInt_iw, ofInt_iw]; exact wrap_bv _
theorem not_w (x : W32) : IntKind.u32.wrap ((BitVec.ofInt IntKind.u32.bits (if IntKind.u32.signed then -1 else IntKind.u32.max) ^^^ BitVec.ofInt IntKind.u32.bits (iw x)).toNat : Int) = iw (~~~ x) := by
 rw [ofInt_iw]
 have h1 : (BitVec.ofInt 32 4294967295 : W32) = BitVec.allOnes 32 := by decide
 have h : ((BitVec.ofInt 32 4294967295 : W32) ^^^ x) = ~~~ x := by
  rw [h1, BitVec.allOnes_xor]
 exact (congrArg (fun y : W32 => IntKind.u32.wrap (y.toNat : Int)) h).trans (wrap_bv _)
theorem shl_w (x : W32) (k : Nat) : IntKind.u32.wrap (iw x * 2 ^ k) = iw (x <<< k) := by
 have h : iw x * 2 ^ k = ((x.toNat * 2 ^ k : Nat) : Int) := by rw [iw, Int.natCast_mul, Int.natCast_pow]; rfl
 rw [h, wrap32_nat, iw, BitVec.toNat_shiftLeft, Nat.shiftLeft_eq]
theorem shr_w (x : W32) (k : Nat) : (iw x).fdiv (2 ^ k) = iw (x >>> k) := by
 have h : (2 ^ k : Int) = ((2 ^ k : Nat) : Int) := by rw [Int.natCast_pow]; rfl
 rw [h, Int.fdiv_eq_ediv_of_nonneg _ (Int.natCast_nonneg _), iw, iw, BitVec.toNat_ushiftRight, Nat.shiftRight_eq_div_pow]
 exact (Int.natCast_ediv _ _).symm
/-! ### The digest's functions -/
def rotr (x : W32) (n : Nat) : W32 := (x <<< (32 - n)) ||| (x >>> n)
def rots (x : W32) : List Nat → W32 → W32
 | [], o => o
 | n :: r, o => rots x r (o ^^^ rotr x n)
end Go.Abs
end

section
namespace Go.Abs
open Go
set_option linter.unusedVariables false
set_option linter.unusedSimpArgs false

section
variable {P : Program} {S : Sums}

theorem Fr.del {h h' : AH} (k : Fr h h') {i : Nat} (hi : h.nx ≤ i) : Fr h (h'.del i) := ⟨k.nx, fun j hj => by rw [AH.get_del, if_neg (by omega)]; exact k.get j hj⟩

def byC (l : List Nat) : List AV := l.map fun (b : Nat) => AV.int .u8 (b : Int)
theorem byC_length (l : List Nat) : (byC l).length = l.length := by simp [byC]
theorem byC_take (l : List Nat) (i : Nat) : (byC l).take i = byC (l.take i) := by simp [byC, List.map_take]
theorem byC_all (l : List Nat) : (byC l).all oneA = true := by
 rw [List.all_eq_true]
 intro c hc
 obtain ⟨b, _, rfl⟩ := List.mem_map.1 hc
 rfl
theorem bytesA_byC : ∀ (l : List Nat), (∀ b ∈ l, b < 256) → bytesA (byC l) = some l
 | [], _ => rfl
 | b :: l, h => by
  have hb : b < 256 := h b (List.mem_cons_self ..)
  have ih := bytesA_byC l fun c hc => h c (List.mem_cons_of_mem _ hc)
  show bytesA (AV.int .u8 ((b : Nat) : Int) :: byC l) = some (b :: l)
  have : ((b : Nat) : Int) = Int.ofNat b := rfl
  rw [this]
  simp only [bytesA, hb, if_true, ih, Option.map_some]

def Bs (h : AH) (v : AV) (l : List Nat) : Prop :=
 (v = .nilsl ∧ l = []) ∨ ∃ id off c cs o t, v = .sl id off l.length 1 c ∧ h.get id = some (.cells cs o t) ∧ id < h.nx ∧ off + l.length ≤ cs.length ∧ (∀ k, c = some k → l.length ≤ k) ∧ (cs.drop off).take l.length = byC l

theorem Bs.fr {h h' : AH} {v : AV} {l : List Nat} (hb : Bs h v l) (hf : Fr h h') : Bs h' v l := by
 rcases hb with h1 | ⟨id, off, c, cs, o, t, h1, h2, h3, h4, h5, h6⟩
 ·exact .inl h1
 ·exact .inr ⟨id, off, c, cs, o, t, h1, (hf.get id h3).trans h2, Nat.lt_of_lt_of_le h3 hf.nx, h4, h5, h6⟩

theorem Bs.slice_to {h : AH} {v : AV} {l : List Nat} {t e : TypeId} {hi : Nat} (hb : Bs h v l) (ht : P.underlying t = some (.slice e)) (he : tsize P e = some 1) (hhi : hi ≤ l.length) :
  ∃ v', (∀ h1, evSlice P h1 t v none (some (.int .i64 (hi : Nat))) none = some v') ∧ Bs h v' (l.take hi) ∧ sameAV 20 v' v' = true ∧ oneA v' = true := by
 rcases hb with ⟨rfl, rfl⟩ | ⟨id, off, c, cs, o, tx, rfl, h2, h3, h4, h5, h6⟩
 ·obtain rfl : hi = 0 := by simpa using hhi
  refine ⟨.nilsl, fun h1 => ?_, .inl ⟨rfl, rfl⟩, rfl, rfl⟩
  simp [evSlice, ht, he, boundsA, boundA, upTo]
 ·refine ⟨.sl id (off + 0 * 1) (hi - 0) 1 (c.map (· - 0)), fun h1 => ?_, .inr ⟨id, off + 0 * 1, c.map (· - 0), cs, o, tx, ?_, h2, h3, ?_, ?_, ?_⟩, ?_, rfl⟩
  ·have hu : upTo ((hi : Nat) : Int) (c.getD l.length) = some hi := by
    rw [upTo_of (by omega) (by cases c with
     | none => simp; omega
     | some c => simp; have := h5 c rfl; omega)]
    simp
   simp [evSlice, ht, he, boundsA, boundA, hu]
  ·simp; omega
  ·simp; omega
  ·intro k hk
   cases c with
   | none => simp at hk
   | some c => simp at hk; have := h5 c rfl; simp; omega
  ·have h7 : (byC l).take hi = byC (l.take hi) := byC_take l hi
   rw [← h7, ← h6, List.take_take]
   simp
  ·simp [sameAV]

theorem Bs.text {h : AH} {v : AV} {l : List Nat} {s e d : TypeId} (hb : Bs h v l) (hs : P.underlying s = some (.slice e)) (he : P.underlying e = some (.int .u8)) (hd : P.underlying d = some .string) (hl : ∀ b ∈ l, b < 256) :
  evConvert P h s d v = some (.val (.str l) h) := by
 rcases hb with ⟨rfl, rfl⟩ | ⟨id, off, c, cs, o, tx, rfl, h2, h3, h4, h5, h6⟩
 ·simp [evConvert, hs, hd, he, lenA, firstA, bytesA]
 ·have h7 : firstA h 1 l.length (.sl id off l.length 1 c) = some (byC l) := by
   simp only [firstA, cellsAt, h2, Nat.mul_one, h4]
   simp [h6]
  simp only [evConvert, hs, hd, he, lenA, Option.bind_eq_bind, Option.bind_some, h7, bytesA_byC l hl]

theorem Bs.first {h : AH} {v : AV} {l : List Nat} (hb : Bs h v l) : lenA v = some l.length ∧ firstA h 1 l.length v = some (byC l) := by
 rcases hb with ⟨rfl, rfl⟩ | ⟨id, off, c, cs, o, tx, rfl, h2, h3, h4, h5, h6⟩
 ·exact ⟨rfl, rfl⟩
 ·refine ⟨rfl, ?_⟩
  simp only [firstA, cellsAt, h2, Nat.mul_one, h4]
  simp [h6]

theorem Bs.own {h : AH} {x : AV} {l : List Nat} {id : Nat} {cs0 : List AV} {o t : Bool} {st e : TypeId} {bt : Nat} (hu : P.underlying st = some (.slice e)) (hi : appI P e = some (1, bt)) (hbt : bt ≤ 64) (hb : Bs h x l) (hl : l.length ≤ 1073741824) (hid : h.get id = some (.cells cs0 o t)) (hlt : id < h.nx) :
  ∃ v h', evAppend P h #[st, st] (.sl id 0 0 1 (some 0)) x = some (.val v h') ∧ Fr h h' ∧ Bs h' v l ∧ oneA v = true := by
 have hold : firstA h 1 0 (.sl id 0 0 1 (some 0)) = some [] := by
  rw [firstA_sl hid (Nat.le_refl _) (by omega)]; simp
 obtain ⟨hn, hnew⟩ := hb.first
 have hm : (2 * (0 + l.length) + 1000) * bt ≤ (2 * (0 + l.length) + 1000) * 64 := Nat.mul_le_mul_left _ hbt
 have key : ∀ (h0 : l.length = 0 ∨ ¬ l.length = 0), ∃ v h', evAppend P h #[st, st] (.sl id 0 0 1 (some 0)) x = some (.val v h') ∧ Fr h h' ∧ Bs h' v l ∧ oneA v = true := by
  intro h0
  rw [evAppend_eq hu hu rfl hi hn hnew rfl hold (byC_all l) (Nat.le_trans hm (by omega)) (by omega) rfl]
  rcases h0 with h0 | h0
  ·rw [if_pos h0]
   have : l = [] := List.length_eq_zero_iff.1 h0
   subst this
   exact ⟨_, _, rfl, Fr.refl _, .inr ⟨id, 0, some 0, cs0, o, t, rfl, hid, hlt, by simp, (fun k hk => by cases hk; simp), by simp [byC]⟩, rfl⟩
  ·rw [if_neg h0]
   simp only
   rw [if_pos (by omega)]
   refine ⟨_, _, rfl, Fr.new _ _, .inr ⟨h.nx, 0, none, [] ++ byC l, true, false, ?_, AH.get_new_eq rfl, Nat.lt_succ_self _, ?_, (fun k hk => by cases hk), ?_⟩, rfl⟩
   ·simp
   ·simp [byC_length]
   ·simp [← byC_length]
 exact key (Decidable.em _)

/-! ### Slices of texts -/
def Ss (n0 : Nat) (h : AH) (v : AV) (l : List (List Nat)) : Prop :=
 (v = .nilsl ∧ l = []) ∨ ∃ id, v = .sl id 0 l.length 1 none ∧ h.get id = some (.cells (l.map AV.str) true false) ∧ id < h.nx ∧ n0 ≤ id
theorem Ss.fr {n0 : Nat} {h h' : AH} {v : AV} {l : List (List Nat)} (hb : Ss n0 h v l) (hf : Fr h h') : Ss n0 h' v l := by
 rcases hb with h1 | ⟨id, h1, h2, h3, h4⟩
 ·exact .inl h1
 ·exact .inr ⟨id, h1, (hf.get id h3).trans h2, Nat.lt_of_lt_of_le h3 hf.nx, h4⟩
theorem Ss.low {n0 n1 : Nat} {h : AH} {v : AV} {l : List (List Nat)} (hb : Ss n0 h v l) (hn : n1 ≤ n0) : Ss n1 h v l := by
 rcases hb with h1 | ⟨id, h1, h2, h3, h4⟩
 ·exact .inl h1
 ·exact .inr ⟨id, h1, h2, h3, Nat.le_trans hn h4⟩
theorem Ss.app {h0 h : AH} {v : AV} {l : List (List Nat)} {p : List Nat} {id1 : Nat} {c : Option Nat} {o t : Bool} {st e : TypeId} {bt : Nat} (hu : P.underlying st = some (.slice e)) (hi : appI P e = some (1, bt)) (hbt : bt ≤ 64) (hs : Ss h0.nx h v l) (hf : Fr h0 h) (hl : l.length ≤ 1073741824)
  (hid : h.get id1 = some (.cells [.str p] o t)) (hlt : id1 < h.nx) (hne : ∀ id off n sz c, v = .sl id off n sz c → id ≠ id1) :
  ∃ v' h', evAppend P h #[st, st] v (.sl id1 0 1 1 c) = some (.val v' h') ∧ Fr h0 h' ∧ Ss h0.nx h' v' (l ++ [p]) ∧ oneA v' = true := by
 have hnew : firstA h 1 1 (.sl id1 0 1 1 c) = some [.str p] := by
  rw [firstA_sl hid (Nat.le_refl _) (by simp)]; rfl
 have hm : (2 * (l.length + 1) + 1000) * bt ≤ (2 * (l.length + 1) + 1000) * 64 := Nat.mul_le_mul_left _ hbt
 rcases hs with ⟨rfl, rfl⟩ | ⟨id, rfl, h2, h3, h4⟩
 ·have hm' : (2 * (0 + 1) + 1000) * bt ≤ (2 * (0 + 1) + 1000) * 64 := Nat.mul_le_mul_left _ hbt
  rw [evAppend_eq (len := 0) (old := []) hu hu rfl hi rfl hnew rfl rfl rfl (Nat.le_trans hm' (by omega)) (by omega) rfl]
  rw [if_neg (by decide)]
  exact ⟨_, _, rfl, hf.news _, .inr ⟨h.nx, rfl, AH.get_new_eq rfl, Nat.lt_succ_self _, hf.nx⟩, rfl⟩
 ·have hold : firstA h 1 l.length (.sl id 0 l.length 1 none) = some (l.map AV.str) := by
   rw [firstA_sl h2 (Nat.le_refl _) (by simp), List.drop_zero, Nat.mul_one]
   have ht : (l.map AV.str).take (l.map AV.str).length = l.map AV.str := List.take_length
   rw [List.length_map] at ht
   exact congrArg some ht
  rw [evAppend_eq (len := l.length) hu hu rfl hi rfl hnew rfl hold rfl (Nat.le_trans hm (by omega)) (by omega) rfl]
  rw [if_neg (by decide)]
  simp only
  rw [if_pos (by simp [ownBlock, h2])]
  have ht : (textBlock h id || !(Nat.beq 0 0)) = false := by simp [textBlock, h2]
  rw [ht]
  refine ⟨_, _, rfl, (hf.del h4).news _, .inr ⟨h.nx, ?_, ?_, Nat.lt_succ_self _, hf.nx⟩, rfl⟩
  ·simp
  ·exact (AH.get_new_eq (h := h.del id) rfl).trans (by simp)

/-! ### Numbers -/
/-! ### Words -/
theorem binA_add32 (h : AH) (t : TypeId) (x y : W32) : binA P h .add t (.int .u32 (iw x)) (.int .u32 (iw y)) = some (.int .u32 (iw (x + y))) := by rw [binA_add, add_w]
theorem binA_xor32 (h : AH) (t : TypeId) (x y : W32) : binA P h .xor t (.int .u32 (iw x)) (.int .u32 (iw y)) = some (.int .u32 (iw (x ^^^ y))) := by rw [binA_xor, xor_w]
theorem binA_and32 (h : AH) (t : TypeId) (x y : W32) : binA P h .and t (.int .u32 (iw x)) (.int .u32 (iw y)) = some (.int .u32 (iw (x &&& y))) := by rw [binA_and, and_w]
theorem binA_or32 (h : AH) (t : TypeId) (x y : W32) : binA P h .or t (.int .u32 (iw x)) (.int .u32 (iw y)) = some (.int .u32 (iw (x ||| y))) := by rw [binA_or, or_w]
theorem unA_not32 (x : W32) : unA .xor (.int .u32 (iw x)) = some (.int .u32 (iw (~~~ x))) := by
 show some (AV.int .u32 _) = _
 rw [not_w]
theorem binA_shl32 (h : AH) (t : TypeId) (k : IntKind) (x : W32) (n : Int) (h0 : 0 ≤ n) (h1 : n ≤ 32) : binA P h .shl t (.int .u32 (iw x)) (.int k n) = some (.int .u32 (iw (x <<< n.toNat))) := by
 rw [binA_shl, if_neg (by omega)]
 have : min n.toNat (IntKind.bits .u32) = n.toNat := Nat.min_eq_left (by show n.toNat ≤ 32; omega)
 rw [this, shl_w]
theorem binA_shr32 (h : AH) (t : TypeId) (k : IntKind) (x : W32) (n : Int) (h0 : 0 ≤ n) (h1 : n ≤ 32) : binA P h .shr t (.int .u32 (iw x)) (.int k n) = some (.int .u32 (iw (x >>> n.toNat))) := by
 rw [binA_shr, if_neg (by omega)]
 have : min n.toNat (IntKind.bits .u32) = n.toNat := Nat.min_eq_left (by show n.toNat ≤ 32; omega)
 rw [this, shr_w]
def four (a b c d : Nat) : Nat := ((a * 256 + b) * 256 + c) * 256 + d
/-! ### Bytes that are an argument -/
def natOf : AV → Nat
 | .int _ n => n.toNat
 | _ => 0
theorem Sl1.bs {h : AH} {x : AV} {cs : List AV} {e : TypeId} (hx : Sl1 h x cs) (he : ∀ (i : Nat) (c : AV), cs[i]? = some c → Ty P h e [c]) (hu : P.underlying e = some (.int .u8)) :
  ∃ l, cs = byC l ∧ Bs h x l ∧ (∀ b ∈ l, b < 256) ∧ l.length = cs.length := by
 have h1 : ∀ c ∈ cs, ∃ n : Nat, c = .int .u8 (n : Int) ∧ n < 256 := by
  intro c hc
  obtain ⟨i, hi⟩ := List.mem_iff_getElem?.1 hc
  obtain ⟨n, hn, h2, h3⟩ := (he i c hi).int_inv hu
  have h2' : (0 : Int) ≤ n := h2
  have h3' : n ≤ 255 := h3
  exact ⟨n.toNat, by cases hn; rw [Int.toNat_of_nonneg h2'], by omega⟩
 have h2 : cs = byC (cs.map natOf) := by
  unfold byC
  rw [List.map_map]
  have : cs.map ((fun (b : Nat) => AV.int .u8 (b : Int)) ∘ natOf) = cs.map id := List.map_congr_left fun c hc => by
   obtain ⟨n, rfl, _⟩ := h1 c hc
   simp [natOf]
  rw [this, List.map_id]
 refine ⟨cs.map natOf, h2, ?_, fun b hb => ?_, by simp⟩
 ·rcases hx with ⟨rfl, rfl⟩ | ⟨id, rfl, hg, hid⟩
  ·exact .inl ⟨rfl, rfl⟩
  ·refine .inr ⟨id, 0, none, cs, false, false, by simp, hg, hid, by simp, (fun k hk => by cases hk), ?_⟩
   rw [List.drop_zero, List.length_map, List.take_length]
   exact h2
 ·obtain ⟨c, hc, rfl⟩ := List.mem_map.1 hb
  obtain ⟨n, rfl, hn⟩ := h1 c hc
  simpa [natOf] using hn

end
attribute [go_sem high] binA_add32 binA_xor32 binA_and32 binA_or32 unA_not32 binA_shl32 binA_shr32
end Go.Abs
end

section
namespace Go.Abs
open Go
set_option linter.unusedVariables false
set_option linter.unusedSimpArgs false

section
variable {P : Program} {S : Sums}

def rndE (l : Nat) (Q : AV → AH → Prop) (ex : Ex) (s : St) : Prop :=
 ∃ st pend fn t n ps a b d, s.h.get l = some (.loop st pend fn t n ps a b d) ∧ match ex with
  | .normal => Q (.bool true) (s.h.put l (.loop .ready none fn t n ps a b d))
  | .ret => Q (.bool false) (s.h.put l (.loop .done (some .ret) fn t n ps a b d))
  | .exit id => Q (.bool false) (s.h.put l (.loop .done (some (.exit id)) fn t n ps a b d))
def rndB (P : Program) (S : Sums) (l fn n : Nat) (body : Code) (Q : AV → AH → Prop) (ex : Ex) (s : St) : Prop :=
 ex = .normal ∧ ∃ pend fn1 t1 n1 ps1 a1 b1 d1, s.h.get l = some (.loop .ready pend fn1 t1 n1 ps1 a1 b1 d1) ∧
  syC P S (some l) fn n body { t := s.t, h := s.h.put l (.loop .busy pend fn1 t1 n1 ps1 a1 b1 d1), d := s.d } (rndE l Q)

theorem RnR.enter {l : Nat} {args : List AV} {h : AH} {Q : AV → AH → Prop} {st : LoopState} {pend : Option Code} {fn n d : Nat} {t t' : Env} {ps : Array Tmp} {assign body : Code} (hg : h.get l = some (.loop st pend fn t n ps assign body d))
  (ht : setArgs ps.toList args n t = some t') (hw : syC P S (some l) fn n assign { t := t', h, d := [] } (rndB P S l fn n body Q)) : RnR P S l args h Q := by
 obtain ⟨k1, ex, s1, e1, rfl, pend1, fn1, t1, n1, ps1, a1, b1, d1, hg1, hw1⟩ := syC_sound hw
 obtain ⟨k2, ex2, s2, e2, st2, pend2, fn2, t2, n2, ps2, a2, b2, d2, hg2, hq⟩ := syC_sound hw1
 have h1 : evCode P (evN P S (max k1 k2)) (some l) fn n assign { t := t', h, d := [] } = some (.normal, s1) := evCode_mono (evN_mono (Nat.le_max_left k1 k2)) e1
 have h2 : evCode P (evN P S (max k1 k2)) (some l) fn n body { s1 with h := s1.h.put l (.loop .busy pend1 fn1 t1 n1 ps1 a1 b1 d1) } = some (ex2, s2) := evCode_mono (evN_mono (Nat.le_max_right k1 k2)) e2
 refine ⟨max k1 k2 + 1, ?_⟩
 show ∃ v h', evRound P (evN P S (max k1 k2)) l args h = some (v, h') ∧ Q v h'
 unfold evRound
 rw [hg]
 simp only
 rw [ht]
 simp only
 rw [h1]
 simp only
 rw [hg1]
 simp only
 rw [h2]
 simp only
 rw [hg2]
 cases ex2 with
 | normal => exact ⟨_, _, rfl, hq⟩
 | ret => exact ⟨_, _, rfl, hq⟩
 | exit i => exact ⟨_, _, rfl, hq⟩

def Bo (n0 : Nat) (h : AH) (v : AV) (l : List Nat) : Prop :=
 ∃ id c cs tx, v = .sl id 0 l.length 1 c ∧ h.get id = some (.cells cs true tx) ∧ id < h.nx ∧ n0 ≤ id ∧ cs.take l.length = byC l ∧ l.length ≤ cs.length ∧ (c = none ∨ c = some l.length)
theorem Bo.bs {n0 : Nat} {h : AH} {v : AV} {l : List Nat} (hb : Bo n0 h v l) : Bs h v l := by
 obtain ⟨id, c, cs, tx, h1, h2, h3, h4, h5, h6, h7⟩ := hb
 refine .inr ⟨id, 0, c, cs, true, tx, h1, h2, h3, by omega, fun k hk => ?_, by rw [List.drop_zero]; exact h5⟩
 rcases h7 with rfl | rfl
 ·cases hk
 ·cases hk; exact Nat.le_refl _
theorem Bo.fr {n0 : Nat} {h h' : AH} {v : AV} {l : List Nat} (hb : Bo n0 h v l) (hf : Fr h h') : Bo n0 h' v l := by
 obtain ⟨id, c, cs, tx, h1, h2, h3, h4, h5⟩ := hb
 exact ⟨id, c, cs, tx, h1, (hf.get id h3).trans h2, Nat.lt_of_lt_of_le h3 hf.nx, h4, h5⟩
theorem Bo.one {v : AV} {l : List Nat} {n0 : Nat} {h : AH} (hb : Bo n0 h v l) : oneA v = true := by
 obtain ⟨id, c, cs, tx, rfl, _⟩ := hb
 rfl

theorem Bo.app {h0 h : AH} {v x : AV} {l m : List Nat} {st e : TypeId} (hu : P.underlying st = some (.slice e)) (hi : appI P e = some (1, 1)) (hb : Bo h0.nx h v l) (hx : Bs h x m) (hf : Fr h0 h) (hl : l.length + m.length ≤ 274877906944) :
  ∃ v' h', evAppend P h #[st, st] v x = some (.val v' h') ∧ Fr h0 h' ∧ Bo h0.nx h' v' (l ++ m) := by
 obtain ⟨hn, hnew⟩ := hx.first
 obtain ⟨id, c, cs, tx, rfl, h2, h3, h4, h5, h6, h7⟩ := hb
 have hold : firstA h 1 l.length (.sl id 0 l.length 1 c) = some (byC l) := by
  rw [firstA_sl h2 (Nat.le_refl _) (by omega), List.drop_zero, Nat.mul_one, h5]
 rw [evAppend_eq hu hu rfl hi hn hnew rfl hold (byC_all m) (by omega) (by omega) rfl]
 by_cases hm : m.length = 0
 ·rw [if_pos hm]
  have : m = [] := List.length_eq_zero_iff.1 hm
  subst this
  exact ⟨_, _, rfl, hf, id, c, cs, tx, by simp, h2, h3, h4, by simpa using h5, by simpa using h6, by simpa using h7⟩
 ·rw [if_neg hm]
  have hlm : (l ++ m).length = l.length + m.length := by simp
  have hby : byC l ++ byC m = byC (l ++ m) := by simp [byC]
  have fin : ∀ (g : AH) (tf : Bool), Fr h0 g → g.nx = h.nx → ∃ v' h', newCells g (byC l ++ byC m) tf (fun id => .sl id 0 (l.length + m.length) 1 none) = some (.val v' h') ∧ Fr h0 h' ∧ Bo h0.nx h' v' (l ++ m) := fun g tf hg hgn =>
   ⟨_, _, rfl, hg.news _, g.nx, none, byC l ++ byC m, tf, by rw [hlm], AH.get_new_eq rfl, Nat.lt_succ_self _, hg.nx, by rw [hby, ← byC_length (l ++ m), List.take_length], by rw [hby, byC_length]; exact Nat.le_refl _, .inl rfl⟩
  rcases h7 with rfl | rfl
  ·simp only
   rw [if_pos (by simp [ownBlock, h2])]
   exact fin _ _ (hf.del h4) rfl
  ·simp only
   rw [if_pos (by omega)]
   exact fin _ _ hf rfl

end
end Go.Abs
end

section
namespace Go.Abs
open Go
set_option linter.unusedVariables false
set_option linter.unusedSimpArgs false

section
variable {P : Program} {S : Sums}

theorem syPut_mono {n : Nat} {t : Env} {dst : Option Tmp} {v : AV} {A B : Env → Prop} (hab : ∀ t', A t' → B t') (hx : syPut n t dst v A) : syPut n t dst v B := by
 unfold syPut at hx ⊢
 split
 ·rename_i hd; exact hab _ hx
 ·exact ⟨hx.1, hab _ hx.2⟩
theorem bnd_mono {α : Type} {ov : Option α} {A B : α → Prop} {u : Blk A} {w : Blk B} (hab : ∀ v, A v → B v) (hx : bnd ov A u) : bnd ov B w := let ⟨a, h1, h2⟩ := hx; ⟨a, h1, hab a h2⟩
theorem resK_mono {h : AH} {A B : AV → AH → Prop} (hab : ∀ v h', A v h' → B v h') : ∀ {r : ORes}, resK P S h A r → resK P S h B r := by
 intro r h2
 cases r with
 | val v h' => exact hab _ _ h2
 | skip h' => exact hab _ _ h2
 | call f args => exact RnC.mono h2 hab
 | yield id args => exact RnR.mono h2 hab
theorem syO_mono {E : Operand → AV} {op : Op} {h : AH} {A B : AV → AH → Prop} (hab : ∀ v h', A v h' → B v h') (hx : syO P S E op h A) : syO P S E op h B := by
 unfold syO at hx ⊢
 split at hx
 ·exact hab _ _ hx
 ·exact hab _ _ hx
 ·obtain ⟨tt, h1, h2, h3⟩ := hx; exact ⟨tt, h1, fun e => hab _ _ (h2 e), fun e => hab _ _ (h3 e)⟩
 ·exact bnd_mono (fun _ => hab _ _) hx
 ·exact bnd_mono (fun _ => hab _ _) hx
 ·exact bnd_mono (fun _ => hab _ _) hx
 ·exact bnd_mono (fun _ => hab _ _) hx
 ·exact bnd_mono (fun _ => hab _ _) hx
 ·exact bnd_mono (fun _ => hab _ _) hx
 ·exact bnd_mono (fun _ => hab _ _) hx
 ·exact bnd_mono (fun _ => hab _ _) hx
 ·exact bnd_mono (fun _ => hab _ _) hx
 ·split at hx
  ·rename_i c _ f _
   change syV P S (E f) (c.args.toList.map E) h A at hx
   change syV P S (E f) (c.args.toList.map E) h B
   unfold syV at hx ⊢
   split at hx
   ·exact RnC.mono hx hab
   ·exact bnd_mono (fun _ => resK_mono hab) hx
   ·exact RnR.mono hx hab
   ·exact hx
  ·exact bnd_mono (fun _ => resK_mono hab) hx
 ·exact bnd_mono (fun _ => resK_mono hab) hx
theorem sy1_mono {n : Nat} {ops : Array Oper} {o : Oper} {t : Env} {h : AH} {A B : Env → AH → Prop} (hab : ∀ t' h', A t' h' → B t' h') (hx : sy1 P S n ops o t h A) : sy1 P S n ops o t h B := by
 unfold sy1 at hx ⊢
 split at hx
 ·exact syO_mono (fun v h' => syPut_mono fun t' => hab t' h') hx
 ·obtain ⟨b, h1, tt, h2, h3, h4⟩ := hx
  exact ⟨b, h1, tt, h2, fun e => syO_mono (fun v h' => syPut_mono fun t' => hab t' h') (h3 e), fun e => syPut_mono (fun t' => hab t' h) (h4 e)⟩

def valOf : Option ORes → Option AV
 | some (.val v _) => some v
 | _ => none
def ptrR (R : Nat → Prop) : AV → Prop
 | .ptr id _ => R id
 | _ => False
def mapR (R : Nat → Prop) : AV → Prop
 | .map id => R id
 | .nilmap => True
 | _ => False
theorem ptrR_ptr (R : Nat → Prop) (id off : Nat) : ptrR R (.ptr id off) = R id := rfl
theorem mapR_map (R : Nat → Prop) (id : Nat) : mapR R (.map id) = R id := rfl
theorem mapR_nil (R : Nat → Prop) : mapR R .nilmap = True := rfl
theorem valOf_val (v : AV) (h : AH) : valOf (some (.val v h)) = some v := rfl

def syLow (P : Program) (R : Nat → Prop) (E : Operand → AV) (op : Op) (h : AH) (K : AV → Prop) : Prop :=
 match op with
 | .load t a => bnd (evLoad P h t (E a)) (fun v => ptrR R (E a) ∧ sameAV 20 v v = true ∧ K v) ⟨⟩
 | .lookup t m k ok => ∃ v, (∀ g, (∀ id, R id → g.get id = h.get id) → evLookup P g t (E m) (E k) ok = some v) ∧ sameAV 20 v v = true ∧ K v
 | .convert s d x => bnd (valOf (evConvert P h s d (E x))) (fun v => (∀ g, (∀ id, R id → g.get id = h.get id) → valOf (evConvert P g s d (E x)) = some v) ∧ sameAV 20 v v = true ∧ K v) ⟨⟩
 | op => bnd (valOf (evOper P E { dst := none, op, type := 0, pos := "", after := #[], guard := none } h)) (fun v => (∀ g, valOf (evOper P E { dst := none, op, type := 0, pos := "", after := #[], guard := none } g) = some v) ∧ sameAV 20 v v = true ∧ K v) ⟨⟩

theorem valOf_some {o : Option ORes} {v : AV} (h : valOf o = some v) : ∃ h', o = some (.val v h') := by
 unfold valOf at h
 split at h
 ·cases h; exact ⟨_, rfl⟩
 ·cases h

def Low (P : Program) (R : Nat → Prop) (E : Operand → AV) (o : Oper) (h : AH) (v : AV) : Prop := ∀ g, (∀ id, R id → g.get id = h.get id) → evOper P E o g = some (.val v g)

theorem evLoad_keep {R : Nat → Prop} {h g : AH} {t : TypeId} {x : AV} (hx : ptrR R x) (hg : ∀ id, R id → g.get id = h.get id) : evLoad P g t x = evLoad P h t x := by
 cases x <;> first | exact hx.elim | skip
 rename_i id off
 have h1 := hg id hx
 simp only [evLoad, h1]
theorem syLow_ok {R : Nat → Prop} {E : Operand → AV} {o : Oper} {h : AH} {K : AV → Prop} (hc : clsOf P o.op = 1) (hx : syLow P R E o.op h K) : ∃ v, Low P R E o h v ∧ sameAV 20 v v = true ∧ K v := by
 obtain ⟨dst, op, ty, pos, after, guard⟩ := o
 simp only at hc hx
 unfold syLow at hx
 split at hx
 ·rename_i t a
  obtain ⟨v, h1, h2, h3, h4⟩ := hx
  refine ⟨v, fun g hg => ?_, h3, h4⟩
  simp only [evOper, evLoad_keep (P := P) (t := t) h2 hg, h1, val?]
 ·rename_i t m k ok
  obtain ⟨v, h1, h3, h4⟩ := hx
  refine ⟨v, fun g hg => ?_, h3, h4⟩
  simp only [evOper, h1 g hg, val?]
 ·rename_i s d x
  obtain ⟨v, h1, h2, h3, h4⟩ := hx
  refine ⟨v, fun g hg => ?_, h3, h4⟩
  obtain ⟨g', hg'⟩ := valOf_some (h2 g hg)
  have hg2 : evOper P E { dst := dst, op := .convert s d x, type := ty, pos := pos, after := after, guard := guard } g = some (.val v g') := by
   rw [← hg']
   rfl
  obtain ⟨u, hu⟩ := evOper_read (P := P) (by simpa using Nat.le_of_eq hc) hg2
  cases hu
  exact hg2
 ·obtain ⟨v, h1, h2, h3, h4⟩ := hx
  refine ⟨v, fun g hg => ?_, h3, h4⟩
  obtain ⟨g', hg'⟩ := valOf_some (h2 g)
  obtain ⟨u, hu⟩ := evOper_read (P := P) (by simpa using Nat.le_of_eq hc) hg'
  cases hu
  exact hg'

/-! ### The walk -/
def clsK4 (c : Nat) (A B C D : Prop) (_ : Blk A) (_ : Blk B) (_ : Blk C) (_ : Blk D) : Prop :=
 match c with
 | 2 => A
 | 3 => B
 | 1 => C
 | _ => D
theorem clsK4_0 (A B C D : Prop) (u : Blk A) (v : Blk B) (w : Blk C) (x : Blk D) : clsK4 0 A B C D u v w x = D := rfl
theorem clsK4_1 (A B C D : Prop) (u : Blk A) (v : Blk B) (w : Blk C) (x : Blk D) : clsK4 1 A B C D u v w x = C := rfl
theorem clsK4_2 (A B C D : Prop) (u : Blk A) (v : Blk B) (w : Blk C) (x : Blk D) : clsK4 2 A B C D u v w x = A := rfl
theorem clsK4_3 (A B C D : Prop) (u : Blk A) (v : Blk B) (w : Blk C) (x : Blk D) : clsK4 3 A B C D u v w x = B := rfl
def syDSK (P : Program) (S : Sums) (R : Nat → Prop) (n : Nat) (ops : Array Oper) (base i : Nat) (o : Oper) (t : Env) (h : AH) (pend : List (Nat × AO)) (K : Env → AH → List (Nat × AO) → Prop) : Prop :=
 clsK4 (clsOf P o.op)
  (bnd (wantedA ops t o) (fun b => ifB (.bool b)
   (bnd (allocA P (opnd t) o.op) (fun x => syPut n t o.dst (x.2 (base + i)) fun t' => K t' h (pend ++ [(base + i, x.1)])) ⟨⟩)
   (syPut n t o.dst (.tup []) fun t' => K t' h pend) ⟨⟩ ⟨⟩) ⟨⟩)
  (sy1 P S n ops o t (absorb pend h) fun t' h' => (∀ id, R id → h'.get id = h.get id) ∧ K t' h' [])
  (bnd (wantedA ops t o) (fun b => ifB (.bool b) (syLow P R (opnd t) o.op h fun v => syPut n t o.dst v fun t' => K t' h pend) (syPut n t o.dst (.tup []) fun t' => K t' h pend) ⟨⟩ ⟨⟩) ⟨⟩)
  (sy1 P S n ops o t h fun t' _ => K t' h pend) ⟨⟩ ⟨⟩ ⟨⟩ ⟨⟩

def syGoK (P : Program) (S : Sums) (R : Nat → Prop) (n : Nat) (ops : Array Oper) (base : Nat) : List Oper → Nat → Env → AH → List (Nat × AO) → (Env → AH → Prop) → Prop
 | [], _, t, h, pend, K => K t (absorb pend h)
 | o :: r, i, t, h, pend, K => syDSK P S R n ops base i o t h pend fun t' h' pend' => syGoK P S R n ops base r (i + 1) t' h' pend' K

structure StepOK (P : Program) (R : Nat → Prop) (n : Nat) (ops : Array Oper) (o : Oper) (t : Env) (h : AH) (t' : Env) (h' : AH) : Prop where
 keep : ∀ id, R id → h'.get id = h.get id
 low : clsOf P o.op = 1 → ∀ (Rc : Rec) g, (∀ id, R id → g.get id = h.get id) → ∃ t2, evOp1 P Rc n ops o (restr t (o.looksAt ops) .nil) g = some (t2, g) ∧ ∀ d, o.dst = some d → ∃ a b, t2.get d = some a ∧ t'.get d = some b ∧ sameAV 20 a b = true

theorem putA_some {n : Nat} {t t' : Env} {dst : Option Tmp} {v : AV} (hp : putA n t dst v = some t') : ∀ d, dst = some d → t'.get d = some v := by
 intro d hd
 subst hd
 simp only [putA] at hp
 split at hp
 ·cases hp; rw [Tr.get_set, if_pos rfl]
 ·cases hp

theorem low_step {R : Nat → Prop} {n : Nat} {ops : Array Oper} {o : Oper} {t t' : Env} {h : AH} {v : AV} (hs : sameAV 20 v v = true) (hp : putA n t o.dst v = some t')
  (hev : ∀ (Rc : Rec) g, (∀ id, R id → g.get id = h.get id) → evOp1 P Rc n ops o t g = some (t', g)) : StepOK P R n ops o t h t' h := by
 refine ⟨fun _ _ => rfl, fun _ Rc g hg => ?_⟩
 obtain ⟨t1, h1, h2⟩ := evOp1_draw (hev Rc g hg)
 refine ⟨t1, h1, fun d hd => ⟨v, v, ?_, putA_some hp d hd, hs⟩⟩
 have h3 := congrArg (fun e => Tr.get e d) h2
 have h4 : t'.get d = some v := putA_some hp d hd
 simp only [backA, hd, Tr.get_set, if_true] at h3
 rw [h3]; exact h4

theorem syO_of_val {E : Operand → AV} {o : Oper} {h : AH} {v : AV} {K : AV → AH → Prop} (hc : clsOf P o.op = 1) (he : evOper P E o h = some (.val v h)) (hk : K v h) : syO P S E o.op h K := by
 obtain ⟨dst, op, ty, pos, after, guard⟩ := o
 cases op <;> simp only [clsOf] at hc <;> (first | (exact absurd hc (by decide)) | skip)
 case load => obtain ⟨u, h1, h2⟩ := val?_spec he; cases h2; exact ⟨_, h1, hk⟩
 case lookup => obtain ⟨u, h1, h2⟩ := val?_spec he; cases h2; exact ⟨_, h1, hk⟩
 case binOp => obtain ⟨u, h1, h2⟩ := val?_spec he; cases h2; exact ⟨_, h1, hk⟩
 case slice => obtain ⟨u, h1, h2⟩ := val?_spec he; cases h2; exact ⟨_, h1, hk⟩
 case convert => exact ⟨_, he, hk⟩
 case call c =>
  obtain ⟨callee, args, tys⟩ := c
  cases callee with
  | builtin b => exact ⟨_, he, hk⟩
  | invoke r nm => simp at hc
  | value f => simp at hc
theorem sy1_of {n : Nat} {ops : Array Oper} {o : Oper} {t : Env} {h : AH} {b : Bool} {K : Env → AH → Prop} (hw : wantedA ops t o = some b) (ht : b = true → syO P S (opnd t) o.op h fun v h' => syPut n t o.dst v fun t' => K t' h') (hf : b = false → syPut n t o.dst (.tup []) fun t' => K t' h) : sy1 P S n ops o t h K := by
 unfold sy1
 split
 ·rename_i hg
  have : b = true := by
   unfold wantedA at hw
   rw [hg] at hw
   cases hw; rfl
  exact ht this
 ·exact ⟨b, hw, b, rfl, ht, hf⟩

theorem syDSK_step {R : Nat → Prop} {n : Nat} {ops : Array Oper} {base i : Nat} {o : Oper} {t : Env} {h : AH} {pend : List (Nat × AO)} {K : Env → AH → List (Nat × AO) → Prop} (hw : syDSK P S R n ops base i o t h pend K) :
  syDS P S n ops base i o t h pend fun t' h' pend' => StepOK P R n ops o t h t' h' ∧ K t' h' pend' := by
 unfold syDSK clsK4 at hw
 unfold syDS clsK
 split at hw
 ·rename_i hc
  rw [hc]
  obtain ⟨b, h1, tt, h2, h3, h4⟩ := hw
  have hst : ∀ t', StepOK P R n ops o t h t' h := fun t' => ⟨fun _ _ => rfl, fun hh => by rw [hc] at hh; cases hh⟩
  exact ⟨b, h1, tt, h2, fun e => bnd_mono (fun x => syPut_mono fun t' hk => ⟨hst t', hk⟩) (h3 e), fun e => syPut_mono (fun t' hk => ⟨hst t', hk⟩) (h4 e)⟩
 ·rename_i hc
  rw [hc]
  exact sy1_mono (fun t' h' hk => ⟨⟨hk.1, fun hh => by rw [hc] at hh; cases hh⟩, hk.2⟩) hw
 ·rename_i hc
  rw [hc]
  obtain ⟨b, h1, h2⟩ := hw
  have hwant : ∀ (Rc : Rec) (g : AH) (v : AV) (t' : Env), b = true → evOper P (opnd t) o g = some (.val v g) → putA n t o.dst v = some t' → evOp1 P Rc n ops o t g = some (t', g) := fun Rc g v t' hb he hp => by
   subst hb
   rw [evOp1_eq, h1]
   simp only [he, stepR, hp, Option.map_some]
  have hskip : ∀ (Rc : Rec) (g : AH) (t' : Env), b = false → putA n t o.dst (.tup []) = some t' → evOp1 P Rc n ops o t g = some (t', g) := fun Rc g t' hb hp => by
   subst hb
   rw [evOp1_eq, h1]
   simp only [hp, Option.map_some]
  rcases ifB_bool h2 with ⟨hb, h3⟩ | ⟨hb, h3⟩
  ·obtain ⟨v, hlow, hs, hk⟩ := syLow_ok hc h3
   obtain ⟨t', hp, hk'⟩ := syPut_sound hk
   have hstep : StepOK P R n ops o t h t' h := low_step hs hp fun Rc g hg => hwant Rc g v t' hb (hlow g hg) hp
   subst hb
   have hput : syPut n t o.dst v fun t2 => StepOK P R n ops o t h t2 h ∧ K t2 h pend := by
    have : ∀ t2, putA n t o.dst v = some t2 → StepOK P R n ops o t h t2 h := fun t2 h2 => by rw [hp] at h2; cases h2; exact hstep
    unfold syPut at hk ⊢
    unfold putA at this
    split
    ·rename_i hd; rw [hd] at hk this; exact ⟨this _ rfl, hk⟩
    ·rename_i d hd; rw [hd] at hk this; exact ⟨hk.1, this _ (if_pos hk.1), hk.2⟩
   have hev := hlow h fun _ _ => rfl
   have hO := syO_of_val (S := S) (K := fun u h' => syPut n t o.dst u fun t2 => StepOK P R n ops o t h t2 h ∧ K t2 h pend) hc hev hput
   exact sy1_of h1 (fun _ => hO) (fun hf => by cases hf)
  ·obtain ⟨t', hp, hk'⟩ := syPut_sound h3
   have hstep : StepOK P R n ops o t h t' h := low_step (v := .tup []) rfl hp fun Rc g hg => hskip Rc g t' hb hp
   subst hb
   have hput : syPut n t o.dst (.tup []) fun t2 => StepOK P R n ops o t h t2 h ∧ K t2 h pend := by
    have : ∀ t2, putA n t o.dst (.tup []) = some t2 → StepOK P R n ops o t h t2 h := fun t2 h2 => by rw [hp] at h2; cases h2; exact hstep
    unfold syPut at h3 ⊢
    unfold putA at this
    split
    ·rename_i hd; rw [hd] at h3 this; exact ⟨this _ rfl, h3⟩
    ·rename_i d hd; rw [hd] at h3 this; exact ⟨h3.1, this _ (if_pos h3.1), h3.2⟩
   exact sy1_of (K := fun t2 _ => StepOK P R n ops o t h t2 h ∧ K t2 h pend) h1 (fun hf => by cases hf) (fun _ => hput)
 ·rename_i n2 n3 n1
  have hst : ∀ t', StepOK P R n ops o t h t' h := fun t' => ⟨fun _ _ => rfl, fun hh => absurd hh n1⟩
  have hres : sy1 P S n ops o t h fun t' _ => StepOK P R n ops o t h t' h ∧ K t' h pend := sy1_mono (fun t' h' hk => ⟨hst t', hk⟩) hw
  split
  ·rename_i hc; exact absurd hc n2
  ·rename_i hc; exact absurd hc n3
  ·exact hres

theorem syDS_mono {n : Nat} {ops : Array Oper} {base i : Nat} {o : Oper} {t : Env} {h : AH} {pend : List (Nat × AO)} {A B : Env → AH → List (Nat × AO) → Prop} (hab : ∀ t' h' p', A t' h' p' → B t' h' p') (hw : syDS P S n ops base i o t h pend A) : syDS P S n ops base i o t h pend B := by
 unfold syDS clsK at hw ⊢
 split at hw
 ·obtain ⟨b, h1, tt, h2, h3, h4⟩ := hw
  exact ⟨b, h1, tt, h2, fun e => bnd_mono (fun x => syPut_mono fun t' hk => hab _ _ _ hk) (h3 e), fun e => syPut_mono (fun t' hk => hab _ _ _ hk) (h4 e)⟩
 ·exact sy1_mono (fun t' h' hk => hab _ _ _ hk) hw
 ·exact sy1_mono (fun t' h' hk => hab _ _ _ hk) hw

def SS (P : Program) (R : Nat → Prop) (n : Nat) (ops : Array Oper) (ss : List DS) : Prop :=
 ∀ j o s s', ops[j]? = some o → ss[j]? = some s → ss[j + 1]? = some s' → StepOK P R n ops o s.t s.h s'.t s'.h

theorem syGoK_go {R : Nat → Prop} {n : Nat} {ops : Array Oper} {base : Nat} : ∀ {l : List Oper} {i : Nat} {t : Env} {h : AH} {pend : List (Nat × AO)} {acc : List DS} {K : Env → AH → Prop}, (∃ pre, ops.toList = pre ++ l ∧ pre.length = i) → acc.length = i →
  SS P R n ops (acc ++ [({ t := t, h := h, pend := pend } : DS)]) → syGoK P S R n ops base l i t h pend K →
  syGo P S n ops base l i t h pend acc fun ss t' h' => (SS P R n ops ss ∧ ss.length = ops.size + 1) ∧ K t' h'
 | [], i, t, h, pend, acc, K, ⟨pre, hp, hl⟩, ha, hs, hw => by
  refine ⟨⟨hs, ?_⟩, hw⟩
  have : ops.size = i := by rw [← Array.length_toList, hp]; simpa using hl
  simp [ha, this]
 | o :: r, i, t, h, pend, acc, K, ⟨pre, hp, hl⟩, ha, hs, hw => by
  refine syDS_mono (fun t' h' pend' hk => ?_) (syDSK_step hw)
  refine syGoK_go (l := r) ⟨pre ++ [o], by rw [hp]; simp, by simp [hl]⟩ (by simp [ha]) ?_ hk.2
  intro j oj s s' hoj hsj hsj'
  by_cases hj : j + 1 < acc.length + 1
  ·refine hs j oj s s' hoj ?_ ?_
   ·rw [List.getElem?_append_left (by simp; omega)] at hsj; exact hsj
   ·rw [List.getElem?_append_left (by simp; omega)] at hsj'; exact hsj'
  ·have hjl : j + 1 < ((acc ++ [({ t := t, h := h, pend := pend } : DS)]) ++ [({ t := t', h := h', pend := pend' } : DS)]).length := (List.getElem?_eq_some_iff.1 hsj').1
   simp at hjl
   have hje : j = acc.length := by omega
   subst hje
   have h1 : s = { t := t, h := h, pend := pend } := by
    rw [List.getElem?_append_left (by simp), List.getElem?_append_right (Nat.le_refl _)] at hsj
    simpa using hsj.symm
   have h2 : s' = { t := t', h := h', pend := pend' } := by
    rw [List.getElem?_append_right (by simp)] at hsj'
    simpa using hsj'.symm
   have h3 : oj = o := by
    rw [← Array.getElem?_toList, hp, ha, ← hl, List.getElem?_append_right (Nat.le_refl _)] at hoj
    simpa using hoj.symm
   subst h1; subst h2; subst h3
   exact hk.1

theorem SS.chain {R : Nat → Prop} {n : Nat} {ops : Array Oper} {ss : List DS} (hs : SS P R n ops ss) (hl : ss.length = ops.size + 1) : ∀ (b a : Nat), a ≤ b → b ≤ ops.size → ∀ sa sb, ss[a]? = some sa → ss[b]? = some sb → ∀ id, R id → sb.h.get id = sa.h.get id
 | 0, a, hab, _, sa, sb, h1, h2, id, hr => by
  obtain rfl : a = 0 := by omega
  rw [h1] at h2; cases h2; rfl
 | b + 1, a, hab, hb, sa, sb, h1, h2, id, hr => by
  by_cases he : a = b + 1
  ·subst he; rw [h1] at h2; cases h2; rfl
  ·have h3 : ss[b]? = some ss[b] := List.getElem?_eq_getElem (by omega)
   have h4 : ops[b]? = some ops[b] := Array.getElem?_eq_getElem (by omega)
   rw [(hs b _ _ _ h4 h3 h2).keep id hr]
   exact hs.chain hl b a (by omega) (by omega) sa _ h1 h3 id hr

def GoodP (P : Program) (ops : Array Oper) (p : Nat × Nat) : Prop := p.1 < p.2 ∧ ∃ oj oi, ops[p.1]? = some oj ∧ ops[p.2]? = some oi ∧ ((clsOf P oi.op = 1 ∧ clsOf P oj.op = 3) ∨ (clsOf P oi.op = 3 ∧ clsOf P oj.op = 1))

theorem pairsAt_good {o : Oper} {m i : Nat} : ∀ (l : List Oper) (j0 : Nat) (p : Nat × Nat), p ∈ pairsAt P o m i j0 l → ∃ j q, p = (j0 + j, i) ∧ l[j]? = some q ∧ ((clsOf P o.op = 1 ∧ clsOf P q.op = 3) ∨ (clsOf P o.op = 3 ∧ clsOf P q.op = 1))
 | [], j0, p, hp => by simp [pairsAt] at hp
 | q :: l, j0, p, hp => by
  have tail : p ∈ pairsAt P o m i (j0 + 1) l → ∃ j q', p = (j0 + j, i) ∧ (q :: l)[j]? = some q' ∧ ((clsOf P o.op = 1 ∧ clsOf P q'.op = 3) ∨ (clsOf P o.op = 3 ∧ clsOf P q'.op = 1)) := fun h => by
   obtain ⟨j, q', h1, h2, h3⟩ := pairsAt_good l (j0 + 1) p h
   exact ⟨j + 1, q', by rw [h1]; congr 1; omega, by simpa using h2, h3⟩
  simp only [pairsAt] at hp
  split at hp
  ·rename_i hc
   rcases List.mem_cons.1 hp with rfl | hp
   ·refine ⟨0, q, rfl, rfl, ?_⟩
    simp only [Bool.and_eq_true, Bool.or_eq_true, nat_beq_dec, decide_eq_true_eq] at hc
    exact hc.2
   ·exact tail hp
  ·exact tail hp

theorem statGo_good {ops : Array Oper} : ∀ (l : List Oper) (i : Nat) (prev : List Oper) (ms : List Nat) (acc prs : List (Nat × Nat)), prev.length = i → ops.toList = prev ++ l → (∀ p, p ∈ acc → GoodP P ops p) → statGo P ops l i prev ms acc = some prs → ∀ p, p ∈ prs → GoodP P ops p
 | [], i, prev, ms, acc, prs, _, _, ha, hs, p, hp => by simp only [statGo, Option.some.injEq] at hs; subst hs; exact ha p hp
 | o :: r, i, prev, ms, acc, prs, hl, ho, ha, hs, p, hp => by
  simp only [statGo] at hs
  split at hs
  ·cases hs
  ·rename_i m _
   split at hs
   ·refine statGo_good r (i + 1) (prev ++ [o]) _ _ prs (by simp [hl]) (by rw [ho]; simp) (fun q hq => ?_) hs p hp
    rcases List.mem_append.1 hq with hq | hq
    ·exact ha q hq
    ·obtain ⟨j, oj, h1, h2, h3⟩ := pairsAt_good prev 0 q hq
     have hj : j < prev.length := (List.getElem?_eq_some_iff.1 h2).1
     rw [Nat.zero_add] at h1
     subst h1
     refine ⟨by show j < i; omega, oj, o, ?_, ?_, h3⟩
     ·show ops[j]? = some oj
      rw [← Array.getElem?_toList, ho, List.getElem?_append_left hj]; exact h2
     ·show ops[i]? = some o
      rw [← Array.getElem?_toList, ho, ← hl, List.getElem?_append_right (Nat.le_refl _)]; simp
   ·cases hs

theorem sameAt_low {R : Nat → Prop} {Rc : Rec} {n i : Nat} {ops : Array Oper} {o : Oper} {t t' : Env} {h h' g : AH} (ho : ops[i]? = some o) (hst : StepOK P R n ops o t h t' h') (hc : clsOf P o.op = 1) (hg : ∀ id, R id → g.get id = h.get id) : sameAt P Rc n ops i t t' g = true := by
 obtain ⟨t2, h1, h2⟩ := hst.low hc Rc g hg
 unfold sameAt
 rw [ho]
 simp only [h1]
 cases hd : o.dst with
 | none => rfl
 | some d =>
  obtain ⟨a, b, h3, h4, h5⟩ := h2 d hd
  simp only [h3, h4]
  exact h5

theorem sameAll_good {R : Nat → Prop} {Rc : Rec} {n : Nat} {ops : Array Oper} {ss : List DS} (hs : SS P R n ops ss) (hl : ss.length = ops.size + 1) : ∀ (prs : List (Nat × Nat)), (∀ p, p ∈ prs → GoodP P ops p) → sameAll P Rc n ops ss prs = true
 | [], _ => rfl
 | (j, i) :: r, hg => by
  obtain ⟨hji, oj, oi, hoj, hoi, hcl⟩ := hg (j, i) (List.mem_cons_self ..)
  simp only at hji hoj hoi
  have hi : i < ops.size := (Array.getElem?_eq_some_iff.1 hoi).1
  have g1 : ss[i]? = some ss[i] := List.getElem?_eq_getElem (by omega)
  have g2 : ss[i + 1]? = some ss[i + 1] := List.getElem?_eq_getElem (by omega)
  have g3 : ss[j]? = some ss[j] := List.getElem?_eq_getElem (by omega)
  have g4 : ss[j + 1]? = some ss[j + 1] := List.getElem?_eq_getElem (by omega)
  refine sameAll_one hoi g1 g2 g3 g4 ?_ (sameAll_good hs hl r fun p hp => hg p (List.mem_cons_of_mem _ hp))
  rcases hcl with ⟨c1, c2⟩ | ⟨c1, c2⟩
  ·rw [if_pos (by rw [c1]; rfl)]
   exact sameAt_low hoi (hs i _ _ _ hoi g1 g2) c1 fun id hr => (hs.chain hl i j (by omega) (by omega) _ _ g3 g1 id hr).symm
  ·rw [if_neg (by rw [c1]; decide)]
   exact sameAt_low hoj (hs j _ _ _ hoj g3 g4) c2 fun id hr => hs.chain hl (i + 1) j (by omega) (by omega) _ _ g3 g2 id hr

theorem syGo_mono {n : Nat} {ops : Array Oper} {base : Nat} {A B : List DS → Env → AH → Prop} (hab : ∀ ss t h, A ss t h → B ss t h) : ∀ {l : List Oper} {i : Nat} {t : Env} {h : AH} {pend : List (Nat × AO)} {acc : List DS}, syGo P S n ops base l i t h pend acc A → syGo P S n ops base l i t h pend acc B
 | [], _, _, _, _, _, hw => hab _ _ _ hw
 | o :: r, i, t, h, pend, acc, hw => syDS_mono (fun _ _ _ hk => syGo_mono hab hk) hw

theorem syDraw.keep {n : Nat} {l : List Oper} {t : Env} {h : AH} {K : Env → AH → Prop} (R : Nat → Prop) (hf : P.follows .mixedOrders = true) (hs : (statGo P l.toArray l 0 [] [] []).isSome = true)
  (hw : syGoK P S R n l.toArray h.nx l 0 t { tr := h.tr, nx := h.nx + l.length } [] K) : syDraw P S n l.toArray t h K ⟨⟩ ⟨⟩ ⟨⟩ ⟨⟩ := by
 obtain ⟨prs, hp⟩ := Option.isSome_iff_exists.1 hs
 refine syDraw.go prs hf hp ?_
 have h1 := syGoK_go (P := P) (S := S) (R := R) (ops := l.toArray) (l := l) (i := 0) (acc := []) ⟨[], by simp, rfl⟩ rfl (fun j o s s' _ _ h2 => by simp at h2) hw
 refine syGo_mono (fun ss t' h' hk => ⟨?_, hk.2⟩) h1
 exact sameAll_good hk.1.1 hk.1.2 prs (statGo_good l 0 [] [] [] prs rfl (by simp) (fun p hp => by simp at hp) hp)

/-! ### Rules -/
theorem syGoK_nil (R : Nat → Prop) (n : Nat) (ops : Array Oper) (base i : Nat) (t : Env) (h : AH) (pend : List (Nat × AO)) (K : Env → AH → Prop) : syGoK P S R n ops base [] i t h pend K = K t (absorb pend h) := propext Iff.rfl
theorem syGoK_cons (R : Nat → Prop) (n : Nat) (ops : Array Oper) (base i : Nat) (o : Oper) (r : List Oper) (t : Env) (h : AH) (pend : List (Nat × AO)) (K : Env → AH → Prop) :
  syGoK P S R n ops base (o :: r) i t h pend K = syDSK P S R n ops base i o t h pend fun t' h' pend' => syGoK P S R n ops base r (i + 1) t' h' pend' K := rfl
theorem syDSK_none (R : Nat → Prop) (n : Nat) (ops : Array Oper) (base i : Nat) (dst : Option Tmp) (op : Op) (ty : TypeId) (pos : String) (after : Array Edge) (t : Env) (h : AH) (pend : List (Nat × AO)) (K : Env → AH → List (Nat × AO) → Prop) :
  syDSK P S R n ops base i { dst, op, type := ty, pos, after, guard := none } t h pend K = clsK4 (clsOf P op)
   (bnd (allocA P (opnd t) op) (fun x => syPut n t dst (x.2 (base + i)) fun t' => K t' h (pend ++ [(base + i, x.1)])) ⟨⟩)
   (syO P S (opnd t) op (absorb pend h) fun v h' => syPut n t dst v fun t' => (∀ id, R id → h'.get id = h.get id) ∧ K t' h' [])
   (syLow P R (opnd t) op h fun v => syPut n t dst v fun t' => K t' h pend)
   (syO P S (opnd t) op h fun v _ => syPut n t dst v fun t' => K t' h pend) ⟨⟩ ⟨⟩ ⟨⟩ ⟨⟩ := by
 have h1 : ∀ (c : Nat) (A A' B C C' D : Prop), A = A' → C = C' → clsK4 c A B C D ⟨⟩ ⟨⟩ ⟨⟩ ⟨⟩ = clsK4 c A' B C' D ⟨⟩ ⟨⟩ ⟨⟩ ⟨⟩ := by
  intro c A A' B C C' D e1 e2
  subst e1; subst e2
  rfl
 refine h1 _ _ _ _ _ _ _ ?_ ?_
 ·show bnd (some true) _ _ = _
  rw [bnd_some, ifB_true]
 ·show bnd (some true) _ _ = _
  rw [bnd_some, ifB_true]
theorem syDSK_some (R : Nat → Prop) (n : Nat) (ops : Array Oper) (base i : Nat) (dst : Option Tmp) (op : Op) (ty : TypeId) (pos : String) (after : Array Edge) (g : Nat × Bool) (t : Env) (h : AH) (pend : List (Nat × AO)) (K : Env → AH → List (Nat × AO) → Prop) :
  syDSK P S R n ops base i { dst, op, type := ty, pos, after, guard := some g } t h pend K = bnd (wantedA ops t { dst, op := .move (.tmp 0), type := ty, pos, after, guard := some g }) (fun b => ifB (.bool b)
   (clsK4 (clsOf P op)
    (bnd (allocA P (opnd t) op) (fun x => syPut n t dst (x.2 (base + i)) fun t' => K t' h (pend ++ [(base + i, x.1)])) ⟨⟩)
    (syO P S (opnd t) op (absorb pend h) fun v h' => syPut n t dst v fun t' => (∀ id, R id → h'.get id = h.get id) ∧ K t' h' [])
    (syLow P R (opnd t) op h fun v => syPut n t dst v fun t' => K t' h pend)
    (syO P S (opnd t) op h fun v _ => syPut n t dst v fun t' => K t' h pend) ⟨⟩ ⟨⟩ ⟨⟩ ⟨⟩)
   (clsK4 (clsOf P op)
    (syPut n t dst (.tup []) fun t' => K t' h pend)
    (syPut n t dst (.tup []) fun t' => (∀ id, R id → (absorb pend h).get id = h.get id) ∧ K t' (absorb pend h) [])
    (syPut n t dst (.tup []) fun t' => K t' h pend)
    (syPut n t dst (.tup []) fun t' => K t' h pend) ⟨⟩ ⟨⟩ ⟨⟩ ⟨⟩) ⟨⟩ ⟨⟩) ⟨⟩ := by
 unfold syDSK
 show clsK4 (clsOf P op) _ _ _ _ _ _ _ _ = _
 generalize clsOf P op = c
 rcases c with _ | _ | _ | _ | c <;> rfl
theorem syLow_load (R : Nat → Prop) (E : Operand → AV) (t : TypeId) (a : Operand) (h : AH) (K : AV → Prop) : syLow P R E (.load t a) h K = bnd (evLoad P h t (E a)) (fun v => ptrR R (E a) ∧ sameAV 20 v v = true ∧ K v) ⟨⟩ := rfl
theorem syLow_lookup (R : Nat → Prop) (E : Operand → AV) (t : TypeId) (m k : Operand) (ok : Bool) (h : AH) (K : AV → Prop) : syLow P R E (.lookup t m k ok) h K = ∃ v, (∀ g, (∀ id, R id → g.get id = h.get id) → evLookup P g t (E m) (E k) ok = some v) ∧ sameAV 20 v v = true ∧ K v := rfl
theorem syLow_call (R : Nat → Prop) (E : Operand → AV) (c : Call) (h : AH) (K : AV → Prop) : syLow P R E (.call c) h K = bnd (valOf (evCall P h E c)) (fun v => (∀ g, valOf (evCall P g E c) = some v) ∧ sameAV 20 v v = true ∧ K v) ⟨⟩ := rfl
theorem syLow_bin (R : Nat → Prop) (E : Operand → AV) (op : BinOp) (t : TypeId) (x y : Operand) (z : TypeId) (h : AH) (K : AV → Prop) : syLow P R E (.binOp op t x y z) h K = bnd (valOf (val? h (binA P h op t (E x) (E y)))) (fun v => (∀ g, valOf (val? g (binA P g op t (E x) (E y))) = some v) ∧ sameAV 20 v v = true ∧ K v) ⟨⟩ := rfl
theorem syLow_conv (R : Nat → Prop) (E : Operand → AV) (s d : TypeId) (x : Operand) (h : AH) (K : AV → Prop) : syLow P R E (.convert s d x) h K = bnd (valOf (evConvert P h s d (E x))) (fun v => (∀ g, (∀ id, R id → g.get id = h.get id) → valOf (evConvert P g s d (E x)) = some v) ∧ sameAV 20 v v = true ∧ K v) ⟨⟩ := rfl

end
attribute [go_sem ↓] syGoK_nil syGoK_cons syDSK_none syDSK_some syLow_load syLow_lookup syLow_call syLow_bin syLow_conv
attribute [go_sem] clsK4_0 clsK4_1 clsK4_2 clsK4_3 ptrR_ptr mapR_map mapR_nil valOf_val
end Go.Abs
end

section
namespace Go.Abs
open Go
set_option linter.unusedVariables false
set_option linter.unusedSimpArgs false

section
variable {P : Program} {S : Sums}

def syGoL (P : Program) (S : Sums) (R : Nat → Prop) (n : Nat) (ops : Array Oper) (base : Nat) : List Oper → Nat → Env → AH → List (Nat × AO) → (Env → AH → Prop) → Prop
 | [], _, t, h, pend, K => K t (absorb pend h)
 | [o], i, t, h, pend, K => syDS P S n ops base i o t h pend fun t' h' pend' => K t' (absorb pend' h')
 | o :: o2 :: r, i, t, h, pend, K => syDSK P S R n ops base i o t h pend fun t' h' pend' => syGoL P S R n ops base (o2 :: r) (i + 1) t' h' pend' K
def SSL (P : Program) (R : Nat → Prop) (n : Nat) (ops : Array Oper) (ss : List DS) : Prop :=
 ∀ j o s s', j + 1 < ops.size → ops[j]? = some o → ss[j]? = some s → ss[j + 1]? = some s' → StepOK P R n ops o s.t s.h s'.t s'.h

theorem SSL.chain {R : Nat → Prop} {n : Nat} {ops : Array Oper} {ss : List DS} (hs : SSL P R n ops ss) (hl : ss.length = ops.size + 1) : ∀ (b a : Nat), a ≤ b → b + 1 ≤ ops.size → ∀ sa sb, ss[a]? = some sa → ss[b]? = some sb → ∀ id, R id → sb.h.get id = sa.h.get id
 | 0, a, hab, _, sa, sb, h1, h2, id, hr => by
  obtain rfl : a = 0 := by omega
  rw [h1] at h2; cases h2; rfl
 | b + 1, a, hab, hb, sa, sb, h1, h2, id, hr => by
  by_cases he : a = b + 1
  ·subst he; rw [h1] at h2; cases h2; rfl
  ·have h3 : ss[b]? = some ss[b] := List.getElem?_eq_getElem (by omega)
   have h4 : ops[b]? = some ops[b] := Array.getElem?_eq_getElem (by omega)
   rw [(hs b _ _ _ (by omega) h4 h3 h2).keep id hr]
   exact hs.chain hl b a (by omega) (by omega) sa _ h1 h3 id hr

def lastFree (n : Nat) (o : Option (List (Nat × Nat))) : Bool := match o with
 | some prs => prs.all fun p => Nat.blt (p.2 + 1) n
 | none => false
theorem syGoL_one (R : Nat → Prop) (n : Nat) (ops : Array Oper) (base : Nat) (o : Oper) (i : Nat) (t : Env) (h : AH) (pend : List (Nat × AO)) (K : Env → AH → Prop) : syGoL P S R n ops base [o] i t h pend K = syDS P S n ops base i o t h pend fun t' h' pend' => K t' (absorb pend' h') := rfl
theorem syGoL_cons (R : Nat → Prop) (n : Nat) (ops : Array Oper) (base : Nat) (o o2 : Oper) (r : List Oper) (i : Nat) (t : Env) (h : AH) (pend : List (Nat × AO)) (K : Env → AH → Prop) : syGoL P S R n ops base (o :: o2 :: r) i t h pend K = syDSK P S R n ops base i o t h pend fun t' h' pend' => syGoL P S R n ops base (o2 :: r) (i + 1) t' h' pend' K := rfl
end
attribute [go_sem ↓] syGoL_one syGoL_cons
end Go.Abs
end

section
namespace Go.Abs
open Go
set_option linter.unusedVariables false

section
variable {P : Program}

end
end Go.Abs
end

section
namespace Go.Abs
open Go
set_option linter.unusedVariables false

section
variable {P : Program}
theorem Ty.array_inv {h : AH} {t e : TypeId} {n : Nat} {l : List AV} (hu : P.underlying t = some (.array n e)) (hx : Ty P h t l) : l.length = P.cellsOf t ∧ ∀ i, i < n → Ty P h e ((l.drop (i * P.cellsOf e)).take (P.cellsOf e)) := by
 cases hx with
 | array ht hc hf => rw [hu] at ht; cases ht; exact ⟨hc, hf⟩
 | struct ht hc hf => rw [hu] at ht; cases ht
 | bool b ht => rw [hu] at ht; cases ht
 | int n ht hw => rw [hu] at ht; cases ht
 | str s ht hs => rw [hu] at ht; cases ht
 | nilsl ht => rw [hu] at ht; cases ht
 | sl ht hg hl hc hcs => rw [hu] at ht; cases ht
theorem byC_of {cs : List AV} (h1 : ∀ c ∈ cs, ∃ n : Nat, c = .int .u8 (n : Int) ∧ n < 256) : cs = byC (cs.map natOf) ∧ ∀ b ∈ cs.map natOf, b < 256 := by
 refine ⟨?_, fun b hb => ?_⟩
 ·unfold byC
  rw [List.map_map]
  have : cs.map ((fun (b : Nat) => AV.int .u8 (b : Int)) ∘ natOf) = cs.map id := List.map_congr_left fun c hc => by
   obtain ⟨n, rfl, _⟩ := h1 c hc
   simp [natOf]
  rw [this, List.map_id]
 ·obtain ⟨c, hc, rfl⟩ := List.mem_map.1 hb
  obtain ⟨n, rfl, hn⟩ := h1 c hc
  simpa [natOf] using hn
theorem Ty.bytes {h : AH} {t e : TypeId} {n : Nat} {cs : List AV} (hu : P.underlying t = some (.array n e)) (he : P.underlying e = some (.int .u8)) (hc : P.cellsOf e = 1) (hn : P.cellsOf t = n) (hx : Ty P h t cs) : ∃ d, cs = byC d ∧ d.length = n ∧ ∀ b ∈ d, b < 256 := by
 obtain ⟨h1, h2⟩ := hx.array_inv hu
 rw [hn] at h1
 have h3 : ∀ c ∈ cs, ∃ n : Nat, c = .int .u8 (n : Int) ∧ n < 256 := by
  intro c hm
  obtain ⟨i, hi⟩ := List.mem_iff_getElem?.1 hm
  have hil := (List.getElem?_eq_some_iff.1 hi).1
  have h4 := h2 i (by omega)
  rw [hc, Nat.mul_one, List.drop_eq_getElem_cons hil] at h4
  obtain ⟨k, hk, q1, q2⟩ := h4.int_inv he
  have q1' : (0 : Int) ≤ k := q1
  have q2' : k ≤ 255 := q2
  simp only [List.take_succ_cons, List.take_zero, List.cons.injEq, and_true] at hk
  rw [List.getElem?_eq_getElem hil] at hi
  cases hi
  exact ⟨k.toNat, by rw [hk, Int.toNat_of_nonneg q1'], by omega⟩
 obtain ⟨h5, h6⟩ := byC_of h3
 exact ⟨cs.map natOf, h5, by rw [List.length_map, h1], h6⟩
theorem Ty.rows {h : AH} {t e u : TypeId} {n : Nat} {l : List AV} (hu : P.underlying t = some (.slice e)) (he : P.underlying e = some (.array n u)) (hb : P.underlying u = some (.int .u8)) (hc : P.cellsOf u = 1) (hn : P.cellsOf e = n) (hx : Ty P h t l) (hlt : ∀ id o, h.get id = some o → id < h.nx) :
  ∃ v D, l = [v] ∧ (∀ d ∈ D, d.length = n) ∧ ((v = .nilsl ∧ D = []) ∨ ∃ id cs, v = .sl id 0 D.length n none ∧ h.get id = some (.cells cs false false) ∧ id < h.nx ∧ cs.length = D.length * n ∧ ∀ (i : Nat) d, D[i]? = some d → (cs.drop (i * n)).take n = byC d) := by
 rcases hx.slice_inv hu with rfl | ⟨id, len, cs, rfl, hg, hl, hcs, hel⟩
 ·exact ⟨_, [], rfl, fun d hd => by simp at hd, .inl ⟨rfl, rfl⟩⟩
 ·rw [hn] at hcs hel ⊢
  have hrow : ∀ i, i < len → ∃ d, (cs.drop (i * n)).take n = byC d ∧ d.length = n := fun i hi => by
   obtain ⟨d, h1, h2, _⟩ := (hel i hi).bytes he hb hc hn
   exact ⟨d, h1, h2⟩
  refine ⟨_, (List.range len).map fun i => ((cs.drop (i * n)).take n).map natOf, rfl, fun d hd => ?_, .inr ⟨id, cs, by simp, hg, hlt _ _ hg, by simpa using hcs, fun i d hd => ?_⟩⟩
  ·obtain ⟨i, hi, rfl⟩ := List.mem_map.1 hd
   obtain ⟨d, h1, h2⟩ := hrow i (List.mem_range.1 hi)
   rw [h1, List.length_map, byC_length, h2]
  ·rw [List.getElem?_map] at hd
   cases hr : (List.range len)[i]? with
   | none => rw [hr] at hd; cases hd
   | some j =>
    rw [hr] at hd
    have hj : i < len ∧ j = i := by
     obtain ⟨h1, h2⟩ := List.getElem?_eq_some_iff.1 hr
     simp at h1 h2
     exact ⟨h1, h2.symm⟩
    obtain ⟨hj1, rfl⟩ := hj
    obtain ⟨d', h1, h2⟩ := hrow _ hj1
    have e : ((cs.drop (j * n)).take n).map natOf = d' := by
     rw [h1]
     unfold byC
     rw [List.map_map]
     have : d'.map (natOf ∘ fun (b : Nat) => AV.int .u8 (b : Int)) = d'.map (fun x => x) := List.map_congr_left fun c _ => by simp [natOf]
     rw [this, List.map_id']
    have hd2 : ((cs.drop (j * n)).take n).map natOf = d := Option.some.inj hd
    rw [← hd2, e, h1]
end
end Go.Abs
end

section
namespace Go.Abs
open Go
set_option linter.unusedVariables false

section
variable {P : Program}
abbrev Ent := List (List Nat × AV)
def enS (E : Ent) : List (AV × AV) := E.map fun e => (.str e.1, e.2)
def valS {α : Type} : List (List Nat × α) → List Nat → Option α
 | [], _ => none
 | e :: r, k => if e.1 = k then some e.2 else valS r k
def fndS {α : Type} : List (List Nat × α) → List Nat → Nat → Option (Nat × α)
 | [], _, _ => none
 | e :: r, k, i => if e.1 = k then some (i, e.2) else fndS r k (i + 1)
def updS {α : Type} : List (List Nat × α) → List Nat → α → List (List Nat × α)
 | [], k, v => [(k, v)]
 | e :: r, k, v => if e.1 = k then (k, v) :: r else e :: updS r k v
def delS {α : Type} : List (List Nat × α) → List Nat → List (List Nat × α)
 | [], _ => []
 | e :: r, k => if e.1 = k then r else e :: delS r k
def onceS {α : Type} : List (List Nat × α) → Prop
 | [] => True
 | e :: r => valS r e.1 = none ∧ onceS r
theorem fndS_val {α : Type} : ∀ (E : List (List Nat × α)) (k : List Nat) (i : Nat), (fndS E k i).map (·.2) = valS E k
 | [], _, _ => rfl
 | e :: r, k, i => by
  unfold fndS valS
  by_cases h : e.1 = k
  ·rw [if_pos h, if_pos h]; rfl
  ·rw [if_neg h, if_neg h]; exact fndS_val r k (i + 1)
theorem valS_upd {α : Type} : ∀ (E : List (List Nat × α)) (k j : List Nat) (v : α), valS (updS E k v) j = if j = k then some v else valS E j
 | [], k, j, v => by
  unfold updS valS valS
  by_cases h : j = k
  ·simp [h]
  ·simp [h, Ne.symm h]
 | e :: r, k, j, v => by
  unfold updS
  by_cases h : e.1 = k
  ·rw [if_pos h]
   unfold valS
   by_cases hj : j = k
   ·simp [hj]
   ·have : ¬ k = j := fun hh => hj hh.symm
    have h2 : ¬ e.1 = j := fun hh => hj (hh.symm.trans h)
    rw [if_neg this, if_neg hj, if_neg h2]
  ·rw [if_neg h]
   unfold valS
   rw [valS_upd r k j v]
   by_cases hj : j = k
   ·subst hj; simp [h]
   ·rw [if_neg hj, if_neg hj]
theorem valS_del {α : Type} : ∀ (E : List (List Nat × α)), onceS E → ∀ (k j : List Nat), valS (delS E k) j = if j = k then none else valS E j
 | [], _, k, j => by
  unfold delS valS
  simp
 | e :: r, ho, k, j => by
  obtain ⟨h1, h2⟩ := ho
  unfold delS
  by_cases h : e.1 = k
  ·rw [if_pos h]
   by_cases hj : j = k
   ·rw [if_pos hj, hj, ← h, h1]
   ·rw [if_neg hj]
    have h3 : ¬ e.1 = j := fun hh => hj (hh.symm.trans h)
    conv => rhs; unfold valS
    rw [if_neg h3]
  ·rw [if_neg h]
   unfold valS
   rw [valS_del r h2 k j]
   by_cases hj : j = k
   ·subst hj; simp [h]
   ·rw [if_neg hj, if_neg hj]
theorem onceS_upd {α : Type} : ∀ (E : List (List Nat × α)) (k : List Nat) (v : α), onceS E → onceS (updS E k v)
 | [], k, v, _ => ⟨rfl, trivial⟩
 | e :: r, k, v, ⟨h1, h2⟩ => by
  unfold updS
  by_cases h : e.1 = k
  ·rw [if_pos h]
   exact ⟨by rw [← h]; exact h1, h2⟩
  ·rw [if_neg h]
   exact ⟨by rw [valS_upd, if_neg h]; exact h1, onceS_upd r k v h2⟩
theorem onceS_del {α : Type} : ∀ (E : List (List Nat × α)) (k : List Nat), onceS E → onceS (delS E k)
 | [], k, _ => trivial
 | e :: r, k, ⟨h1, h2⟩ => by
  unfold delS
  by_cases h : e.1 = k
  ·rw [if_pos h]; exact h2
  ·rw [if_neg h]
   refine ⟨?_, onceS_del r k h2⟩
   rw [valS_del r h2]
   split
   ·rfl
   ·exact h1
theorem eqSs {kt : TypeId} (hk : P.underlying kt = some .string) (h : AH) (a b : List Nat) : eqA P h 12 kt (.str a) (.str b) = some (decide (a = b)) := by
 show eqA P h (11 + 1) kt _ _ = _
 unfold eqA
 rw [hk]
 simp only [eqL_eq]
theorem find_enS {kt : TypeId} (hk : P.underlying kt = some .string) (h : AH) (k : List Nat) : ∀ (E : Ent) (i : Nat), findA P h kt (.str k) (enS E) i = some ((fndS E k i).map fun x => (x.1, .str k, x.2))
 | [], _ => rfl
 | e :: r, i => by
  show findA P h kt (.str k) ((.str e.1, e.2) :: enS r) i = _
  unfold findA fndS
  simp only [eqSs hk, Option.bind_eq_bind, Option.bind_some]
  by_cases hx : e.1 = k
  ·rw [if_pos hx, if_pos (by simp [hx]), hx]; rfl
  ·rw [if_neg hx, if_neg (by simpa using fun hh => hx hh.symm)]
   exact find_enS hk h k r (i + 1)
theorem fndS_some : ∀ (E : Ent) (k : List Nat) (i p : Nat) (w v : AV), fndS E k i = some (p, w) → i ≤ p ∧ setNth (.str k, v) (enS E) (p - i) = enS (updS E k v) ∧ eraseNth (enS E) (p - i) = enS (delS E k)
 | [], _, _, _, _, _, h => by cases h
 | e :: r, k, i, p, w, v, h => by
  unfold fndS at h
  by_cases hk : e.1 = k
  ·rw [if_pos hk] at h
   cases h
   refine ⟨Nat.le_refl _, ?_, ?_⟩
   ·unfold updS
    rw [if_pos hk, Nat.sub_self]
    rfl
   ·unfold delS
    rw [if_pos hk, Nat.sub_self]
    rfl
  ·rw [if_neg hk] at h
   obtain ⟨h1, h2, h3⟩ := fndS_some r k (i + 1) p w v h
   obtain ⟨q, hq⟩ : ∃ q, p - i = q + 1 := ⟨p - i - 1, by omega⟩
   have hq2 : p - (i + 1) = q := by omega
   rw [hq]
   rw [hq2] at h2 h3
   refine ⟨by omega, ?_, ?_⟩
   ·unfold updS
    rw [if_neg hk]
    show (_ :: setNth (.str k, v) (enS r) q) = _ :: _
    rw [h2]
    rfl
   ·unfold delS
    rw [if_neg hk]
    show (_ :: eraseNth (enS r) q) = _ :: _
    rw [h3]
    rfl
theorem fndS_none : ∀ (E : Ent) (k : List Nat) (i : Nat) (v : AV), fndS E k i = none → enS E ++ [(.str k, v)] = enS (updS E k v) ∧ diffAll (.str k) (enS E) = true ∧ delS E k = E
 | [], _, _, _, _ => ⟨rfl, rfl, rfl⟩
 | e :: r, k, i, v, h => by
  unfold fndS at h
  by_cases hk : e.1 = k
  ·rw [if_pos hk] at h; cases h
  ·rw [if_neg hk] at h
   obtain ⟨h1, h2, h3⟩ := fndS_none r k (i + 1) v h
   unfold updS delS
   rw [if_neg hk, if_neg hk]
   refine ⟨?_, ?_, by rw [h3]⟩
   ·show _ :: (enS r ++ _) = _ :: _
    rw [h1]; rfl
   ·show (diffSimple (.str e.1) (.str k) && diffAll (.str k) (enS r)) = true
    rw [h2]
    simp [diffSimple, diffScalar, eqL_eq, hk]
theorem chkS {kt : TypeId} (hk : P.underlying kt = some .string) (k : List Nat) : checkA P 12 kt (.str k) = true := by
 show checkA P (11 + 1) kt _ = true
 unfold checkA
 rw [hk]
theorem lookS {t kt et : TypeId} (ht : P.underlying t = some (.map kt et)) (hk : P.underlying kt = some .string) {z : AV} (hz : (tzero P et).map toAV = some z) {h : AH} {m : Nat} {E : Ent} {bs : List Nat} {ck : Nat} (hm : h.get m = some (.map (enS E) bs ck)) (k : List Nat) :
  evLookup P h t (.map m) (.str k) false = some ((valS E k).getD z) ∧ evLookup P h t (.map m) (.str k) true = some (.tup [(valS E k).getD z, .bool (valS E k).isSome]) := by
 rw [← fndS_val E k 0]
 obtain ⟨y, hy, hy2⟩ : ∃ y, tzero P et = some y ∧ toAV y = z := by
  cases hh : tzero P et with
  | none => rw [hh] at hz; cases hz
  | some y => rw [hh] at hz; exact ⟨y, rfl, Option.some.inj hz⟩
 unfold evLookup
 simp only [ht, chkS hk, Bool.not_true, hm, Option.bind_eq_bind, Option.bind_some, find_enS hk]
 cases hf : fndS E k 0 with
 | none => simp [lookRes, hy, hy2]
 | some x => simp [lookRes]
theorem setS {t kt et : TypeId} (ht : P.underlying t = some (.map kt et)) (hk : P.underlying kt = some .string) {h : AH} {m : Nat} {E : Ent} {bs : List Nat} {ck : Nat} (hm : h.get m = some (.map (enS E) bs ck)) (k : List Nat) (v : AV) :
  ∃ bs' ck', evMapUpdate P h t (.map m) (.str k) v = some (.skip (h.put m (.map (enS (updS E k v)) bs' ck'))) := by
 unfold evMapUpdate
 have hs : simpleA (.str k) = true := rfl
 have hss : sameSimple (.str k) (.str k) = true := by simp [sameSimple, sameScalar, eqL_eq]
 simp only [ht, chkS hk, hs, Bool.not_true, Bool.or_false, hm, Option.bind_eq_bind, Option.bind_some, find_enS hk]
 cases hf : fndS E k 0 with
 | none =>
  obtain ⟨h1, h2, _⟩ := fndS_none E k 0 v hf
  exact ⟨bs ++ [ck], ck + 1, by simp [h1, h2]⟩
 | some x =>
  obtain ⟨p, w⟩ := x
  obtain ⟨h1, h2, _⟩ := fndS_some E k 0 p w v hf
  rw [Nat.sub_zero] at h2
  exact ⟨bs, ck, by simp [hs, hss, h2]⟩
theorem rmS {t kt et : TypeId} {ats : Array TypeId} (ha : ats[0]? = some t) (ht : P.underlying t = some (.map kt et)) (hk : P.underlying kt = some .string) {h : AH} {m : Nat} {E : Ent} {bs : List Nat} {ck : Nat} (hm : h.get m = some (.map (enS E) bs ck)) (k : List Nat) :
  ∃ bs' h', evDelete P h ats (.map m) (.str k) = some (.val (.tup []) h') ∧ h'.nx = h.nx ∧ h'.get m = some (.map (enS (delS E k)) bs' ck) ∧ ∀ j, j ≠ m → h'.get j = h.get j := by
 unfold evDelete
 simp only [ha, ht, chkS hk, Bool.not_true, hm, Option.bind_eq_bind, Option.bind_some, find_enS hk]
 cases hf : fndS E k 0 with
 | none =>
  obtain ⟨_, _, h3⟩ := fndS_none E k 0 .junk hf
  exact ⟨bs, h, by simp, rfl, by rw [h3]; exact hm, fun _ _ => rfl⟩
 | some x =>
  obtain ⟨p, w⟩ := x
  obtain ⟨h1, _, h2⟩ := fndS_some E k 0 p w .junk hf
  rw [Nat.sub_zero] at h2
  exact ⟨bs.eraseIdx p, h.put m (.map (enS (delS E k)) (bs.eraseIdx p) ck), by simp [h2], rfl, AH.get_put_eq rfl, fun j hj => AH.get_put_ne hj⟩
def mapS {α β : Type} (f : α → β) (E : List (List Nat × α)) : List (List Nat × β) := E.map fun e => (e.1, f e.2)
theorem mapS_val {α β : Type} (f : α → β) : ∀ (E : List (List Nat × α)) (k : List Nat), valS (mapS f E) k = (valS E k).map f
 | [], _ => rfl
 | e :: r, k => by
  show valS ((e.1, f e.2) :: mapS f r) k = _
  unfold valS
  by_cases h : e.1 = k
  ·rw [if_pos h, if_pos h]; rfl
  ·rw [if_neg h, if_neg h]; exact mapS_val f r k
theorem mapS_upd {α β : Type} (f : α → β) : ∀ (E : List (List Nat × α)) (k : List Nat) (v : α), updS (mapS f E) k (f v) = mapS f (updS E k v)
 | [], _, _ => rfl
 | e :: r, k, v => by
  show updS ((e.1, f e.2) :: mapS f r) k (f v) = _
  unfold updS
  by_cases h : e.1 = k
  ·rw [if_pos h, if_pos h]; rfl
  ·rw [if_neg h, if_neg h, mapS_upd f r k v]
   try rfl
theorem mapS_del {α β : Type} (f : α → β) : ∀ (E : List (List Nat × α)) (k : List Nat), delS (mapS f E) k = mapS f (delS E k)
 | [], _ => rfl
 | e :: r, k => by
  show delS ((e.1, f e.2) :: mapS f r) k = _
  unfold delS
  by_cases h : e.1 = k
  ·rw [if_pos h, if_pos h]
  ·rw [if_neg h, if_neg h, mapS_del f r k]
   rfl
theorem keysA_enS : ∀ (E : Ent), (∀ e ∈ E, e.1.length ≤ 1099511627776) → keysA (enS E) = some (E.map (·.1))
 | [], _ => rfl
 | e :: r, h => by
  show keysA ((.str e.1, e.2) :: enS r) = _
  unfold keysA
  rw [keysA_enS r fun x hx => h x (List.mem_cons_of_mem _ hx)]
  simp only
  rw [if_pos (h e (List.mem_cons_self ..))]
  rfl
end
end Go.Abs
end
