/- The abstract layer, part 34: rules for append, loops that are unrolled, data of arguments. -/
import Derived.Test.YticccdaomgildaaGreatDoorAbs33
namespace Go.Abs
open Go
set_option linter.unusedVariables false

section
variable {P : Program} {S : Sums}

/-- One round of a loop. -/
theorem RnL.unroll {r : Option Nat} {fn : FuncId} {n : Nat} {c : Code} {s : St} {Q : Ex → St → Prop} (hw : syC P S r fn n c s (thenK (fun s' => RnL P S r fn n c s' Q) Q)) : RnL P S r fn n c s Q := by
  obtain ⟨k1, ex, s1, e1, hw1⟩ := syC_sound hw
  cases ex with
  | normal =>
    obtain ⟨k2, ex2, s2, e2, hq⟩ := hw1
    refine ⟨max k1 k2 + 1, ex2, s2, ?_, hq⟩
    show (match evCode P (evN P S (max k1 k2)) r fn n c s with | some (.normal, s') => (evN P S (max k1 k2)).loop r fn n c s' | x => x) = some (ex2, s2)
    rw [evCode_mono (evN_mono (Nat.le_max_left k1 k2)) e1]
    exact (evN_mono (Nat.le_max_right k1 k2)).loop _ _ _ _ _ _ e2
  | exit i =>
    refine ⟨k1 + 1, _, s1, ?_, hw1⟩
    show (match evCode P (evN P S k1) r fn n c s with | some (.normal, s') => (evN P S k1).loop r fn n c s' | x => x) = some (.exit i, s1)
    rw [e1]
  | ret =>
    refine ⟨k1 + 1, _, s1, ?_, hw1⟩
    show (match evCode P (evN P S k1) r fn n c s with | some (.normal, s') => (evN P S k1).loop r fn n c s' | x => x) = some (.ret, s1)
    rw [e1]

theorem loopK_unroll {r : Option Nat} {fn n : Nat} {c : Code} {s : St} {K : Ex → St → Prop} {u : Blk c} {v : Blk s} {w : Blk K} (hw : syC P S r fn n c s (thenK (fun s' => loopK P S r fn n c s' K ⟨⟩ ⟨⟩ ⟨⟩) K)) : loopK P S r fn n c s K u v w :=
  RnL.unroll hw

theorem min2A_int (k k' : IntKind) (x y : Int) : min2A (.int k x) (.int k' y) = some (.int k (min x y)) := by
  have h : (if y < x then y else x) = min x y := by rw [Int.min_def]; split <;> split <;> omega
  simp only [min2A, h]
theorem max2A_int (k k' : IntKind) (x y : Int) : max2A (.int k x) (.int k' y) = some (.int k (max x y)) := by
  have h : (if y > x then y else x) = max x y := by rw [Int.max_def]; split <;> split <;> omega
  simp only [max2A, h]

/-- A region that draws, with its pairs. -/
theorem syDraw.go {n : Nat} {l : List Oper} {t : Env} {h : AH} {K : Env → AH → Prop} (prs : List (Nat × Nat)) (hf : P.follows .mixedOrders = true) (hs : statGo P l.toArray l 0 [] [] [] = some prs)
    (hw : syGo P S n l.toArray h.nx l 0 t { tr := h.tr, nx := h.nx + l.length } [] [] fun ss t' h' => sameAll P (evN P S 0) n l.toArray ss prs = true ∧ K t' h') : syDraw P S n l.toArray t h K ⟨⟩ ⟨⟩ ⟨⟩ ⟨⟩ :=
  ⟨hf, prs, hs, hw⟩
theorem syGo_nil (n : Nat) (ops : Array Oper) (base i : Nat) (t : Env) (h : AH) (pend : List (Nat × AO)) (acc : List DS) (K : List DS → Env → AH → Prop) : syGo P S n ops base [] i t h pend acc K = K (acc ++ [({ t := t, h := h, pend := pend } : DS)]) t (absorb pend h) := propext Iff.rfl
theorem syGo_cons (n : Nat) (ops : Array Oper) (base i : Nat) (o : Oper) (r : List Oper) (t : Env) (h : AH) (pend : List (Nat × AO)) (acc : List DS) (K : List DS → Env → AH → Prop) :
    syGo P S n ops base (o :: r) i t h pend acc K = syDS P S n ops base i o t h pend fun t' h' pend' => syGo P S n ops base r (i + 1) t' h' pend' (acc ++ [({ t := t, h := h, pend := pend } : DS)]) K := propext Iff.rfl
theorem sameAt_of {R : Rec} {n i d : Nat} {ops : Array Oper} {t t' : Env} {h : AH} {op : Op} {ty : TypeId} {pos : String} {after : Array Edge} {v v' : AV} (ho : ops[i]? = some { dst := some d, op := op, type := ty, pos := pos, after := after, guard := none }) (hn : d < n)
    (he : evOper P (opnd t) { dst := some d, op := op, type := ty, pos := pos, after := after, guard := none } h = some (.val v h)) (ht : t'.get d = some v') (hs : sameAV 20 v v' = true) : sameAt P R n ops i t t' h = true := by
  have h1 : evOp1 P R n ops { dst := some d, op := op, type := ty, pos := pos, after := after, guard := none } t h = some (t.set d (some v), h) := by
    rw [evOp1_eq, show wantedA ops t { dst := some d, op := op, type := ty, pos := pos, after := after, guard := none } = some true by simp [wantedA]]
    simp [he, stepR, putA, hn]
  obtain ⟨t1, h2, h3⟩ := evOp1_draw h1
  unfold sameAt
  rw [ho]
  simp only [h2, ht]
  have h4 : t1.get d = some v := by
    have := congrArg (fun e => Tr.get e d) h3
    simpa [backA, Tr.get_set] using this
  rw [h4]
  exact hs
/-- One pair, of which the earlier only looks. -/
theorem sameAll_one {R : Rec} {n i j : Nat} {ops : Array Oper} {ss : List DS} {r : List (Nat × Nat)} {o : Oper} {si si' sj sj' : DS} (ho : ops[i]? = some o) (h1 : ss[i]? = some si) (h2 : ss[i + 1]? = some si') (h3 : ss[j]? = some sj) (h4 : ss[j + 1]? = some sj')
    (hx : (if Nat.beq (clsOf P o.op) 1 then sameAt P R n ops i si.t si'.t sj.h else sameAt P R n ops j sj.t sj'.t si'.h) = true) (hr : sameAll P R n ops ss r = true) : sameAll P R n ops ss ((j, i) :: r) = true := by
  unfold sameAll
  simp only [ho, h1, h2, h3, h4, hx, hr, Bool.and_self]
theorem sameAll_eff {R : Rec} {n i j : Nat} {ops : Array Oper} {ss : List DS} {r : List (Nat × Nat)} (o : Oper) (si si' sj sj' : DS) (ho : ops[i]? = some o) (h1 : ss[i]? = some si) (h2 : ss[i + 1]? = some si') (h3 : ss[j]? = some sj) (h4 : ss[j + 1]? = some sj')
    (hc : Nat.beq (clsOf P o.op) 1 = false) (hx : sameAt P R n ops j sj.t sj'.t si'.h = true) (hr : sameAll P R n ops ss r = true) : sameAll P R n ops ss ((j, i) :: r) = true :=
  sameAll_one ho h1 h2 h3 h4 (by rw [hc]; exact hx) hr
theorem sameAll_low {R : Rec} {n i j : Nat} {ops : Array Oper} {ss : List DS} {r : List (Nat × Nat)} (o : Oper) (si si' sj sj' : DS) (ho : ops[i]? = some o) (h1 : ss[i]? = some si) (h2 : ss[i + 1]? = some si') (h3 : ss[j]? = some sj) (h4 : ss[j + 1]? = some sj')
    (hc : Nat.beq (clsOf P o.op) 1 = true) (hx : sameAt P R n ops i si.t si'.t sj.h = true) (hr : sameAll P R n ops ss r = true) : sameAll P R n ops ss ((j, i) :: r) = true :=
  sameAll_one ho h1 h2 h3 h4 (by rw [hc]; exact hx) hr
theorem blkK_same (id : Nat) (Q : Ex → St → Prop) (s : St) : blkK id Q (.exit id) s = Q .normal s := by
  unfold blkK
  simp
theorem blkK_other {id j : Nat} (h : j ≠ id) (Q : Ex → St → Prop) (s : St) : blkK id Q (.exit j) s = Q (.exit j) s := by
  unfold blkK
  have : Nat.beq j id = false := by rw [nat_beq_dec]; simp [h]
  simp [this]
theorem below_of {i : Int} {n : Nat} (h1 : 0 ≤ i) (h2 : i < n) : below i n = some i.toNat := by
  cases i with
  | ofNat m =>
    have : m < n := by simp only [Int.ofNat_eq_natCast] at h2; omega
    simp [below, this]
  | negSucc m => omega
theorem upTo_of {i : Int} {n : Nat} (h1 : 0 ≤ i) (h2 : i ≤ n) : upTo i n = some i.toNat := by
  cases i with
  | ofNat m =>
    have : m ≤ n := by simp only [Int.ofNat_eq_natCast] at h2; omega
    simp [upTo, this]
  | negSucc m => omega

/-! ### Appending -/
/-- The size and the bytes of an element, if its zero value is known. -/
noncomputable def appI (P : Program) (e : TypeId) : Option (Nat × Nat) := (P.info? e).bind fun i => i.zero.bind fun z => (cellsA (toAV z)).bind fun zc => if zc.length = i.size ∧ i.size ≠ 0 then some (i.size, i.bytes) else none

def notInt : TypeDesc → Bool
  | .int _ => false
  | _ => true
def notStr : AV → Bool
  | .str _ => false
  | _ => true

theorem evAppend_eq {st xt e : TypeId} {d : TypeDesc} {size bytes : Nat} (hu : P.underlying st = some (.slice e)) (hd : P.underlying xt = some d) (hni : notInt d = true) (hi : appI P e = some (size, bytes))
    {h : AH} {s x : AV} {n len : Nat} {new old : List AV} (hn : lenA x = some n) (hnew : firstA h size n x = some new) (hl : lenA s = some len) (hold : firstA h size len s = some old) (hall : new.all oneA = true)
    (hb : (2 * (len + n) + 1000) * bytes ≤ 2 ^ 40) (hb2 : len + n ≤ 2 ^ 40) (hs : notStr s = true) :
    evAppend P h #[st, xt] s x = if n = 0 then some (.val s h) else
      match s with
      | .nilsl => newCells h new false fun id => .sl id 0 n size none
      | .sl id off _ _ (some c) =>
        if c < len + n then newCells h (old ++ new) false fun id => .sl id 0 (len + n) size none
        else if ownBlock h id then newCells (h.del id) (old ++ new) (textBlock h id || !(Nat.beq off 0)) fun id => .sl id 0 (len + n) size none else none
      | .sl id off _ _ none =>
        if ownBlock h id then newCells (h.del id) (old ++ new) (textBlock h id || !(Nat.beq off 0)) fun id => .sl id 0 (len + n) size none else none
      | _ => none := by
  unfold appI at hi
  simp only [Option.bind_eq_some_iff] at hi
  obtain ⟨i, h1, z, h2, zc, h3, h4⟩ := hi
  split at h4
  · rename_i hz
    obtain ⟨hz1, hz2⟩ := hz
    cases h4
    have hap : appendedA P h i zc xt x = some (n, new) := by
      unfold appendedA
      simp only [hd, Option.bind_eq_bind, Option.bind_some]
      cases d <;> first | (cases hni; done) | simp only [hn, hnew, Option.bind_some]
    unfold evAppend
    simp only [List.getElem?_toArray, List.getElem?_cons_zero, List.getElem?_cons_succ, Option.bind_eq_bind, Option.bind_some, hu, h1, h2, h3]
    rw [if_neg (by simp [hz1, hz2])]
    simp only [hap, hl, hold, Option.bind_some]
    by_cases hn0 : n = 0
    · simp only [hn0, if_true]
      cases s <;> first | rfl | (cases hs; done)
    · simp only [hn0, if_false]
      rw [if_neg (by simp [hall]), if_neg (by simp only [Bool.or_eq_true, decide_eq_true_eq]; intro hh; rcases hh with hh | hh <;> omega)]
      rfl
  · cases h4

theorem firstA_sl {h : AH} {id off n sz k : Nat} {c : Option Nat} {cs : List AV} {o t : Bool} (hg : h.get id = some (.cells cs o t)) (hk : k ≤ n) (hl : off + k * sz ≤ cs.length) : firstA h sz k (.sl id off n sz c) = some ((cs.drop off).take (k * sz)) := by
  simp [firstA, hk, cellsAt, hg, hl]

theorem cA_bool (b : Bool) : cellsA (.bool b) = some [.bool b] := rfl
theorem cA_int (k : IntKind) (n : Int) : cellsA (.int k n) = some [.int k n] := rfl
theorem cA_str (s : List Nat) : cellsA (.str s) = some [.str s] := rfl
theorem cA_nilptr  : cellsA .nilptr = some [.nilptr] := rfl
theorem cA_ptr (i o : Nat) : cellsA (.ptr i o) = some [.ptr i o] := rfl
theorem cA_nilsl  : cellsA .nilsl = some [.nilsl] := rfl
theorem cA_sl (i o l s : Nat) (c : Option Nat) : cellsA (.sl i o l s c) = some [.sl i o l s c] := rfl
theorem cA_nilmap  : cellsA .nilmap = some [.nilmap] := rfl
theorem cA_map (i : Nat) : cellsA (.map i) = some [.map i] := rfl
theorem cA_func (fn : Fn) (a b : List AV) : cellsA (.func fn a b) = some [.func fn a b] := rfl
theorem cA_yld (i : Nat) : cellsA (.yld i) = some [.yld i] := rfl
theorem cA_nilfunc  : cellsA .nilfunc = some [.nilfunc] := rfl
theorem cA_iface (t : TypeId) (v : AV) : cellsA (.iface t v) = some [.iface t v] := rfl
theorem cA_nilif  : cellsA .nilif = some [.nilif] := rfl
theorem cA_agg (l : List AV) : cellsA (.agg l) = some l := rfl
theorem cellsA_one {v : AV} (h : oneA v = true) : cellsA v = some [v] := by cases v <;> first | rfl | (cases h; done)

/-! ### Arguments -/
theorem Ty.int_inv {h : AH} {t : TypeId} {k : IntKind} {l : List AV} (hu : P.underlying t = some (.int k)) (hx : Ty P h t l) : ∃ n, l = [.int k n] ∧ k.min ≤ n ∧ n ≤ k.max := by
  cases hx with
  | int n ht hw => rw [hu] at ht; cases ht; exact ⟨n, rfl, hw⟩
  | bool b ht => rw [hu] at ht; cases ht
  | str s ht hs => rw [hu] at ht; cases ht
  | nilsl ht => rw [hu] at ht; cases ht
  | sl ht => rw [hu] at ht; cases ht
  | struct ht => rw [hu] at ht; cases ht
  | array ht => rw [hu] at ht; cases ht
theorem Ty.bool_inv {h : AH} {t : TypeId} {l : List AV} (hu : P.underlying t = some .bool) (hx : Ty P h t l) : ∃ b, l = [.bool b] := by
  cases hx with
  | int n ht hw => rw [hu] at ht; cases ht
  | bool b ht => exact ⟨b, rfl⟩
  | str s ht hs => rw [hu] at ht; cases ht
  | nilsl ht => rw [hu] at ht; cases ht
  | sl ht => rw [hu] at ht; cases ht
  | struct ht => rw [hu] at ht; cases ht
  | array ht => rw [hu] at ht; cases ht
theorem Ty.str_inv {h : AH} {t : TypeId} {l : List AV} (hu : P.underlying t = some .string) (hx : Ty P h t l) : ∃ s : ByteArray, l = [.str (bytesOf s)] ∧ s.size ≤ maxLen := by
  cases hx with
  | int n ht hw => rw [hu] at ht; cases ht
  | bool b ht => rw [hu] at ht; cases ht
  | str s ht hs => exact ⟨s, rfl, hs⟩
  | nilsl ht => rw [hu] at ht; cases ht
  | sl ht => rw [hu] at ht; cases ht
  | struct ht => rw [hu] at ht; cases ht
  | array ht => rw [hu] at ht; cases ht
theorem Ty.slice_inv {h : AH} {t e : TypeId} {l : List AV} (hu : P.underlying t = some (.slice e)) (hx : Ty P h t l) : l = [.nilsl] ∨ ∃ id len cs, l = [.sl id 0 len (P.cellsOf e) none] ∧ h.get id = some (.cells cs false false) ∧ len ≤ maxLen ∧ cs.length = len * P.cellsOf e ∧
    ∀ i, i < len → Ty P h e ((cs.drop (i * P.cellsOf e)).take (P.cellsOf e)) := by
  cases hx with
  | int n ht hw => rw [hu] at ht; cases ht
  | bool b ht => rw [hu] at ht; cases ht
  | str s ht hs => rw [hu] at ht; cases ht
  | nilsl ht => exact .inl rfl
  | sl ht hg hl hc hcs => rw [hu] at ht; cases ht; exact .inr ⟨_, _, _, rfl, hg, hl, hc, hcs⟩
  | struct ht => rw [hu] at ht; cases ht
  | array ht => rw [hu] at ht; cases ht
theorem Ty.struct_inv {h : AH} {t : TypeId} {fs : Array Field} {l : List AV} (hu : P.underlying t = some (.struct fs)) (hx : Ty P h t l) : l.length = P.cellsOf t ∧ ∀ f, f ∈ fs.toList → Ty P h f.type ((l.drop f.offset).take (P.cellsOf f.type)) := by
  cases hx with
  | int n ht hw => rw [hu] at ht; cases ht
  | bool b ht => rw [hu] at ht; cases ht
  | str s ht hs => rw [hu] at ht; cases ht
  | nilsl ht => rw [hu] at ht; cases ht
  | sl ht => rw [hu] at ht; cases ht
  | struct ht hc hf => rw [hu] at ht; cases ht; exact ⟨hc, hf⟩
  | array ht => rw [hu] at ht; cases ht

theorem Ty.one {h : AH} {t : TypeId} {l : List AV} (hd : ∀ fs, P.underlying t ≠ some (.struct fs)) (ha : ∀ n e, P.underlying t ≠ some (.array n e)) (hx : Ty P h t l) : ∃ v, l = [v] ∧ oneA v = true := by
  cases hx with
  | int n ht hw => exact ⟨_, rfl, rfl⟩
  | bool b ht => exact ⟨_, rfl, rfl⟩
  | str s ht hs => exact ⟨_, rfl, rfl⟩
  | nilsl ht => exact ⟨_, rfl, rfl⟩
  | sl ht => exact ⟨_, rfl, rfl⟩
  | struct ht => exact absurd ht (hd _)
  | array ht => exact absurd ht (ha _ _)

/-- A slice of elements of one cell each. -/
def Sl1 (h : AH) (v : AV) (cs : List AV) : Prop := (v = .nilsl ∧ cs = []) ∨ ∃ id, v = .sl id 0 cs.length 1 none ∧ h.get id = some (.cells cs false false) ∧ id < h.nx

theorem Ty.sl1 {h : AH} {t e : TypeId} {l : List AV} (hu : P.underlying t = some (.slice e)) (hc : P.cellsOf e = 1) (hd : ∀ fs, P.underlying e ≠ some (.struct fs)) (ha : ∀ n e', P.underlying e ≠ some (.array n e')) (hx : Ty P h t l) (hlt : ∀ id o, h.get id = some o → id < h.nx) :
    ∃ v cs, l = [v] ∧ Sl1 h v cs ∧ cs.all oneA = true ∧ cs.length ≤ maxLen ∧ ∀ (i : Nat) (c : AV), cs[i]? = some c → Ty P h e [c] := by
  rcases hx.slice_inv hu with rfl | ⟨id, len, cs, rfl, hg, hl, hcs, hel⟩
  · exact ⟨_, [], rfl, .inl ⟨rfl, rfl⟩, rfl, Nat.zero_le _, fun i c hi => by simp at hi⟩
  · rw [hc] at hcs hel
    have hcs : cs.length = len := by omega
    have he : ∀ (i : Nat) (c : AV), cs[i]? = some c → Ty P h e [c] := fun i c hi => by
      have hil := (List.getElem?_eq_some_iff.1 hi).1
      have := hel i (by omega)
      rw [Nat.mul_one] at this
      have h2 : (cs.drop i).take 1 = [c] := by
        rw [List.drop_eq_getElem_cons hil, List.take_succ_cons, List.take_zero, (List.getElem?_eq_some_iff.1 hi).2]
      rwa [h2] at this
    refine ⟨_, cs, rfl, .inr ⟨id, by rw [hc, hcs], hg, hlt _ _ hg⟩, ?_, by omega, he⟩
    rw [List.all_eq_true]
    intro c hcm
    obtain ⟨i, hi⟩ := List.mem_iff_getElem?.1 hcm
    obtain ⟨v, hv, ho⟩ := (he i c hi).one hd ha
    cases hv
    exact ho

end
end Go.Abs
