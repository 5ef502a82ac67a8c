/- The abstract layer, part 32: arguments that are plain data, as objects that nobody may write. -/
import Derived.Test.YticccdaomgildaaGreatDoorAbs31
import Derived.ChangeReads
import Derived.DataReads
import Derived.ChangeArms
import Derived.OpenShut
namespace Go.Abs
open Go
set_option linter.unusedVariables false
set_option linter.unusedSimpArgs false

/-- What is known of data of a type. -/
inductive Ty (P : Program) (h : AH) : TypeId → List AV → Prop
  | bool {t : TypeId} (b : Bool) (ht : P.underlying t = some .bool) : Ty P h t [.bool b]
  | int {t : TypeId} {k : IntKind} (n : Int) (ht : P.underlying t = some (.int k)) (hw : k.min ≤ n ∧ n ≤ k.max) : Ty P h t [.int k n]
  | str {t : TypeId} (s : ByteArray) (ht : P.underlying t = some .string) (hs : s.size ≤ maxLen) : Ty P h t [.str (bytesOf s)]
  | nilsl {t e : TypeId} (ht : P.underlying t = some (.slice e)) : Ty P h t [.nilsl]
  | sl {t e : TypeId} {id len : Nat} {cs : List AV} (ht : P.underlying t = some (.slice e)) (hg : h.get id = some (.cells cs false false)) (hl : len ≤ maxLen) (hc : cs.length = len * P.cellsOf e)
      (hcs : ∀ i, i < len → Ty P h e ((cs.drop (i * P.cellsOf e)).take (P.cellsOf e))) : Ty P h t [.sl id 0 len (P.cellsOf e) none]
  | struct {t : TypeId} {fs : Array Field} {cs : List AV} (ht : P.underlying t = some (.struct fs)) (hc : cs.length = P.cellsOf t)
      (hf : ∀ f, f ∈ fs.toList → Ty P h f.type ((cs.drop f.offset).take (P.cellsOf f.type))) : Ty P h t cs
  | array {t e : TypeId} {n : Nat} {cs : List AV} (ht : P.underlying t = some (.array n e)) (hc : cs.length = P.cellsOf t)
      (hf : ∀ i, i < n → Ty P h e ((cs.drop (i * P.cellsOf e)).take (P.cellsOf e))) : Ty P h t cs

theorem Ty.mono {P : Program} {h h' : AH} (hle : ∀ id o, h.get id = some o → h'.get id = some o) {t : TypeId} {l : List AV} (hx : Ty P h t l) : Ty P h' t l := by
  induction hx with
  | bool b ht => exact .bool b ht
  | int n ht hw => exact .int n ht hw
  | str s ht hs => exact .str s ht hs
  | nilsl ht => exact .nilsl ht
  | sl ht hg hl hc hcs ih => exact .sl ht (hle _ _ hg) hl hc ih
  | struct ht hc hf ih => exact .struct ht hc ih
  | array ht hc hf ih => exact .array ht hc ih

def tileF (P : Program) : List Field → Nat → Nat → Bool
  | [], o, n => o == n
  | f :: r, o, n => f.offset == o && tileF P r (o + P.cellsOf f.type) n

theorem tileF_le {P : Program} : ∀ (l : List Field) (o n : Nat), tileF P l o n = true → o ≤ n
  | [], o, n, h => by simp only [tileF, beq_iff_eq] at h; omega
  | f :: r, o, n, h => by
    simp only [tileF, Bool.and_eq_true] at h
    have := tileF_le r _ n h.2
    omega

/-- A type of plain data. -/
def dataT (P : Program) : Nat → TypeId → Bool
  | 0, _ => false
  | k + 1, t => match P.underlying t with
    | some .bool => true
    | some (.int _) => true
    | some .string => true
    | some (.slice e) => decide (0 < P.cellsOf e) && dataT P k e
    | some (.struct fs) => tileF P fs.toList 0 (P.cellsOf t) && fs.toList.all fun f => dataT P k f.type
    | some (.array n e) => decide (n * P.cellsOf e = P.cellsOf t) && dataT P k e
    | _ => false

/-- Nobody may write what there is, and all of it may be read. -/
def AllKept (K : Kp) (w : World) : Prop := ∀ b o, w.heap[b]? = some o → K.at_ b = some o ∧ K.ro b = true

theorem VRs.app_inv {ρ : Pm} : ∀ {l : List AV} {m m' : List Value}, VRs ρ l (m ++ m') → VRs ρ (l.take m.length) m ∧ VRs ρ (l.drop m.length) m'
  | l, [], m', h => ⟨by simp; exact .nil, by simpa using h⟩
  | a :: l, v :: m, m', .cons h t => by
    have := VRs.app_inv t
    exact ⟨by simp only [List.length_cons, List.take_succ_cons]; exact .cons h this.1, by simpa using this.2⟩

theorem rel_addRO {K : Kp} {ρ : Pm} {h : AH} {w : World} (hR : Rel K ρ h w) (p : Pl) (cs : List AV) (hro : K.ro p.b = true)
    (ho : OR (fun id => if id = h.nx then some p else ρ id) p (.cells cs false false) w.heap[p.b]?) :
    Ext h.nx ρ (h.nx + 1) (fun id => if id = h.nx then some p else ρ id) ∧ Rel K (fun id => if id = h.nx then some p else ρ id) (h.new (.cells cs false false)) w := by
  have hle : ρ.le (fun id => if id = h.nx then some p else ρ id) := fun id q hq => by
    have : id ≠ h.nx := fun e => by rw [e, hR.fresh h.nx (Nat.le_refl _)] at hq; cases hq
    simp [this, hq]
  refine ⟨⟨hle, Nat.le_succ _, fun id hid => by simp [Nat.ne_of_lt hid]⟩, ⟨hR.os, hR.tape, hR.output, hR.size, hR.keep, fun id hid => ?_, fun id o hg => ?_, ?_⟩⟩
  · have h1 : h.nx + 1 ≤ id := hid
    have : id ≠ h.nx := by omega
    simp only [this, if_false]
    exact hR.fresh id (by omega)
  · rw [AH.get_new] at hg
    split at hg
    · rename_i e
      cases hg
      exact ⟨p, by simp [e], ho, (fun hh => by cases hh), fun _ => hro⟩
    · rename_i e
      obtain ⟨q, h1, h2, h3⟩ := hR.obj id o hg
      exact ⟨q, by simp [e, h1], h2.mono hle, h3⟩
  · intro i j oi oj pi pj hi hj hoi hoj h1 h2 hb
    rw [AH.get_new] at hi hj
    split at hi
    · cases hi; cases hoi
    · split at hj
      · cases hj; cases hoj
      · rename_i e1 e2
        simp only [e1, e2, if_false] at h1 h2
        exact hR.inj i j oi oj pi pj hi hj hoi hoj h1 h2 hb

/-- Where data lies, it is known. -/
structure Got (P : Program) (K : Kp) (w : World) (ρ : Pm) (h : AH) (t : TypeId) (cs : List Value) (ρ' : Pm) (h' : AH) (avs : List AV) : Prop where
  ext : Ext h.nx ρ h'.nx ρ'
  rel : Rel K ρ' h' w
  le : ∀ id o, h.get id = some o → h'.get id = some o
  vr : VRs ρ' avs cs
  ty : Ty P h' t avs

theorem lit_int_wf {k : IntKind} {n : Int} (h : (Lit.int k n).wf = true) : k.min ≤ n ∧ n ≤ k.max := by
  simpa [Lit.wf] using h

section
variable {H : Type} {enc : TypeId × Value → H} {P : Program} {K : Kp} {w : World} {k : Nat}

/-- Many in a row. -/
theorem got_many (hA : AllKept K w) {e : TypeId} {sz : Nat} (step : ∀ cs x, cs.length = sz → DataW.trod enc P w 0 (fun _ => true) true k e cs = some x → ∀ ρ h, Rel K ρ h w → ∃ ρ' h' avs, Got P K w ρ h e cs ρ' h' avs) :
    ∀ (rows : List (List Value)), (∀ cs, cs ∈ rows → cs.length = sz ∧ ∃ x, DataW.trod enc P w 0 (fun _ => true) true k e cs = some x) → ∀ ρ h, Rel K ρ h w →
      ∃ ρ' h' avs, Ext h.nx ρ h'.nx ρ' ∧ Rel K ρ' h' w ∧ (∀ id o, h.get id = some o → h'.get id = some o) ∧ VRs ρ' avs rows.flatten ∧ avs.length = rows.length * sz ∧ ∀ i, i < rows.length → Ty P h' e ((avs.drop (i * sz)).take sz)
  | [], _, ρ, h, hR => ⟨ρ, h, [], Ext.refl _ _, hR, fun _ _ h => h, by simpa using VRs.nil, by simp, fun i hi => by simp at hi⟩
  | cs :: rows, hall, ρ, h, hR => by
    obtain ⟨hl, x, hx⟩ := hall cs (List.mem_cons_self ..)
    obtain ⟨ρ1, h1, a1, g1⟩ := step cs x hl hx ρ h hR
    obtain ⟨ρ2, h2, a2, e2, r2, l2, v2, n2, t2⟩ := got_many hA step rows (fun c hc => hall c (List.mem_cons_of_mem _ hc)) ρ1 h1 g1.rel
    have hl1 : a1.length = sz := by rw [g1.vr.length, hl]
    refine ⟨ρ2, h2, a1 ++ a2, g1.ext.trans e2, r2, fun id o hg => l2 id o (g1.le id o hg), ?_, ?_, fun i hi => ?_⟩
    · simp only [List.flatten_cons]
      exact (g1.vr.mono e2.le).append v2
    · simp only [List.length_append, List.length_cons, hl1, n2, Nat.add_mul, Nat.one_mul]; omega
    · cases i with
      | zero =>
        simp only [Nat.zero_mul, List.drop_zero]
        rw [List.take_append_of_le_length (by omega), List.take_of_length_le (by omega)]
        exact g1.ty.mono l2
      | succ i =>
        have h3 := t2 i (by simpa using hi)
        rw [show (i + 1) * sz = a1.length + i * sz by rw [hl1, Nat.add_mul, Nat.one_mul]; omega, List.drop_append]
        rw [List.drop_of_length_le (by omega)]
        simpa using h3

theorem got_fields (hA : AllKept K w) {cs : List Value} (step : ∀ t cs x, dataT P k t = true → DataW.trod enc P w 0 (fun _ => true) true k t cs = some x → ∀ ρ h, Rel K ρ h w → ∃ ρ' h' avs, Got P K w ρ h t cs ρ' h' avs) :
    ∀ (fs : List Field) (o n : Nat), tileF P fs o n = true → (∀ f, f ∈ fs → dataT P k f.type = true ∧ ∃ x, DataW.trod enc P w 0 (fun _ => true) true k f.type ((cs.drop f.offset).take (P.cellsOf f.type)) = some x) →
      n = cs.length → o ≤ n → ∀ ρ h, Rel K ρ h w →
      ∃ ρ' h' avs, Ext h.nx ρ h'.nx ρ' ∧ Rel K ρ' h' w ∧ (∀ id o, h.get id = some o → h'.get id = some o) ∧ VRs ρ' avs (cs.drop o) ∧ ∀ f, f ∈ fs → o ≤ f.offset ∧ Ty P h' f.type ((avs.drop (f.offset - o)).take (P.cellsOf f.type))
  | [], o, n, ht, _, hn, hon, ρ, h, hR => by
    simp only [tileF, beq_iff_eq] at ht
    subst ht
    subst hn
    exact ⟨ρ, h, [], Ext.refl _ _, hR, fun _ _ h => h, by rw [List.drop_of_length_le (Nat.le_refl _)]; exact .nil, fun f hf => by simp at hf⟩
  | f :: fs, o, n, ht, hall, hn, hon, ρ, h, hR => by
    simp only [tileF, Bool.and_eq_true, beq_iff_eq] at ht
    obtain ⟨ho, ht⟩ := ht
    obtain ⟨hd, x, hx⟩ := hall f (List.mem_cons_self ..)
    have hfit := tileF_le fs _ _ ht
    obtain ⟨ρ1, h1, a1, g1⟩ := step _ _ _ hd hx ρ h hR
    have hl1 : a1.length = P.cellsOf f.type := by rw [g1.vr.length]; simp; omega
    obtain ⟨ρ2, h2, a2, e2, r2, l2, v2, t2⟩ := got_fields hA step fs (o + P.cellsOf f.type) n ht (fun g hg => hall g (List.mem_cons_of_mem _ hg)) hn hfit ρ1 h1 g1.rel
    refine ⟨ρ2, h2, a1 ++ a2, g1.ext.trans e2, r2, fun id o hg => l2 id o (g1.le id o hg), ?_, fun g hg => ?_⟩
    · have : cs.drop o = (cs.drop f.offset).take (P.cellsOf f.type) ++ cs.drop (o + P.cellsOf f.type) := by
        have hh := (List.take_append_drop (P.cellsOf f.type) (cs.drop o)).symm
        rw [List.drop_drop] at hh
        rw [ho]; exact hh
      rw [this]
      exact (g1.vr.mono e2.le).append v2
    · rcases List.mem_cons.1 hg with rfl | hg
      · refine ⟨by omega, ?_⟩
        rw [ho, Nat.sub_self, List.drop_zero, List.take_append_of_le_length (by omega), List.take_of_length_le (by omega)]
        exact g1.ty.mono l2
      · obtain ⟨q1, q2⟩ := t2 g hg
        refine ⟨by omega, ?_⟩
        rw [show g.offset - o = a1.length + (g.offset - (o + P.cellsOf f.type)) by omega, List.drop_append, List.drop_of_length_le (by omega)]
        simpa using q2

theorem addr_addN (b o n : Nat) : (⟨b, o, none⟩ : Addr).add n = ⟨b, o + n, none⟩ := by
  unfold Addr.add
  split
  · rename_i h; subst h; rfl
  · rfl
theorem addr_add0 (a : Addr) : a.add 0 = a := by simp [Addr.add]

theorem flat_rows {α : Type} (l : List α) (sz : Nat) : ∀ n : Nat, ((List.range n).map fun i => (l.drop (i * sz)).take sz).flatten = l.take (n * sz)
  | 0 => by simp
  | n + 1 => by
    rw [List.range_succ, List.map_append, List.flatten_append, flat_rows l sz n]
    simp only [List.map_cons, List.map_nil, List.flatten_cons, List.flatten_nil, List.append_nil]
    rw [Nat.add_mul, Nat.one_mul, List.take_add]

/-- Plain data is known where it lies. -/
theorem got (hA : AllKept K w) (hd : ∃ (b : Nat) (c : Array Value) (e : TypeId) (fr : Nat × Nat), w.heap[b]? = some (Obj.cells c e fr)) : ∀ (k : Nat) (t : TypeId) (cs : List Value) (x : DataW H × List MemPlace), dataT P k t = true →
    DataW.trod enc P w 0 (fun _ => true) true k t cs = some x → ∀ ρ h, Rel K ρ h w → ∃ ρ' h' avs, Got P K w ρ h t cs ρ' h' avs
  | 0, t, cs, x, hk, hx, ρ, h, hR => by cases hk
  | k + 1, t, cs, x, hk, hx, ρ, h, hR => by
    have ih := got hA hd k
    simp only [dataT] at hk
    cases ht : P.underlying t with
    | none => rw [ht] at hk; cases hk
    | some d =>
      rw [ht] at hk
      cases d <;> try (cases hk; done)
      case bool =>
        obtain ⟨b, rfl, _⟩ := DataW.trod_bool ht hx
        exact ⟨ρ, h, _, Ext.refl _ _, hR, fun _ _ h => h, .cons (.bool _) .nil, .bool _ ht⟩
      case int q =>
        obtain ⟨n, rfl, _, hw⟩ := DataW.trod_int ht hx
        exact ⟨ρ, h, _, Ext.refl _ _, hR, fun _ _ h => h, .cons (.int _ _) .nil, .int _ ht (lit_int_wf hw)⟩
      case string =>
        obtain ⟨s, rfl, _, hs⟩ := DataW.trod_string ht hx
        exact ⟨ρ, h, _, Ext.refl _ _, hR, fun _ _ h => h, .cons (.str _) .nil, .str _ ht hs⟩
      case slice e =>
        simp only [Bool.and_eq_true, decide_eq_true_eq] at hk
        obtain ⟨hsz, hk⟩ := hk
        rcases DataW.trod_slice ht hx with ⟨rfl, _⟩ | ⟨a, len, cap, elems, rest, n, hn, rfl, _, _, hlc, hcm, hel, hels, hsp, _⟩
        · exact ⟨ρ, h, _, Ext.refl _ _, hR, fun _ _ h => h, .cons .nilsl .nil, .nilsl ht⟩
        · obtain rfl : k = n := by omega
          obtain ⟨hrl, hrest⟩ := hsp rfl
          by_cases hc0 : cap = 0
          · subst hc0
            obtain rfl : len = 0 := by omega
            obtain ⟨b0, c0, e0, fr0, h0⟩ := hd
            obtain ⟨hE, hR'⟩ := rel_addRO hR ⟨b0, 0, 0⟩ [] (hA b0 _ h0).2 ⟨c0, e0, fr0, h0, Nat.zero_le _, Nat.le_refl _, fun i a hi => by simp at hi, (fun hh => by cases hh), fun hh => by cases hh⟩
            refine ⟨_, _, [.sl h.nx 0 0 (P.cellsOf e) none], hE, hR', fun id o hg => ?_, .cons ?_ .nil, .sl ht (cs := []) ?_ (Nat.zero_le _) (by simp) fun i hi => absurd hi (Nat.not_lt_zero i)⟩
            · rw [AH.get_new]
              split
              · rename_i e'
                obtain ⟨p, hp, _⟩ := hR.obj id o hg
                rw [e', hR.fresh _ (Nat.le_refl _)] at hp; cases hp
              · exact hg
            · exact .sl (p := ⟨b0, 0, 0⟩) (by simp) (Nat.le_refl _) (.inl rfl) (.inl rfl) (fun n hn => by cases hn)
            · rw [AH.get_new, if_pos rfl]
          · -- every element lies in one block
            have hrow : ∀ j, j < cap → ∃ cs' x', w.cells? 0 (a.add (j * P.cellsOf e)) (P.cellsOf e) = some cs' ∧ DataW.trod enc P w 0 (fun _ => true) true k e cs' = some x' := by
              intro j hj
              by_cases hjl : j < len
              · have h1 := hels j hjl
                have h2 : elems[j]? = some (elems[j]'(by omega)) := List.getElem?_eq_getElem (by omega)
                rw [h2, Option.bind_eq_some_iff] at h1
                obtain ⟨cs', h3, h4⟩ := h1
                exact ⟨cs', _, h3, h4⟩
              · have h1 := hrest (j - len) (by omega)
                have h2 : rest[j - len]? = some (rest[j - len]'(by omega)) := List.getElem?_eq_getElem (by omega)
                rw [h2, Option.bind_eq_some_iff, show len + (j - len) = j by omega] at h1
                obtain ⟨cs', h3, h4⟩ := h1
                exact ⟨cs', _, h3, h4⟩
            obtain ⟨c, et, fr, hblk, hspot⟩ : ∃ c et fr, w.heap[a.block]? = some (Obj.cells c et fr) ∧ a.spot = none := by
              obtain ⟨cs0, x0, h1, _⟩ := hrow 0 (by omega)
              obtain ⟨_, hl, hg⟩ := World.cells?_some h1
              have h2 := hg 0 hsz
              have h3 : cs0[0]? = some (cs0[0]'(by omega)) := List.getElem?_eq_getElem (by omega)
              rw [h3, Nat.zero_mul, addr_add0, addr_add0] at h2
              unfold World.cell? at h2
              split at h2
              · rename_i c et fr hh
                split at h2
                · cases h2
                · rename_i hs
                  exact ⟨c, et, fr, hh, by simpa using hs⟩
              · cases h2
            have hat : ∀ j cs', w.cells? 0 (a.add (j * P.cellsOf e)) (P.cellsOf e) = some cs' → cs' = ((c.toList.drop a.off).drop (j * P.cellsOf e)).take (P.cellsOf e) ∧ a.off + j * P.cellsOf e + P.cellsOf e ≤ c.size := by
              intro j cs' h1
              obtain ⟨_, hl, hg⟩ := World.cells?_some h1
              have hcell : ∀ i, i < P.cellsOf e → c[a.off + j * P.cellsOf e + i]? = cs'[i]? := fun i hi => by
                have h2 := hg i hi
                obtain ⟨ab, ao, asp⟩ := a
                simp only at hspot hblk
                subst hspot
                rw [addr_addN, addr_addN] at h2
                unfold World.cell? at h2
                simp only [hblk, Option.isSome_none, Bool.false_eq_true, if_false] at h2
                exact h2
              have hbound : a.off + j * P.cellsOf e + P.cellsOf e ≤ c.size := by
                have h2 := hcell (P.cellsOf e - 1) (by omega)
                have h3 : cs'[P.cellsOf e - 1]? = some (cs'[P.cellsOf e - 1]'(by omega)) := List.getElem?_eq_getElem (by omega)
                rw [h3] at h2
                have := (Array.getElem?_eq_some_iff.1 h2).1
                omega
              refine ⟨List.ext_getElem? fun i => ?_, hbound⟩
              by_cases hi : i < P.cellsOf e
              · rw [List.getElem?_take_of_lt hi, List.getElem?_drop, List.getElem?_drop, ← hcell i hi, Array.getElem?_toList]
                congr 1
                omega
              · rw [List.getElem?_eq_none (by omega), List.getElem?_eq_none (by simp; omega)]
            let l := c.toList.drop a.off
            let rows := (List.range len).map fun i => (l.drop (i * P.cellsOf e)).take (P.cellsOf e)
            have hrows : ∀ cs', cs' ∈ rows → cs'.length = P.cellsOf e ∧ ∃ x', DataW.trod enc P w 0 (fun _ => true) true k e cs' = some x' := by
              intro cs' hm
              obtain ⟨i, hi, rfl⟩ := List.mem_map.1 hm
              obtain ⟨cs', x', h1, h2⟩ := hrow i (by have := List.mem_range.1 hi; omega)
              obtain ⟨h3, _⟩ := hat i cs' h1
              refine ⟨?_, x', by rw [← h3]; exact h2⟩
              rw [← h3]; exact (World.cells?_some h1).2.1
            obtain ⟨ρ1, h1, avs, e1, r1, l1, v1, n1, t1⟩ := got_many hA (sz := P.cellsOf e) (fun cs' x' _ hx' ρ h hR => ih e cs' x' hk hx' ρ h hR) rows hrows ρ h hR
            have hrl : rows.length = len := by simp [rows]
            rw [hrl] at n1 t1
            have hflat : rows.flatten = l.take (len * P.cellsOf e) := flat_rows l _ len
            rw [hflat] at v1
            obtain ⟨hbound, hmul⟩ : a.off + cap * P.cellsOf e ≤ c.size ∧ len * P.cellsOf e ≤ cap * P.cellsOf e := by
              obtain ⟨cs', x', g1, _⟩ := hrow (cap - 1) (by omega)
              have h2 := (hat _ _ g1).2
              have h3 : cap * P.cellsOf e = (cap - 1) * P.cellsOf e + P.cellsOf e := by
                obtain ⟨m, rfl⟩ : ∃ m, cap = m + 1 := ⟨cap - 1, by omega⟩
                simp [Nat.add_mul]
              exact ⟨by omega, Nat.mul_le_mul_right _ hlc⟩
            let p : Pl := ⟨a.block, a.off, a.off + cap * P.cellsOf e⟩
            have hle1 : ρ1.le (fun id => if id = h1.nx then some p else ρ1 id) := fun id q hq => by
              have : id ≠ h1.nx := fun e' => by rw [e', r1.fresh h1.nx (Nat.le_refl _)] at hq; cases hq
              simp [this, hq]
            obtain ⟨hE, hR'⟩ := rel_addRO r1 p avs (hA a.block _ hblk).2 ⟨c, et, fr, hblk, hbound, by show a.off + avs.length ≤ a.off + cap * P.cellsOf e; omega, fun i b hi => by
              obtain ⟨v, hv, hvr⟩ := v1.get hi
              refine ⟨v, ?_, hvr.mono hle1⟩
              have hil : i < len * P.cellsOf e := by rw [← n1]; exact (List.getElem?_eq_some_iff.1 hi).1
              rw [List.getElem?_take_of_lt hil, List.getElem?_drop, Array.getElem?_toList] at hv
              exact hv, (fun hh => by cases hh), fun hh => by cases hh⟩
            have hle2 : ∀ id o, h1.get id = some o → (h1.new (.cells avs false false)).get id = some o := fun id o hg => by
              rw [AH.get_new]
              split
              · rename_i e'
                obtain ⟨q, hq, _⟩ := r1.obj id o hg
                rw [e', r1.fresh _ (Nat.le_refl _)] at hq; cases hq
              · exact hg
            refine ⟨_, _, [.sl h1.nx 0 len (P.cellsOf e) none], e1.trans hE, hR', fun id o hg => hle2 id o (l1 id o hg), .cons ?_ .nil, .sl ht (cs := avs) ?_ (by omega) n1 fun i hi => (t1 i hi).mono hle2⟩
            · have := VR.sl (ρ := fun id => if id = h1.nx then some p else ρ1 id) (id := h1.nx) (off := 0) (len := len) (sz := P.cellsOf e) (c := none) (p := p) (a := a) (cap := cap) (by simp) hlc
                (.inr (by cases a; simp only at hspot; subst hspot; rfl)) (.inr (by show a.off + 0 + cap * P.cellsOf e ≤ a.off + cap * P.cellsOf e; omega)) (fun n hn => by cases hn)
              exact this
            · rw [AH.get_new, if_pos rfl]
      case struct fs =>
        simp only [Bool.and_eq_true, List.all_eq_true] at hk
        obtain ⟨hk1, hk2⟩ := hk
        obtain ⟨xs, n, hn, _, hl, hxl, hall⟩ := DataW.trod_struct ht hx
        obtain rfl : k = n := by omega
        obtain ⟨ρ1, h1, avs, e1, r1, l1, v1, t1⟩ := got_fields hA (cs := cs) (fun t cs x hk hx => ih t cs x hk hx) fs.toList 0 (P.cellsOf t) hk1 (fun f hf => by
          refine ⟨hk2 f hf, ?_⟩
          obtain ⟨i, hi, he⟩ := List.getElem_of_mem hf
          have h2 := hall i f (by rw [← he]; simp at hi ⊢)
          have hi' : i < xs.length := by simp at hi; omega
          rw [List.getElem?_eq_getElem hi'] at h2
          exact ⟨_, h2⟩) hl.symm (Nat.zero_le _) ρ h hR
        rw [List.drop_zero] at v1
        exact ⟨ρ1, h1, avs, e1, r1, l1, v1, .struct ht (by rw [v1.length, hl]) fun f hf => by simpa using (t1 f hf).2⟩
      case array n e =>
        simp only [Bool.and_eq_true, decide_eq_true_eq] at hk
        obtain ⟨hk1, hk2⟩ := hk
        obtain ⟨xs, m, hm, _, hl, hxl, hall⟩ := DataW.trod_array ht hx
        obtain rfl : k = m := by omega
        let rows := (List.range n).map fun i => (cs.drop (i * P.cellsOf e)).take (P.cellsOf e)
        have hrows : ∀ cs', cs' ∈ rows → cs'.length = P.cellsOf e ∧ ∃ x', DataW.trod enc P w 0 (fun _ => true) true k e cs' = some x' := by
          intro cs' hmem
          obtain ⟨i, hi, rfl⟩ := List.mem_map.1 hmem
          have hi := List.mem_range.1 hi
          have h2 := hall i hi
          rw [List.getElem?_eq_getElem (show i < xs.length by omega)] at h2
          refine ⟨?_, _, h2⟩
          rw [List.length_take, List.length_drop]
          have : (i + 1) * P.cellsOf e ≤ n * P.cellsOf e := Nat.mul_le_mul_right _ hi
          rw [Nat.add_mul, Nat.one_mul] at this
          omega
        obtain ⟨ρ1, h1, avs, e1, r1, l1, v1, n1, t1⟩ := got_many hA (sz := P.cellsOf e) (fun cs' x' _ hx' ρ h hR => ih e cs' x' hk2 hx' ρ h hR) rows hrows ρ h hR
        have hrl : rows.length = n := by simp [rows]
        rw [hrl] at n1 t1
        rw [flat_rows cs _ n, List.take_of_length_le (by omega)] at v1
        exact ⟨ρ1, h1, avs, e1, r1, l1, v1, .array ht (by omega) t1⟩

end
end Go.Abs
