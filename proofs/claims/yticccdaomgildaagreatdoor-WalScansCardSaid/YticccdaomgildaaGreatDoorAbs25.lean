/- The abstract layer, part 25: the keys of a map, sorted. -/
import Derived.Test.YticccdaomgildaaGreatDoorAbs24
import Derived.Sort.Walk0
namespace Go.Abs
open Go Go.Proofs
set_option linter.unusedVariables false
set_option linter.unusedSimpArgs false

section
variable {P : Program} {ρ : Pm} {w : World} {K : Kp} {h : AH}

/-! ### Sorting -/
def insS (a : List Nat) : List (List Nat) → List (List Nat)
  | [] => [a]
  | b :: l => cond (lessA b a) (b :: insS a l) (a :: b :: l)
def sortS : List (List Nat) → List (List Nat)
  | [] => []
  | a :: l => insS a (sortS l)

def insU (a : List UInt8) : List (List UInt8) → List (List UInt8)
  | [] => [a]
  | b :: l => if b < a then b :: insU a l else a :: b :: l
def sortU : List (List UInt8) → List (List UInt8)
  | [] => []
  | a :: l => insU a (sortU l)

theorem insS_eq (a : List UInt8) : ∀ l : List (List UInt8), insS (a.map UInt8.toNat) (l.map (List.map UInt8.toNat)) = (insU a l).map (List.map UInt8.toNat)
  | [] => rfl
  | b :: l => by
    simp only [List.map_cons, insS, insU, lessA_map, Go.Proofs.bytesLess_eq, insS_eq a l]
    by_cases hb : b < a <;> simp [hb]

theorem sortS_eq : ∀ l : List (List UInt8), sortS (l.map (List.map UInt8.toNat)) = (sortU l).map (List.map UInt8.toNat)
  | [] => rfl
  | a :: l => by simp only [List.map_cons, sortS, sortU, sortS_eq l, insS_eq]

theorem insU_perm (a : List UInt8) : ∀ l, (insU a l).Perm (a :: l)
  | [] => .refl _
  | b :: l => by
    simp only [insU]
    split
    · exact ((insU_perm a l).cons b).trans (.swap a b l)
    · exact .refl _

theorem sortU_perm : ∀ l, (sortU l).Perm l
  | [] => .refl _
  | a :: l => (insU_perm a _).trans ((sortU_perm l).cons a)

theorem insU_sorted (a : List UInt8) : ∀ l : List (List UInt8), l.Pairwise (fun x y => leB x y = true) → (insU a l).Pairwise (fun x y => leB x y = true)
  | [], _ => by simp [insU]
  | b :: l, h => by
    simp only [insU]
    rw [List.pairwise_cons] at h
    split
    · rename_i hlt
      rw [List.pairwise_cons]
      refine ⟨fun x hx => ?_, insU_sorted a l h.2⟩
      rcases List.mem_cons.1 ((insU_perm a l).mem_iff.1 hx) with rfl | hx
      · simp only [leB, decide_eq_true_eq]; exact List.le_of_lt hlt
      · exact h.1 x hx
    · rename_i hlt
      have hab : a ≤ b := hlt
      rw [List.pairwise_cons]
      refine ⟨fun x hx => ?_, List.pairwise_cons.2 h⟩
      rcases List.mem_cons.1 hx with rfl | hx
      · simp only [leB, decide_eq_true_eq]; exact hab
      · have := h.1 x hx
        simp only [leB, decide_eq_true_eq] at this ⊢
        exact List.le_trans hab this

theorem sortU_sorted : ∀ l, (sortU l).Pairwise (fun x y => leB x y = true)
  | [] => .nil
  | a :: l => insU_sorted a _ (sortU_sorted l)

theorem sortU_eq {l ss : List (List UInt8)} (h : ss.Perm l) : ss.mergeSort leB = sortU l := by
  have tr : ∀ a b c : List UInt8, leB a b = true → leB b c = true → leB a c = true := fun a b c h1 h2 => by simp only [leB, decide_eq_true_eq] at *; exact List.le_trans h1 h2
  have to : ∀ a b : List UInt8, (leB a b || leB b a) = true := fun a b => by simp only [leB, Bool.or_eq_true, decide_eq_true_eq]; exact List.le_total a b
  refine List.Perm.eq_of_pairwise (le := fun a b => leB a b = true) (fun a b _ _ h1 h2 => ?_) (List.pairwise_mergeSort tr to ss) (sortU_sorted l) (((List.mergeSort_perm ss leB).trans h).trans (sortU_perm l).symm)
  simp only [leB, decide_eq_true_eq] at h1 h2
  exact List.le_antisymm h1 h2

/-! ### The keys -/
def keysA : List (AV × AV) → Option (List (List Nat))
  | [] => some []
  | (.str s, _) :: r => match keysA r with
    | some l => if s.length ≤ 1099511627776 then some (s :: l) else none
    | none => none
  | _ :: _ => none

theorem keysA_sound : ∀ {es : List (AV × AV)} {l : List MapEntry} {ks : List (List Nat)}, MR ρ es l → keysA es = some ks →
    ∃ xs : List (List UInt8), l.map (·.key) = xs.map encStr ∧ ks = xs.map (List.map UInt8.toNat) ∧ ∀ x ∈ xs, x.length ≤ maxLen
  | [], [], ks, _, h => by
    simp only [keysA, Option.some.injEq] at h
    subst h
    exact ⟨[], rfl, rfl, by simp⟩
  | (k, v) :: es, e :: l, ks, ⟨h1, h2, h3⟩, h => by
    unfold keysA at h
    split at h
    · rename_i heq; cases heq
    · rename_i s v' r heq
      simp only [List.cons.injEq, Prod.mk.injEq] at heq
      obtain ⟨⟨rfl, rfl⟩, rfl⟩ := heq
      cases hr : keysA es with
      | none => simp [hr] at h
      | some l' =>
        simp only [hr] at h
        split at h
        · rename_i hlen
          simp only [Option.some.injEq] at h
          subst h
          obtain ⟨xs, e1, e2, e3⟩ := keysA_sound h3 hr
          generalize hk : e.key = ck at h1
          cases h1 with
          | str s =>
          refine ⟨s.data.toList :: xs, ?_, ?_, fun x hx => ?_⟩
          · simp only [List.map_cons, hk, e1, encStr]
          · simp only [List.map_cons, e2]; rfl
          · rcases List.mem_cons.1 hx with rfl | hx
            · have : s.data.toList.length = (bytesOf s).length := by simp [bytesOf]
              rw [this]
              have hm : maxLen = 9223372036854775807 := by decide
              omega
            · exact e3 x hx
        · simp at h
    · simp at h
  | [], _ :: _, _, hh, _ => hh.elim
  | (_, _) :: _, [], _, hh, _ => hh.elim

/-- How an element reads, where nobody asks. -/
def anyR : Value → Option (DataW Unit × List MemPlace) := fun _ => some (.lit (.bool false), [])

theorem insert_perm {H : Type} (x : Lit × DataW H) : ∀ l, (DataW.insert x l).Perm (x :: l)
  | [] => .refl _
  | y :: r => by
    simp only [DataW.insert]
    split
    · exact .refl _
    · exact ((insert_perm x r).cons y).trans (.swap x y r)

theorem foldr_insert_perm {H : Type} : ∀ l : List (Lit × DataW H), (l.foldr DataW.insert []).Perm l
  | [] => .refl _
  | x :: l => (insert_perm x _).trans ((foldr_insert_perm l).cons x)

theorem rd_str {k : TypeId} (hk : P.underlying k = some .string) {e : MapEntry} {x : List UInt8} (he : e.key = encStr x) (hx : x.length ≤ maxLen) : WideElems.rd P k anyR e = some (.string x, .lit (.bool false)) := by
  unfold WideElems.rd
  have : keyOf P k e.key = some (.string x) := by
    rw [he]
    have := WideMaps.keyOf_string_mk (P := P) hk (s := ⟨x.toArray⟩) (by show x.toArray.size ≤ maxLen; simpa using hx)
    simpa [encStr] using this
  rw [this]
  rfl

/-- A map whose keys are strings is one that the kit's words speak of. -/
theorem owns_map {k : TypeId} (hk : P.underlying k = some .string) {b : Nat} {ces : Array MapEntry} {clock : Nat} {xs : List (List UInt8)} (hh : w.heap[b]? = some (.map ces clock)) (hst : MapKept.Stamped ces clock)
    (hkeys : ces.toList.map (·.key) = xs.map encStr) (hlen : ∀ x ∈ xs, x.length ≤ maxLen) (hsz : ces.size ≤ maxLen) :
    ∃ D : DataW Unit, w.ownsMap P k anyR b ces.size D ∧ (strKeys D).Perm xs ∧ Maps.size D = ces.size := by
  have hall : ∀ (i : Nat) (e : MapEntry), ces.toList[i]? = some e → ∃ x, xs[i]? = some x ∧ e.key = encStr x ∧ x.length ≤ maxLen := fun i e hi => by
    have h1 : (ces.toList.map (·.key))[i]? = some e.key := by simp [hi]
    rw [hkeys, List.getElem?_map] at h1
    cases hx : xs[i]? with
    | none => simp [hx] at h1
    | some x =>
      simp only [hx, Option.map_some, Option.some.injEq] at h1
      exact ⟨x, rfl, h1.symm, hlen x (List.mem_of_getElem? hx)⟩
  refine ⟨_, ⟨ces, clock, hh, ⟨hsz, hst, fun e he => ?_⟩, Nat.le_refl _, rfl⟩, ?_, ?_⟩
  · obtain ⟨i, hi⟩ := List.mem_iff_getElem?.1 he
    obtain ⟨x, _, h2, h3⟩ := hall i e hi
    exact ⟨_, rd_str hk h2 h3⟩
  · have hmap : (ces.toList.map (WideElems.rg P k anyR)).map (fun p => strOf p.1) = xs := by
      apply List.ext_getElem?
      intro i
      cases hi : ces.toList[i]? with
      | none =>
        have : xs[i]? = none := by
          rw [List.getElem?_eq_none_iff] at hi ⊢
          have := congrArg List.length hkeys
          simp at this hi ⊢; omega
        simp [hi, this]
      | some e =>
        obtain ⟨x, h1, h2, h3⟩ := hall i e hi
        simp only [List.getElem?_map, hi, Option.map_some, h1, WideElems.rg, rd_str hk h2 h3, Option.getD_some, strOf]
    show ((List.foldr DataW.insert [] (ces.toList.map (WideElems.rg P k anyR))).map fun p => strOf p.1).Perm xs
    have := (foldr_insert_perm (ces.toList.map (WideElems.rg P k anyR))).map (fun p => strOf p.1)
    rw [hmap] at this
    exact this
  · show (List.foldr DataW.insert [] (ces.toList.map (WideElems.rg P k anyR))).length = ces.size
    rw [(foldr_insert_perm _).length_eq]
    simp

end
end Go.Abs
