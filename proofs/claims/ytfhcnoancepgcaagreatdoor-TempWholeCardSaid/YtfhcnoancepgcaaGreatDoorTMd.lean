/- Maps whose keys are numbers and whose values are slices of bytes, in the abstract layer; the temp state of the program. Conditions: none. -/
import Derived.Test.YtfhcnoancepgcaaGreatDoorTMc
namespace Go.Proofs.YtfhcnoancepgcaaGreatDoor.dig
open Go Go.Abs Go.Proofs
set_option maxRecDepth 100000
set_option linter.unusedVariables false
set_option linter.unusedSimpArgs false

/-- Entries of a map whose keys are numbers. -/
def ens (E : List (Int × AV)) : List (AV × AV) := E.map fun e => (.int .i64 e.1, e.2)
def val : List (Int × AV) → Int → Option AV
  | [], _ => none
  | e :: r, k => if e.1 = k then some e.2 else val r k
def fnd : List (Int × AV) → Int → Nat → Option (Nat × AV)
  | [], _, _ => none
  | e :: r, k, i => if e.1 = k then some (i, e.2) else fnd r k (i + 1)
def upd : List (Int × AV) → Int → AV → List (Int × AV)
  | [], k, v => [(k, v)]
  | e :: r, k, v => if e.1 = k then (k, v) :: r else e :: upd r k v
theorem fnd_val : ∀ (E : List (Int × AV)) (k : Int) (i : Nat), (fnd E k i).map (·.2) = val E k
  | [], _, _ => rfl
  | e :: r, k, i => by
    unfold fnd val
    by_cases h : e.1 = k
    · rw [if_pos h, if_pos h]; rfl
    · rw [if_neg h, if_neg h]; exact fnd_val r k (i + 1)
theorem val_upd : ∀ (E : List (Int × AV)) (k j : Int) (v : AV), val (upd E k v) j = if j = k then some v else val E j
  | [], k, j, v => by
    unfold upd val val
    by_cases h : j = k
    · simp [h]
    · simp [h, Ne.symm h]
  | e :: r, k, j, v => by
    unfold upd
    by_cases h : e.1 = k
    · rw [if_pos h]
      unfold val
      by_cases hj : j = k
      · simp [hj]
      · have : ¬ k = j := fun hh => hj hh.symm
        have h2 : ¬ e.1 = j := fun hh => hj (hh.symm.trans h)
        rw [if_neg this, if_neg hj, if_neg h2]
    · rw [if_neg h]
      unfold val
      rw [val_upd r k j v]
      by_cases hj : j = k
      · subst hj; simp [h]
      · rw [if_neg hj, if_neg hj]
theorem eq3 (h : AH) (a b : Int) : eqA Tryz.prog h 12 3 (.int .i64 a) (.int .i64 b) = some (a == b) := by
  show eqA Tryz.prog h (11 + 1) 3 _ _ = _
  unfold eqA
  rw [Tryz.underlying3]
  simp
theorem find_ens (h : AH) (k : Int) : ∀ (E : List (Int × AV)) (i : Nat), findA Tryz.prog h 3 (.int .i64 k) (ens E) i = some ((fnd E k i).map fun x => (x.1, .int .i64 k, x.2))
  | [], _ => rfl
  | e :: r, i => by
    show findA Tryz.prog h 3 (.int .i64 k) ((.int .i64 e.1, e.2) :: ens r) i = _
    unfold findA fnd
    simp only [eq3, Option.bind_eq_bind, Option.bind_some]
    by_cases hk : e.1 = k
    · rw [if_pos hk, if_pos (by simp [hk]), hk]; rfl
    · rw [if_neg hk, if_neg (by simpa using fun hh => hk hh.symm)]
      exact find_ens h k r (i + 1)
theorem fnd_some : ∀ (E : List (Int × AV)) (k : Int) (i p : Nat) (w v : AV), fnd E k i = some (p, w) → i ≤ p ∧ setNth (.int .i64 k, v) (ens E) (p - i) = ens (upd E k v)
  | [], _, _, _, _, _, h => by cases h
  | e :: r, k, i, p, w, v, h => by
    unfold fnd at h
    by_cases hk : e.1 = k
    · rw [if_pos hk] at h
      cases h
      refine ⟨Nat.le_refl _, ?_⟩
      unfold upd
      rw [if_pos hk, Nat.sub_self]
      rfl
    · rw [if_neg hk] at h
      obtain ⟨h1, h2⟩ := fnd_some r k (i + 1) p w v h
      refine ⟨by omega, ?_⟩
      unfold upd
      rw [if_neg hk]
      obtain ⟨q, hq⟩ : ∃ q, p - i = q + 1 := ⟨p - i - 1, by omega⟩
      have hq2 : p - (i + 1) = q := by omega
      rw [hq]
      rw [hq2] at h2
      show (_ :: setNth (.int .i64 k, v) (ens r) q) = _ :: _
      rw [h2]
      rfl
theorem fnd_none : ∀ (E : List (Int × AV)) (k : Int) (i : Nat) (v : AV), fnd E k i = none → ens E ++ [(.int .i64 k, v)] = ens (upd E k v) ∧ diffAll (.int .i64 k) (ens E) = true
  | [], _, _, _, _ => ⟨rfl, rfl⟩
  | e :: r, k, i, v, h => by
    unfold fnd at h
    by_cases hk : e.1 = k
    · rw [if_pos hk] at h; cases h
    · rw [if_neg hk] at h
      obtain ⟨h1, h2⟩ := fnd_none r k (i + 1) v h
      unfold upd
      rw [if_neg hk]
      refine ⟨?_, ?_⟩
      · show _ :: (ens r ++ _) = _ :: _
        rw [h1]; rfl
      · show (diffSimple (.int .i64 e.1) (.int .i64 k) && diffAll (.int .i64 k) (ens r)) = true
        rw [h2]
        simp [diffSimple, diffScalar, hk]
theorem chk3 (k : Int) : checkA Tryz.prog 12 3 (.int .i64 k) = true := by
  show checkA Tryz.prog (11 + 1) 3 _ = true
  unfold checkA
  rw [Tryz.underlying3]
theorem zn22 : (tzero Tryz.prog 22).map toAV = some .nilsl := by kernel_rfl
theorem look60 {h : AH} {m : Nat} {E : List (Int × AV)} {bs : List Nat} {ck : Nat} (hm : h.get m = some (.map (ens E) bs ck)) (k : Int) :
    evLookup Tryz.prog h 66 (.map m) (.int .i64 k) false = some ((val E k).getD .nilsl) ∧ evLookup Tryz.prog h 66 (.map m) (.int .i64 k) true = some (.tup [(val E k).getD .nilsl, .bool (val E k).isSome]) := by
  rw [← fnd_val E k 0]
  obtain ⟨z, hz, hz2⟩ : ∃ z, tzero Tryz.prog 22 = some z ∧ toAV z = .nilsl := by
    have := zn22
    cases hh : tzero Tryz.prog 22 with
    | none => rw [hh] at this; cases this
    | some z => rw [hh] at this; exact ⟨z, rfl, Option.some.inj this⟩
  unfold evLookup
  simp only [Tryz.underlying66, chk3, Bool.not_true, hm, Option.bind_eq_bind, Option.bind_some, find_ens]
  cases hf : fnd E k 0 with
  | none => simp [lookRes, hz, hz2]
  | some x => simp [lookRes]
theorem set60 {h : AH} {m : Nat} {E : List (Int × AV)} {bs : List Nat} {ck : Nat} (hm : h.get m = some (.map (ens E) bs ck)) (k : Int) (v : AV) :
    ∃ bs' ck', evMapUpdate Tryz.prog h 66 (.map m) (.int .i64 k) v = some (.skip (h.put m (.map (ens (upd E k v)) bs' ck'))) := by
  unfold evMapUpdate
  have hs : simpleA (.int .i64 k) = true := rfl
  have hss : sameSimple (.int .i64 k) (.int .i64 k) = true := by simp [sameSimple, sameScalar]
  simp only [Tryz.underlying66, chk3, hs, Bool.not_true, Bool.or_false, hm, Option.bind_eq_bind, Option.bind_some, find_ens]
  cases hf : fnd E k 0 with
  | none =>
    obtain ⟨h1, h2⟩ := fnd_none E k 0 v hf
    exact ⟨bs ++ [ck], ck + 1, by simp [h1, h2]⟩
  | some x =>
    obtain ⟨p, w⟩ := x
    obtain ⟨h1, h2⟩ := fnd_some E k 0 p w v hf
    rw [Nat.sub_zero] at h2
    exact ⟨bs, ck, by simp [hs, hss, h2]⟩

/-! ### The state -/
/-- What the map's values hold. -/
def Hld (h : AH) (E : List (Int × AV)) (B : Int → Option (List Nat)) : Prop := ∀ k, match val E k with | none => B k = none | some v => ∃ l, B k = some l ∧ Bs h v l
/-- All objects but one are as they were. -/
def Fx (m : Nat) (h h' : AH) : Prop := h.nx ≤ h'.nx ∧ ∀ j, j < h.nx → j ≠ m → h'.get j = h.get j
theorem Fr.fx {h h' : AH} (hf : Fr h h') (m : Nat) : Fx m h h' := ⟨hf.nx, fun j hj _ => hf.get j hj⟩
theorem Fx.trans {m : Nat} {a b c : AH} (h1 : Fx m a b) (h2 : Fx m b c) : Fx m a c := ⟨Nat.le_trans h1.1 h2.1, fun j hj hm => (h2.2 j (Nat.lt_of_lt_of_le hj h1.1) hm).trans (h1.2 j hj hm)⟩
theorem Bs.fx {m : Nat} {h h' : AH} {v : AV} {l : List Nat} (hb : Bs h v l) (hf : Fx m h h') (hm : ∀ cs o t, h.get m ≠ some (.cells cs o t)) : Bs h' v l := by
  rcases hb with h1 | ⟨id, off, c, cs, o, t, h1, h2, h3, h4⟩
  · exact .inl h1
  · exact .inr ⟨id, off, c, cs, o, t, h1, (hf.2 id h3 (fun hh => hm _ _ _ (hh ▸ h2))).trans h2, Nat.lt_of_lt_of_le h3 hf.1, h4⟩
theorem Ds.fx {m : Nat} {h h' : AH} {v : AV} {D : List (List Nat)} (hb : Ds h v D) (hf : Fx m h h') (hm : ∀ cs o t, h.get m ≠ some (.cells cs o t)) : Ds h' v D := by
  rcases hb with h1 | ⟨id, off, c, cs, o, t, h1, h2, h3, h4⟩
  · exact .inl h1
  · exact .inr ⟨id, off, c, cs, o, t, h1, (hf.2 id h3 (fun hh => hm _ _ _ (hh ▸ h2))).trans h2, Nat.lt_of_lt_of_le h3 hf.1, h4⟩
/-- The program's temp: its object p, its map m. -/
structure Pt (p m : Nat) (h : AH) (s ln : Int) (D : List (List Nat)) (B : Int → Option (List Nat)) : Prop where
  ex : ∃ dv E bs ck, h.get p = some (.cells [.int .i64 s, .int .i64 ln, dv, .map m] true false) ∧ h.get m = some (.map (ens E) bs ck) ∧ Ds h dv D ∧ oneA dv = true ∧ Hld h E B
  p : p < h.nx
  m : m < h.nx
theorem Pt.fr {p m : Nat} {h h' : AH} {s ln : Int} {D : List (List Nat)} {B : Int → Option (List Nat)} (hp : Pt p m h s ln D B) (hf : Fr h h') : Pt p m h' s ln D B := by
  obtain ⟨⟨dv, E, bs, ck, h1, h2, h3, h4, h5⟩, h6, h7⟩ := hp
  refine ⟨⟨dv, E, bs, ck, (hf.get p h6).trans h1, (hf.get m h7).trans h2, h3.fr hf, h4, fun k => ?_⟩, Nat.lt_of_lt_of_le h6 hf.nx, Nat.lt_of_lt_of_le h7 hf.nx⟩
  have := h5 k
  revert this
  cases val E k with
  | none => exact id
  | some v => exact fun ⟨l, e1, e2⟩ => ⟨l, e1, e2.fr hf⟩
end Go.Proofs.YtfhcnoancepgcaaGreatDoor.dig
