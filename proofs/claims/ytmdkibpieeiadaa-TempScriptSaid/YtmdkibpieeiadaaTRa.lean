/- The document's temp: its state; what lies in it stays. Conditions: none beyond the stated premises. -/
import Derived.Test.YtmdkibpieeiadaaTMn
namespace Go.Proofs.Ytmdkibpieeiadaa.dig
open Go Go.Abs Go.Proofs
set_option maxRecDepth 100000
set_option linter.unusedVariables false
set_option linter.unusedSimpArgs false

/-- A block of the document's temp: none, or bytes. -/
def Vb (h : AH) (v : AV) (o : Option (List Nat)) : Prop := match o with
  | none => v = .nilsl
  | some l => (∃ a x n c, v = .sl a x n 1 c) ∧ Bs h v l
/-- The document's temp: its object q, its blocks' object b. -/
structure Rt (q b : Nat) (h : AH) (s ln : Int) (D : List (List Nat)) (B : Int → Option (List Nat)) : Prop where
  ex : ∃ dv vs c t, h.get q = some (.cells [.int .i64 s, .int .i64 ln, dv, .sl b 0 D.length 1 c] true false) ∧ h.get b = some (.cells vs true t) ∧ vs.length = D.length ∧ Ds h dv D ∧ oneA dv = true ∧ ∀ i : Nat, i < D.length → ∃ v, vs[i]? = some v ∧ Vb h v (B i)
  q : q < h.nx
  b : b < h.nx
  out : ∀ k : Int, k < 0 ∨ (D.length : Int) ≤ k → B k = none
theorem Vb.fr {h h' : AH} {v : AV} {o : Option (List Nat)} (hv : Vb h v o) (hf : Fr h h') : Vb h' v o := by
  cases o with
  | none => exact hv
  | some l => exact ⟨hv.1, hv.2.fr hf⟩
theorem Rt.fr {q b : Nat} {h h' : AH} {s ln : Int} {D : List (List Nat)} {B : Int → Option (List Nat)} (hp : Rt q b h s ln D B) (hf : Fr h h') : Rt q b h' s ln D B := by
  obtain ⟨⟨dv, vs, c, t, h1, h2, h3, h4, h5, h6⟩, h7, h8, h9⟩ := hp
  exact ⟨⟨dv, vs, c, t, (hf.get q h7).trans h1, (hf.get b h8).trans h2, h3, h4.fr hf, h5, fun i hi => by obtain ⟨v, e1, e2⟩ := h6 i hi; exact ⟨v, e1, e2.fr hf⟩⟩, Nat.lt_of_lt_of_le h7 hf.nx, Nat.lt_of_lt_of_le h8 hf.nx, h9⟩
/-- Under a change of an object that is no row of cells. -/
theorem Rt.fx {q b m : Nat} {h h' : AH} {s ln : Int} {D : List (List Nat)} {B : Int → Option (List Nat)} (hp : Rt q b h s ln D B) (hf : Fx m h h') (hm : ∀ cs o t, h.get m ≠ some (.cells cs o t)) : Rt q b h' s ln D B := by
  obtain ⟨⟨dv, vs, c, t, h1, h2, h3, h4, h5, h6⟩, h7, h8, h9⟩ := hp
  refine ⟨⟨dv, vs, c, t, (hf.2 q h7 (fun hh => hm _ _ _ (hh ▸ h1))).trans h1, (hf.2 b h8 (fun hh => hm _ _ _ (hh ▸ h2))).trans h2, h3, h4.fx hf hm, h5, fun i hi => ?_⟩, Nat.lt_of_lt_of_le h7 hf.1, Nat.lt_of_lt_of_le h8 hf.1, h9⟩
  obtain ⟨v, e1, e2⟩ := h6 i hi
  refine ⟨v, e1, ?_⟩
  revert e2
  cases B i with
  | none => exact id
  | some l => exact fun e2 => ⟨e2.1, Bs.fx e2.2 hf hm⟩
/-- A row of slices, changed in place. -/
structure Fb (b : Nat) (h h' : AH) : Prop where
  fx : Fx b h h'
  ex : ∃ vs vs' t, h.get b = some (.cells vs true t) ∧ h'.get b = some (.cells vs' true t) ∧ vs'.length = vs.length ∧ ∀ (i : Nat) (v : AV), vs[i]? = some v → ∀ k n, v ≠ .int k n
theorem byC_int {l : List Nat} {i : Nat} {v : AV} (h : (byC l)[i]? = some v) : ∃ k n, v = .int k n := by
  rw [byC_get] at h
  cases hl : l[i]? with
  | none => rw [hl] at h; cases h
  | some b => rw [hl] at h; cases h; exact ⟨_, _, rfl⟩
theorem bs_fb {b : Nat} {h h' : AH} {v : AV} {l : List Nat} (hb : Bs h v l) (hf : Fb b h h') : Bs h' v l := by
  obtain ⟨⟨hn, hk⟩, vs, vs', t, h1, h2, h3, h4⟩ := hf
  rcases hb with e | ⟨id, off, c, cs, o, t2, e1, e2, e3, e4, e5⟩
  · exact .inl e
  · by_cases hid : id = b
    · subst hid
      rw [h1] at e2
      cases e2
      have hl : l = [] := by
        cases l with
        | nil => rfl
        | cons x l =>
          exfalso
          have h5 : ((vs.drop off).take (x :: l).length)[0]? = (byC (x :: l))[0]? := by rw [e5.2]
          rw [byC_get] at h5
          simp only [List.length_cons, List.getElem?_take, List.getElem?_drop, Nat.zero_lt_succ, if_true, Nat.add_zero, List.getElem?_cons_zero, Option.map_some] at h5
          exact h4 off _ h5 _ _ rfl
      subst hl
      exact .inr ⟨_, off, c, vs', true, t, e1, h2, Nat.lt_of_lt_of_le e3 hn, by simpa [h3] using e4, e5.1, by simp [byC]⟩
    · exact .inr ⟨id, off, c, cs, o, t2, e1, (hk id e3 hid).trans e2, Nat.lt_of_lt_of_le e3 hn, e4, e5⟩
theorem ds_fb {b : Nat} {h h' : AH} {v : AV} {D : List (List Nat)} (hb : Ds h v D) (h32 : ∀ d ∈ D, d.length = 32) (hf : Fb b h h') : Ds h' v D := by
  obtain ⟨⟨hn, hk⟩, vs, vs', t, h1, h2, h3, h4⟩ := hf
  rcases hb with e | ⟨id, off, c, cs, o, t2, e1, e2, e3, e4, e5⟩
  · exact .inl e
  · by_cases hid : id = b
    · subst hid
      rw [h1] at e2
      cases e2
      have hl : D = [] := by
        cases D with
        | nil => rfl
        | cons d D =>
          exfalso
          have h5 := e5 0 d rfl
          have hd := h32 d (List.mem_cons_self ..)
          obtain ⟨x, d', rfl⟩ : ∃ x d', d = x :: d' := by
            cases d with
            | nil => cases hd
            | cons x d' => exact ⟨x, d', rfl⟩
          have h6 : ((vs.drop (off + 0 * 32)).take 32)[0]? = (byC (x :: d'))[0]? := by rw [h5]
          rw [byC_get] at h6
          simp only [List.getElem?_take, List.getElem?_drop, Nat.zero_mul, Nat.add_zero, Nat.zero_lt_succ, if_true, List.getElem?_cons_zero, Option.map_some] at h6
          exact h4 off _ h6 _ _ rfl
      subst hl
      exact .inr ⟨_, off, c, vs', true, t, e1, h2, Nat.lt_of_lt_of_le e3 hn, by simpa [h3] using e4, fun i d hd => by simp at hd⟩
    · exact .inr ⟨id, off, c, cs, o, t2, e1, (hk id e3 hid).trans e2, Nat.lt_of_lt_of_le e3 hn, e4, e5⟩
theorem pt_fb {p m b : Nat} {h h' : AH} {s ln : Int} {D : List (List Nat)} {B : Int → Option (List Nat)} (hp : Pt p m h s ln D B) (h32 : ∀ d ∈ D, d.length = 32) (hf : Fb b h h') : Pt p m h' s ln D B := by
  have hf0 := hf
  obtain ⟨⟨hn, hk⟩, vs, vs', t, e1, e2, e3, e4⟩ := hf
  obtain ⟨⟨dv, E, bs, ck, h1, h2, h3, h4, h5⟩, h6, h7⟩ := hp
  have pb : p ≠ b := by
    rintro rfl
    rw [h1] at e1
    cases e1
    exact e4 0 _ rfl _ _ rfl
  have mb : m ≠ b := by
    rintro rfl
    rw [h2] at e1
    cases e1
  refine ⟨⟨dv, E, bs, ck, (hk p h6 pb).trans h1, (hk m h7 mb).trans h2, ds_fb h3 h32 hf0, h4, fun k => ?_⟩, Nat.lt_of_lt_of_le h6 hn, Nat.lt_of_lt_of_le h7 hn⟩
  have := h5 k
  revert this
  cases val E k with
  | none => exact id
  | some v => exact fun ⟨l, a1, a2⟩ => ⟨l, a1, bs_fb a2 hf0⟩

theorem neN (h : AH) : binA Try.prog h .neq 22 .nilsl .nilsl = some (.bool false) := by kernel_rfl
theorem neS (h : AH) (i o n z : Nat) (c : Option Nat) : binA Try.prog h .neq 22 (.sl i o n z c) .nilsl = some (.bool true) := by kernel_rfl
theorem rep_nil : ∀ (n : Nat), repCells [AV.nilsl] n = List.replicate n .nilsl
  | 0 => rfl
  | n + 1 => by
    show [AV.nilsl] ++ repCells [AV.nilsl] n = _
    rw [rep_nil n, List.replicate_succ]
    rfl
theorem mi22 : ((Try.prog.info? 22).bind fun i => i.zero.bind fun z => (cellsA (toAV z)).map fun zc => (i.bytes, i.size, zc)) = some (24, 1, [AV.nilsl]) := by kernel_rfl
theorem ms69 {n : Nat} (hn : n ≤ 1024) : msA Try.prog 69 (.int .i64 (n : Nat)) (.int .i64 (n : Nat)) = some (.cells (List.replicate n .nilsl) true (n == 0), fun id => .sl id 0 n 1 (some n)) := by
  have h := mi22
  show msA Try.prog 69 (.int .i64 (.ofNat n)) (.int .i64 (.ofNat n)) = _
  unfold msA
  rw [Try.underlying69]
  simp only [Option.bind_eq_bind]
  cases hi : Try.prog.info? 22 with
  | none => rw [hi] at h; cases h
  | some i =>
    rw [hi] at h
    simp only [Option.bind_some] at h ⊢
    cases hz : i.zero with
    | none => rw [hz] at h; cases h
    | some z =>
      rw [hz] at h
      simp only [Option.bind_some] at h ⊢
      cases hc : cellsA (toAV z) with
      | none => rw [hc] at h; cases h
      | some zc =>
        rw [hc] at h
        simp only [Option.map_some, Option.some.injEq, Prod.mk.injEq] at h
        obtain ⟨a1, a2, rfl⟩ := h
        simp only [Option.bind_some, a1, a2, Nat.mul_one, List.length_cons, List.length_nil, rep_nil]
        rw [if_pos]
        simp only [Nat.le_refl, decide_true, Bool.true_and, Bool.and_eq_true, decide_eq_true_eq, two40]
        exact ⟨⟨by omega, by omega⟩, trivial⟩
end Go.Proofs.Ytmdkibpieeiadaa.dig
