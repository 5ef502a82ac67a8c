/- The state of TempScript: the two temps and the arguments; what each call leaves of it. Conditions: the digest's constants are summaries; none else. -/
import Derived.Test.YtmdkibpieeiadaaTRd
namespace Go.Proofs.Ytmdkibpieeiadaa.dig
open Go Go.Abs Go.Proofs
set_option maxRecDepth 100000
set_option linter.unusedVariables false
set_option linter.unusedSimpArgs false

/-- The calls that are made: their numbers, their bytes. -/
def Cs (h : AH) (cv : AV) (n id : Nat) (cs : List AV) (ks : Nat → Int) (bs : Nat → AV) (ls : Nat → List Nat) : Prop :=
  (cv = .nilsl ∧ n = 0) ∨ (cv = .sl id 0 n 2 none ∧ h.get id = some (.cells cs false false) ∧ id < h.nx ∧ ∀ i, i < n → cs[i * 2]? = some (.int .i64 (ks i)) ∧ cs[i * 2 + 1]? = some (bs i) ∧ Bs h (bs i) (ls i) ∧ ∀ b ∈ ls i, b < 256)
theorem Cs.fr {h h' : AH} {cv : AV} {n id : Nat} {cs : List AV} {ks : Nat → Int} {bs : Nat → AV} {ls : Nat → List Nat} (hc : Cs h cv n id cs ks bs ls) (hf : Fr h h') : Cs h' cv n id cs ks bs ls := by
  rcases hc with h1 | ⟨h1, h2, h3, h4⟩
  · exact .inl h1
  · exact .inr ⟨h1, (hf.get _ h3).trans h2, Nat.lt_of_lt_of_le h3 hf.nx, fun i hi => ⟨(h4 i hi).1, (h4 i hi).2.1, (h4 i hi).2.2.1.fr hf, (h4 i hi).2.2.2⟩⟩
theorem Cs.fx {m : Nat} {h h' : AH} {cv : AV} {n id : Nat} {cs : List AV} {ks : Nat → Int} {bs : Nat → AV} {ls : Nat → List Nat} (hc : Cs h cv n id cs ks bs ls) (hf : Fx m h h') (hm : ∀ cs o t, h.get m ≠ some (.cells cs o t)) : Cs h' cv n id cs ks bs ls := by
  rcases hc with h1 | ⟨h1, h2, h3, h4⟩
  · exact .inl h1
  · exact .inr ⟨h1, (hf.2 _ h3 (fun hh => hm _ _ _ (hh ▸ h2))).trans h2, Nat.lt_of_lt_of_le h3 hf.1, fun i hi => ⟨(h4 i hi).1, (h4 i hi).2.1, Bs.fx (h4 i hi).2.2.1 hf hm, (h4 i hi).2.2.2⟩⟩
theorem Cs.fb {b : Nat} {h h' : AH} {cv : AV} {n id : Nat} {cs : List AV} {ks : Nat → Int} {bs : Nat → AV} {ls : Nat → List Nat} (hc : Cs h cv n id cs ks bs ls) (hf : Fb b h h') : Cs h' cv n id cs ks bs ls := by
  rcases hc with h1 | ⟨h1, h2, h3, h4⟩
  · exact .inl h1
  · have hf0 := hf
    obtain ⟨⟨hn, hk⟩, vs, vs', t, e1, e2, e3, e4⟩ := hf
    have hb : id ≠ b := by
      rintro rfl
      rw [h2] at e1
      cases e1
    exact .inr ⟨h1, (hk _ h3 hb).trans h2, Nat.lt_of_lt_of_le h3 hn, fun i hi => ⟨(h4 i hi).1, (h4 i hi).2.1, bs_fb (h4 i hi).2.2.1 hf0, (h4 i hi).2.2.2⟩⟩
/-- All that the law looks at. -/
structure Wt (a p m q b n id : Nat) (cv dv : AV) (cs : List AV) (ks : Nat → Int) (bs : Nat → AV) (ls : Nat → List Nat) (s ln : Int) (D : List (List Nat)) (h : AH) (B C : Int → Option (List Nat)) : Prop where
  c : Cs h cv n id cs ks bs ls
  g : h.get a = some (.cells [.int .i64 s, .int .i64 ln, dv] true false)
  a : a < h.nx
  d : Ds h dv D
  p : Pt p m h s ln D B
  q : Rt q b h s ln D C
  bl : ∀ k l, B k = some l → l.length ≤ 300 ∧ ∀ b ∈ l, b < 256
  cl : ∀ k l, C k = some l → l.length ≤ 300 ∧ ∀ b ∈ l, b < 256
  h32 : ∀ d ∈ D, d.length = 32
  hn : D.length ≤ 300
section
variable {a p m q b n id : Nat} {cv dv : AV} {cs : List AV} {ks : Nat → Int} {bs : Nat → AV} {ls : Nat → List Nat} {s ln : Int} {D : List (List Nat)} {h h' : AH} {B C B' C' : Int → Option (List Nat)}
theorem Wt.fr (W : Wt a p m q b n id cv dv cs ks bs ls s ln D h B C) (hf : Fr h h') : Wt a p m q b n id cv dv cs ks bs ls s ln D h' B C :=
  ⟨W.c.fr hf, (hf.get _ W.a).trans W.g, Nat.lt_of_lt_of_le W.a hf.nx, W.d.fr hf, W.p.fr hf, W.q.fr hf, W.bl, W.cl, W.h32, W.hn⟩
theorem Wt.fx (W : Wt a p m q b n id cv dv cs ks bs ls s ln D h B C) (hf : Fx m h h') (hp : Pt p m h' s ln D B') (hb : ∀ k l, B' k = some l → l.length ≤ 300 ∧ ∀ b ∈ l, b < 256) : Wt a p m q b n id cv dv cs ks bs ls s ln D h' B' C :=
  have k := W.p.notc
  ⟨W.c.fx hf k, (hf.2 _ W.a (fun hh => k _ _ _ (hh ▸ W.g))).trans W.g, Nat.lt_of_lt_of_le W.a hf.1, W.d.fx hf k, hp, W.q.fx hf k, hb, W.cl, W.h32, W.hn⟩
theorem Wt.fb (W : Wt a p m q b n id cv dv cs ks bs ls s ln D h B C) (hf : Fb b h h') (hq : Rt q b h' s ln D C') (hb : ∀ k l, C' k = some l → l.length ≤ 300 ∧ ∀ b ∈ l, b < 256) : Wt a p m q b n id cv dv cs ks bs ls s ln D h' B C' := by
  have hab : a ≠ b := by
    rintro rfl
    obtain ⟨vs, vs', t, e1, e2, e3, e4⟩ := hf.ex
    rw [W.g] at e1
    cases e1
    exact e4 0 _ rfl _ _ rfl
  exact ⟨W.c.fb hf, (hf.fx.2 _ W.a hab).trans W.g, Nat.lt_of_lt_of_le W.a hf.fx.1, ds_fb W.d W.h32 hf, pt_fb W.p W.h32 hf, hq, W.bl, hb, W.h32, W.hn⟩
theorem putB_le {k : Int} {l : List Nat} (hb : ∀ k l, B k = some l → l.length ≤ 300 ∧ ∀ b ∈ l, b < 256) (hl : l.length ≤ 300 ∧ ∀ b ∈ l, b < 256) : ∀ j l', putB B k l j = some l' → l'.length ≤ 300 ∧ ∀ b ∈ l', b < 256 := by
  intro j l' hj
  unfold putB at hj
  split at hj
  · cases hj; exact hl
  · exact hb _ _ hj
theorem cat_len (hb : ∀ k l, B k = some l → l.length ≤ 300 ∧ ∀ b ∈ l, b < 256) : ∀ n, (cat B n).length ≤ n * 300
  | 0 => Nat.le_refl _
  | n + 1 => by
    show (cat B n ++ (B (n : Nat)).getD []).length ≤ _
    have h1 := cat_len hb n
    have h2 : ((B (n : Nat)).getD []).length ≤ 300 := by
      cases hB : B (n : Nat) with
      | none => exact Nat.zero_le _
      | some l => exact (hb _ _ hB).1
    rw [List.length_append]
    omega
theorem cat_b (hb : ∀ k l, B k = some l → l.length ≤ 300 ∧ ∀ b ∈ l, b < 256) : ∀ n, ∀ b ∈ cat B n, b < 256
  | 0 => fun b hm => by simp [cat] at hm
  | n + 1 => fun b hm => by
    have hm' : b ∈ cat B n ++ (B (n : Nat)).getD [] := hm
    rcases List.mem_append.1 hm' with h1 | h1
    · exact cat_b hb n b h1
    · cases hB : B (n : Nat) with
      | none => rw [hB] at h1; simp at h1
      | some l => rw [hB] at h1; exact (hb _ _ hB).2 b h1
end
section
variable {S : Sums} {a p m q b n id : Nat} {cv dv : AV} {cs : List AV} {ks : Nat → Int} {bs : Nat → AV} {ls : Nat → List Nat} {s ln : Int} {D : List (List Nat)} {h h' : AH} {B C B' C' : Int → Option (List Nat)}
/-- What a put leaves. -/
def aft (s ln : Int) (D : List (List Nat)) (k : Int) (l : List Nat) (B : Int → Option (List Nat)) : Int → Option (List Nat) := if fit s ln D k l = 0 then putB B k l else B
theorem wt_own (hU : Nu S) (W : Wt a p m q b n id cv dv cs ks bs ls s ln D h B C) {x : AV} {l : List Nat} (hx : Bs h x l) (hn : l.length ≤ 300) : RnC Try.prog S 16 [x] h fun r h' => Bs h' r l ∧ Fr h h' ∧ Wt a p m q b n id cv dv cs ks bs ls s ln D h' B C :=
  (own16 (fun _ _ => hU _ _ _ (by simp)) hx (by omega)).mono fun r h' ⟨h1, h2⟩ => ⟨h1.bs, h2, W.fr h2⟩
theorem wt_put1 (hU : Nu S) (hN : Nt S) (hd : Dg S) (W : Wt a p m q b n id cv dv cs ks bs ls s ln D h B C) {k : Int} {x : AV} {l : List Nat} (hx : Bs h x l) (hl : ∀ b ∈ l, b < 256) (hn : l.length ≤ 300) :
    RnC Try.prog S 10 [.ptr p 0, .int .i64 k, x] h fun r h' => r = .int .i64 (fit s ln D k l : Nat) ∧ Wt a p m q b n id cv dv cs ks bs ls s ln D h' (aft s ln D k l B) C := by
  refine (put10 hU hN hd W.p W.h32 hx hl (by omega)).mono ?_
  rintro r h' ⟨rfl, h2⟩
  refine ⟨rfl, ?_⟩
  unfold aft
  by_cases c : fit s ln D k l = 0
  · rw [if_pos c] at h2 ⊢
    exact W.fx h2.1 h2.2 (putB_le W.bl ⟨hn, hl⟩)
  · rw [if_neg c] at h2 ⊢
    exact W.fr h2
theorem wt_put2 (hV : Nv S) (hN : Nt S) (hd : Dg S) (W : Wt a p m q b n id cv dv cs ks bs ls s ln D h B C) {k : Int} {x : AV} {l : List Nat} (hx : Bs h x l) (hl : ∀ b ∈ l, b < 256) (hn : l.length ≤ 300) :
    RnC Try.prog S 17 [.ptr q 0, .int .i64 k, x] h fun r h' => r = .int .i64 (fit s ln D k l : Nat) ∧ Wt a p m q b n id cv dv cs ks bs ls s ln D h' B (aft s ln D k l C) := by
  refine (put17 hV hN hd W.q W.h32 hx hl (by omega)).mono ?_
  rintro r h' ⟨rfl, h2⟩
  refine ⟨rfl, ?_⟩
  unfold aft
  by_cases c : fit s ln D k l = 0
  · rw [if_pos c] at h2 ⊢
    exact W.fb h2.1 h2.2 (putB_le W.cl ⟨hn, hl⟩)
  · rw [if_neg c] at h2 ⊢
    exact W.fr h2
theorem wt_has1 (hU : Nu S) (W : Wt a p m q b n id cv dv cs ks bs ls s ln D h B C) {k : Int} : RnC Try.prog S 12 [.ptr p 0, .int .i64 k] h fun r h' => r = .bool (B k).isSome ∧ Wt a p m q b n id cv dv cs ks bs ls s ln D h' B C :=
  (has12 hU W.p).mono fun r h' ⟨h1, h2⟩ => ⟨h1, W.fr h2⟩
theorem wt_has2 (hV : Nv S) (W : Wt a p m q b n id cv dv cs ks bs ls s ln D h B C) {k : Int} : RnC Try.prog S 18 [.ptr q 0, .int .i64 k] h fun r h' => r = .bool (C k).isSome ∧ Wt a p m q b n id cv dv cs ks bs ls s ln D h' B C :=
  (has18 hV W.q (by have := W.hn; omega)).mono fun r h' ⟨h1, h2⟩ => ⟨h1, W.fr h2⟩
end
end Go.Proofs.Ytmdkibpieeiadaa.dig
