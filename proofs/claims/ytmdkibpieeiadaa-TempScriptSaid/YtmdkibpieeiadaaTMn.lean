/- Two temps of the program side by side: what a call to one of them leaves of the other. Conditions: the digest's constants are summaries; none else. -/
import Derived.Test.YtmdkibpieeiadaaTMm
namespace Go.Proofs.Ytmdkibpieeiadaa.dig
open Go Go.Abs Go.Proofs
set_option maxRecDepth 100000
set_option linter.unusedVariables false
set_option linter.unusedSimpArgs false

theorem Pt.fx {p m m2 : Nat} {h h' : AH} {s ln : Int} {D : List (List Nat)} {B : Int → Option (List Nat)} (hp : Pt p m h s ln D B) (hf : Fx m2 h h') (hm : ∀ cs o t, h.get m2 ≠ some (.cells cs o t)) (hne : m ≠ m2) : Pt p m h' s ln D B := by
  obtain ⟨⟨dv, E, bs, ck, h1, h2, h3, h4, h5⟩, h6, h7⟩ := hp
  refine ⟨⟨dv, E, bs, ck, (hf.2 p h6 (fun hh => hm _ _ _ (hh ▸ h1))).trans h1, (hf.2 m h7 hne).trans h2, h3.fx hf hm, h4, fun k => ?_⟩, Nat.lt_of_lt_of_le h6 hf.1, Nat.lt_of_lt_of_le h7 hf.1⟩
  have := h5 k
  revert this
  cases val E k with
  | none => exact id
  | some v => exact fun ⟨l, e1, e2⟩ => ⟨l, e1, Bs.fx e2 hf hm⟩
theorem Pt.notc {p m : Nat} {h : AH} {s ln : Int} {D : List (List Nat)} {B : Int → Option (List Nat)} (hp : Pt p m h s ln D B) : ∀ cs o t, h.get m ≠ some (.cells cs o t) := by
  obtain ⟨⟨dv, E, bs, ck, h1, h2, h3, h4, h5⟩, h6, h7⟩ := hp
  intro cs o t hh
  rw [h2] at hh
  cases hh
/-- The state of the law: the two byte slices, the layout's object, the two temps. -/
structure Wd (a p m q m2 : Nat) (v w dv : AV) (l wr : List Nat) (s : Nat) (D : List (List Nat)) (h : AH) (B C : Int → Option (List Nat)) : Prop where
  v : Bs h v l
  w : Bs h w wr
  g : h.get a = some (.cells [.int .i64 (s : Nat), .int .i64 (l.length : Nat), dv] true false)
  a : a < h.nx
  d : Ds h dv D
  b : Pt p m h (s : Nat) (l.length : Nat) D B
  c : Pt q m2 h (s : Nat) (l.length : Nat) D C
  ne : m ≠ m2
theorem Wd.fr {a p m q m2 : Nat} {v w dv : AV} {l wr : List Nat} {s : Nat} {D : List (List Nat)} {h h' : AH} {B C : Int → Option (List Nat)} (W : Wd a p m q m2 v w dv l wr s D h B C) (hf : Fr h h') : Wd a p m q m2 v w dv l wr s D h' B C :=
  ⟨W.v.fr hf, W.w.fr hf, (hf.get _ W.a).trans W.g, Nat.lt_of_lt_of_le W.a hf.nx, W.d.fr hf, W.b.fr hf, W.c.fr hf, W.ne⟩
theorem Wd.fx1 {a p m q m2 : Nat} {v w dv : AV} {l wr : List Nat} {s : Nat} {D : List (List Nat)} {h h' : AH} {B C B' : Int → Option (List Nat)} (W : Wd a p m q m2 v w dv l wr s D h B C) (hf : Fx m h h') (hb : Pt p m h' (s : Nat) (l.length : Nat) D B') : Wd a p m q m2 v w dv l wr s D h' B' C :=
  have k := W.b.notc
  ⟨Bs.fx W.v hf k, Bs.fx W.w hf k, (hf.2 _ W.a (fun hh => k _ _ _ (hh ▸ W.g))).trans W.g, Nat.lt_of_lt_of_le W.a hf.1, W.d.fx hf k, hb, W.c.fx hf k (Ne.symm W.ne), W.ne⟩
theorem Wd.fx2 {a p m q m2 : Nat} {v w dv : AV} {l wr : List Nat} {s : Nat} {D : List (List Nat)} {h h' : AH} {B C C' : Int → Option (List Nat)} (W : Wd a p m q m2 v w dv l wr s D h B C) (hf : Fx m2 h h') (hc : Pt q m2 h' (s : Nat) (l.length : Nat) D C') : Wd a p m q m2 v w dv l wr s D h' B C' :=
  have k := W.c.notc
  ⟨Bs.fx W.v hf k, Bs.fx W.w hf k, (hf.2 _ W.a (fun hh => k _ _ _ (hh ▸ W.g))).trans W.g, Nat.lt_of_lt_of_le W.a hf.1, W.d.fx hf k, W.b.fx hf k W.ne, hc, W.ne⟩
/-- Of the layout of a text: its size, its number of blocks, its digests. -/
structure Lt (l : List Nat) (s : Nat) (D : List (List Nat)) : Prop where
  b : ∀ b ∈ l, b < 256
  n : l.length ≤ 300
  s1 : 1 ≤ s
  s2 : s ≤ 60
  c : cnt (l.length : Nat) (s : Nat) ≤ 1024
  d : D = digs l s (cnt (l.length : Nat) (s : Nat)).toNat
theorem Lt.len {l : List Nat} {s : Nat} {D : List (List Nat)} (L : Lt l s D) : (D.length : Int) = cnt (l.length : Nat) (s : Nat) ∧ D.length ≤ 1024 := by
  have h1 := L.s1
  have h2 := L.s2
  have h3 := L.n
  have h4 := L.c
  have cb := cnt_b (ln := (l.length : Nat)) (s := (s : Nat)) (by omega) (by omega) (by omega) (by omega)
  rw [L.d, digs_len]
  omega
theorem Lt.chkd {l : List Nat} {s : Nat} {D : List (List Nat)} (L : Lt l s D) : chk (s : Nat) (l.length : Nat) D.length = 0 := by
  have h1 := L.s1
  have h2 := L.s2
  have h3 := L.n
  have := chk_ok (ln := l.length) (s := s) (by omega) (by omega) (by omega) L.c
  rw [L.d, digs_len]
  exact this
theorem Lt.d32 {l : List Nat} {s : Nat} {D : List (List Nat)} (L : Lt l s D) : ∀ d ∈ D, d.length = 32 := by
  rw [L.d]
  exact digs_32 l s _
theorem Lt.lt {l : List Nat} {s : Nat} {D : List (List Nat)} (L : Lt l s D) {i : Nat} (hi : i < D.length) : i * s < l.length := by
  have := L.len.1
  exact (cnt_iff L.s1).1 (by omega)
theorem Lt.all {l : List Nat} {s : Nat} {D : List (List Nat)} (L : Lt l s D) : l.length ≤ D.length * s := by
  have := L.len.1
  rcases Nat.lt_or_ge (D.length * s) l.length with h | h
  · have := (cnt_iff (i := D.length) L.s1).2 h
    omega
  · exact h
theorem Lt.at {l : List Nat} {s : Nat} {D : List (List Nat)} (L : Lt l s D) {i : Nat} (hi : i < D.length) : atV (s : Nat) (l.length : Nat) D.length (i : Nat) = .tup [.int .i64 ((i * s : Nat) : Int), .int .i64 ((min l.length (i * s + s) : Nat) : Int), .bool true] := by
  rw [atV, if_pos ⟨L.chkd, by omega, by omega⟩]
  unfold frm too
  rw [minc, Int.add_mul, Int.one_mul, ← Int.natCast_mul]
theorem Lt.fits {l : List Nat} {s : Nat} {D : List (List Nat)} (L : Lt l s D) {i : Nat} (hi : i < D.length) : fit (s : Nat) (l.length : Nat) D (i : Nat) (stre l s i) = 0 := by
  have h1 := L.s1
  have h2 := L.s2
  have h3 := L.n
  have := L.len.1
  have := fit_ok (l := l) (s := s) (i := i) (by omega) (by omega) (by omega) L.c (by omega)
  rw [← L.d] at this
  exact this
theorem Lt.strb {l : List Nat} {s : Nat} {D : List (List Nat)} (L : Lt l s D) (i : Nat) : (∀ b ∈ stre l s i, b < 256) ∧ (stre l s i).length ≤ 300 := by
  refine ⟨fun b hb => L.b b (List.mem_of_mem_drop (List.mem_of_mem_take hb)), ?_⟩
  have h3 := L.n
  rw [stre_len]
  omega
theorem Lt.bad {l : List Nat} {s : Nat} {D : List (List Nat)} (L : Lt l s D) {i : Nat} (hi : i < D.length) {wr : List Nat} (hw : wr.length ≠ (stre l s i).length) : dig.fit (s : Nat) (l.length : Nat) D (i : Nat) wr = 13 := by
  refine fit_len L.chkd (by omega) (by omega) ?_
  have h0 := L.lt hi
  rw [stre_len] at hw
  unfold too frm
  rw [Int.add_mul, Int.one_mul, ← Int.natCast_mul]
  omega

section
variable {S : Sums} {a p m q m2 : Nat} {v w dv : AV} {l wr : List Nat} {s : Nat} {D : List (List Nat)} {h : AH} {B C : Int → Option (List Nat)}
theorem wd_at (hN : Nt S) (L : Lt l s D) (W : Wd a p m q m2 v w dv l wr s D h B C) {i : Nat} (hi : i < D.length) :
    RnC Try.prog S 9 [.agg [.int .i64 (s : Nat), .int .i64 (l.length : Nat), dv], .int .i64 (i : Nat)] h fun r h' => r = .tup [.int .i64 ((i * s : Nat) : Int), .int .i64 ((min l.length (i * s + s) : Nat) : Int), .bool true] ∧ Wd a p m q m2 v w dv l wr s D h' B C :=
  (at9 hN W.d).mono fun r h' ⟨h1, h2⟩ => ⟨h1.trans (L.at hi), W.fr h2⟩
theorem wd_slice (W : Wd a p m q m2 v w dv l wr s D h B C) {i : Nat} (hi : i * s < l.length) : ∃ x, (∀ g, evSlice Try.prog g 22 v (some (.int .i64 ((i * s : Nat) : Int))) (some (.int .i64 ((min l.length (i * s + s) : Nat) : Int))) none = some x) ∧ Bs h x (stre l s i) := by
  obtain ⟨v3, s3, b3, sv3, ov3⟩ := W.v.slice_mid Try.underlying22 tz5 (lo := i * s) (hi := min l.length (i * s + s)) (by omega) (by omega)
  rw [stre_mid] at b3
  exact ⟨v3, s3, b3⟩
theorem wd_put1 (hS : Nu S) (hN : Nt S) (hd : Dg S) (L : Lt l s D) (W : Wd a p m q m2 v w dv l wr s D h B C) {i : Nat} (hi : i < D.length) {x : AV} (hx : Bs h x (stre l s i)) :
    RnC Try.prog S 10 [.ptr p 0, .int .i64 (i : Nat), x] h fun r h' => r = .int .i64 0 ∧ Wd a p m q m2 v w dv l wr s D h' (putB B (i : Nat) (stre l s i)) C := by
  have k := L.strb i
  refine (put10 hS hN hd W.b L.d32 hx k.1 (by omega)).mono ?_
  rintro r h' ⟨rfl, h2⟩
  rw [L.fits hi, if_pos rfl] at h2
  exact ⟨by rw [L.fits hi]; rfl, W.fx1 h2.1 h2.2⟩
theorem wd_put2 (hS : Nu S) (hN : Nt S) (hd : Dg S) (L : Lt l s D) (W : Wd a p m q m2 v w dv l wr s D h B C) {i : Nat} (hi : i < D.length) {x : AV} (hx : Bs h x (stre l s i)) :
    RnC Try.prog S 10 [.ptr q 0, .int .i64 (i : Nat), x] h fun r h' => r = .int .i64 0 ∧ Wd a p m q m2 v w dv l wr s D h' B (putB C (i : Nat) (stre l s i)) := by
  have k := L.strb i
  refine (put10 hS hN hd W.c L.d32 hx k.1 (by omega)).mono ?_
  rintro r h' ⟨rfl, h2⟩
  rw [L.fits hi, if_pos rfl] at h2
  exact ⟨by rw [L.fits hi]; rfl, W.fx2 h2.1 h2.2⟩
theorem wd_bad2 (hS : Nu S) (hN : Nt S) (hd : Dg S) (L : Lt l s D) (W : Wd a p m q m2 v w dv l wr s D h B C) {i : Nat} (hi : i < D.length) (hw : wr.length ≠ (stre l s i).length) (hwb : ∀ b ∈ wr, b < 256) (hwn : wr.length ≤ 300) :
    RnC Try.prog S 10 [.ptr q 0, .int .i64 (i : Nat), w] h fun r h' => r = .int .i64 13 ∧ Wd a p m q m2 v w dv l wr s D h' B C := by
  refine (put10 hS hN hd W.c L.d32 W.w hwb (by omega)).mono ?_
  rintro r h' ⟨rfl, h2⟩
  have e := L.bad hi hw
  rw [e, if_neg (by decide)] at h2
  exact ⟨by rw [e]; rfl, W.fr h2⟩
theorem wd_out1 (hS : Nu S) (hN : Nt S) (hd : Dg S) (L : Lt l s D) (W : Wd a p m q m2 v w dv l wr s D h B C) {n : Int} (hn : n < 0 ∨ (D.length : Int) ≤ n) (hwb : ∀ b ∈ wr, b < 256) (hwn : wr.length ≤ 300) :
    RnC Try.prog S 10 [.ptr p 0, .int .i64 n, w] h fun r h' => r = .int .i64 6 ∧ Wd a p m q m2 v w dv l wr s D h' B C := by
  refine (put10 hS hN hd W.b L.d32 W.w hwb (by omega)).mono ?_
  rintro r h' ⟨rfl, h2⟩
  have e := fit_out (l := wr) L.chkd hn
  rw [e, if_neg (by decide)] at h2
  exact ⟨by rw [e]; rfl, W.fr h2⟩
theorem wd_has2 (hS : Nu S) (W : Wd a p m q m2 v w dv l wr s D h B C) {i : Nat} :
    RnC Try.prog S 12 [.ptr q 0, .int .i64 (i : Nat)] h fun r h' => r = .bool (C (i : Nat)).isSome ∧ Wd a p m q m2 v w dv l wr s D h' B C :=
  (has12 hS W.c).mono fun r h' ⟨h1, h2⟩ => ⟨h1, W.fr h2⟩
theorem is_len {n0 : Nat} {h : AH} {v : AV} {l : List Int} (hb : Is n0 h v l) : ∀ g, evLen Try.prog g #[37] v = some (.int .i64 (l.length : Nat)) := by
  rcases hb with ⟨rfl, rfl⟩ | ⟨id, rfl, _⟩
  · exact fun g => by simp [evLen, Try.underlying37]
  · exact fun g => by simp [evLen, Try.underlying37]
theorem wd_left1 (hS : Nu S) (L : Lt l s D) (W : Wd a p m q m2 v w dv l wr s D h B C) :
    RnC Try.prog S 11 [.ptr p 0] h fun r h' => (∀ g, evLen Try.prog g #[37] r = some (.int .i64 ((mis B D.length).length : Nat))) ∧ Wd a p m q m2 v w dv l wr s D h' B C :=
  (left11 hS L.len.2 W.b).mono fun r h' ⟨h1, h2⟩ => ⟨is_len h1, W.fr h2⟩
theorem wd_left2 (hS : Nu S) (L : Lt l s D) (W : Wd a p m q m2 v w dv l wr s D h B C) :
    RnC Try.prog S 11 [.ptr q 0] h fun r h' => (∀ g, evLen Try.prog g #[37] r = some (.int .i64 ((mis C D.length).length : Nat))) ∧ Wd a p m q m2 v w dv l wr s D h' B C :=
  (left11 hS L.len.2 W.c).mono fun r h' ⟨h1, h2⟩ => ⟨is_len h1, W.fr h2⟩

theorem wd_bytes1 (hS : Nu S) (L : Lt l s D) (W : Wd a p m q m2 v w dv l wr s D h B C) (hB : ∀ j : Nat, j < D.length → B j = some (stre l s j)) :
    RnC Try.prog S 13 [.ptr p 0] h fun r h' => (∃ x, r = .tup [x, .int .i64 0] ∧ Bs h' x l) ∧ Wd a p m q m2 v w dv l wr s D h' B C := by
  have hc : cat B D.length = l := (cat_stre D.length hB).trans (List.take_of_length_le L.all)
  have hm : mis B D.length = [] := List.eq_nil_of_length_eq_zero (by
    rw [mis_last (k := D.length) (c := D.length) (fun i _ hi => by rw [hB i hi]; rfl) (fun i hi => absurd hi (by omega)) (Nat.le_refl _) D.length (Nat.le_refl _)]
    omega)
  have hn := L.n
  refine (bytes13 hS L.len.2 W.b (by rw [hc]; omega)).mono ?_
  rintro r h' ⟨h1, h2⟩
  rw [if_pos hm, hc] at h1
  exact ⟨h1, W.fr h2⟩
theorem wd_bytes2 (hS : Nu S) (L : Lt l s D) (W : Wd a p m q m2 v w dv l wr s D h B C) (hC : ∀ j : Nat, j < D.length → C j = some (stre l s j)) :
    RnC Try.prog S 13 [.ptr q 0] h fun r h' => (∃ x, r = .tup [x, .int .i64 0] ∧ Bs h' x l) ∧ Wd a p m q m2 v w dv l wr s D h' B C ∧ Fr h h' := by
  have hc : cat C D.length = l := (cat_stre D.length hC).trans (List.take_of_length_le L.all)
  have hm : mis C D.length = [] := List.eq_nil_of_length_eq_zero (by
    rw [mis_last (k := D.length) (c := D.length) (fun i _ hi => by rw [hC i hi]; rfl) (fun i hi => absurd hi (by omega)) (Nat.le_refl _) D.length (Nat.le_refl _)]
    omega)
  have hn := L.n
  refine (bytes13 hS L.len.2 W.c (by rw [hc]; omega)).mono ?_
  rintro r h' ⟨h1, h2⟩
  rw [if_pos hm, hc] at h1
  exact ⟨h1, W.fr h2, h2⟩

/-- After i rounds: the first holds its first i blocks, the second its last i. -/
structure Rd (l : List Nat) (s c i : Nat) (B C : Int → Option (List Nat)) : Prop where
  b1 : ∀ j : Nat, j < i → B j = some (stre l s j)
  b2 : ∀ j : Nat, i ≤ j → B j = none
  c1 : ∀ j : Nat, c ≤ j + i → j < c → C j = some (stre l s j)
  c2 : ∀ j : Nat, j + i < c → C j = none
theorem Rd.b_next {c i : Nat} (R : Rd l s c i B C) : (∀ j : Nat, j < i + 1 → putB B (i : Nat) (stre l s i) j = some (stre l s j)) ∧ ∀ j : Nat, i + 1 ≤ j → putB B (i : Nat) (stre l s i) j = none := by
  unfold putB
  refine ⟨fun j hj => ?_, fun j hj => ?_⟩
  · by_cases h : j = i
    · rw [if_pos (by omega), h]
    · rw [if_neg (by omega)]
      exact R.b1 j (by omega)
  · rw [if_neg (by omega)]
    exact R.b2 j (by omega)
theorem Rd.c_next {c i k : Nat} (R : Rd l s c i B C) (hk : k + i + 1 = c) {C' : Int → Option (List Nat)} (hC : ∀ j : Nat, C' j = if j = k then some (stre l s k) else C j) : (∀ j : Nat, c ≤ j + (i + 1) → j < c → C' j = some (stre l s j)) ∧ ∀ j : Nat, j + (i + 1) < c → C' j = none := by
  refine ⟨fun j hj hj2 => ?_, fun j hj => ?_⟩
  · rw [hC]
    by_cases h : j = k
    · rw [if_pos h, h]
    · rw [if_neg h]
      exact R.c1 j (by omega) hj2
  · rw [hC, if_neg (by omega)]
    exact R.c2 j (by omega)
theorem putB2 {k : Nat} {x y : List Nat} (j : Nat) : putB (putB C (k : Nat) x) (k : Nat) y j = if j = k then some y else C j := by
  unfold putB
  by_cases h : j = k
  · rw [if_pos (by omega), if_pos h]
  · rw [if_neg (by omega), if_neg (by omega), if_neg h]
end
end Go.Proofs.Ytmdkibpieeiadaa.dig
