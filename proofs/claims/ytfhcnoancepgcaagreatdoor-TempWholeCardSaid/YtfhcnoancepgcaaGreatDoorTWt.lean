/- A temp of the program with what the law TempWhole holds beside it. Conditions: the digest's constants are summaries; none else. -/
import Derived.Test.YtfhcnoancepgcaaGreatDoorTMm
namespace Go.Proofs.YtfhcnoancepgcaaGreatDoor.dig
open Go Go.Abs Go.Proofs
set_option maxRecDepth 100000
set_option linter.unusedVariables false
set_option linter.unusedSimpArgs false

theorem Pt.notc {p m : Nat} {h : AH} {s ln : Int} {D : List (List Nat)} {B : Int → Option (List Nat)} (hp : Pt p m h s ln D B) : ∀ cs o t, h.get m ≠ some (.cells cs o t) := by
  obtain ⟨⟨dv, E, bs, ck, h1, h2, h3, h4, h5⟩, h6, h7⟩ := hp
  intro cs o t hh
  rw [h2] at hh
  cases hh
/-- Of the layout of a text: its size, its number of blocks, its digests. -/
structure Lt (l : List Nat) (s : Nat) (D : List (List Nat)) : Prop where
  b : ∀ b ∈ l, b < 256
  n : l.length ≤ 300
  s1 : 1 ≤ s
  s2 : s ≤ 60
  c : cnt (l.length : Nat) (s : Nat) ≤ 1024
  d : D = digs l s (cnt (l.length : Nat) (s : Nat)).toNat
theorem Lt.len {l : List Nat} {s : Nat} {D : List (List Nat)} (L : Lt l s D) : (D.length : Int) = cnt (l.length : Nat) (s : Nat) ∧ D.length ≤ 1024 := by
  have h1 := L.s1
  have h2 := L.s2
  have h3 := L.n
  have h4 := L.c
  have cb := cnt_b (ln := (l.length : Nat)) (s := (s : Nat)) (by omega) (by omega) (by omega) (by omega)
  rw [L.d, digs_len]
  omega
theorem Lt.chkd {l : List Nat} {s : Nat} {D : List (List Nat)} (L : Lt l s D) : chk (s : Nat) (l.length : Nat) D.length = 0 := by
  have h1 := L.s1
  have h2 := L.s2
  have h3 := L.n
  have := chk_ok (ln := l.length) (s := s) (by omega) (by omega) (by omega) L.c
  rw [L.d, digs_len]
  exact this
theorem Lt.d32 {l : List Nat} {s : Nat} {D : List (List Nat)} (L : Lt l s D) : ∀ d ∈ D, d.length = 32 := by
  rw [L.d]
  exact digs_32 l s _
theorem Lt.lt {l : List Nat} {s : Nat} {D : List (List Nat)} (L : Lt l s D) {i : Nat} (hi : i < D.length) : i * s < l.length := by
  have := L.len.1
  exact (cnt_iff L.s1).1 (by omega)
theorem Lt.all {l : List Nat} {s : Nat} {D : List (List Nat)} (L : Lt l s D) : l.length ≤ D.length * s := by
  have := L.len.1
  rcases Nat.lt_or_ge (D.length * s) l.length with h | h
  · have := (cnt_iff (i := D.length) L.s1).2 h
    omega
  · exact h
theorem Lt.at {l : List Nat} {s : Nat} {D : List (List Nat)} (L : Lt l s D) {i : Nat} (hi : i < D.length) : atV (s : Nat) (l.length : Nat) D.length (i : Nat) = .tup [.int .i64 ((i * s : Nat) : Int), .int .i64 ((min l.length (i * s + s) : Nat) : Int), .bool true] := by
  rw [atV, if_pos ⟨L.chkd, by omega, by omega⟩]
  unfold frm too
  rw [minc, Int.add_mul, Int.one_mul, ← Int.natCast_mul]
theorem Lt.fits {l : List Nat} {s : Nat} {D : List (List Nat)} (L : Lt l s D) {i : Nat} (hi : i < D.length) : fit (s : Nat) (l.length : Nat) D (i : Nat) (stre l s i) = 0 := by
  have h1 := L.s1
  have h2 := L.s2
  have h3 := L.n
  have := L.len.1
  have := fit_ok (l := l) (s := s) (i := i) (by omega) (by omega) (by omega) L.c (by omega)
  rw [← L.d] at this
  exact this
theorem Lt.strb {l : List Nat} {s : Nat} {D : List (List Nat)} (L : Lt l s D) (i : Nat) : (∀ b ∈ stre l s i, b < 256) ∧ (stre l s i).length ≤ 300 := by
  refine ⟨fun b hb => L.b b (List.mem_of_mem_drop (List.mem_of_mem_take hb)), ?_⟩
  have h3 := L.n
  rw [stre_len]
  omega
/-- The calls that are made: their numbers, their bytes. -/
def Cl (h : AH) (cv : AV) (n id : Nat) (cs : List AV) (ks : Nat → Int) (bs : Nat → AV) (ls : Nat → List Nat) : Prop :=
  (cv = .nilsl ∧ n = 0) ∨ (cv = .sl id 0 n 2 none ∧ h.get id = some (.cells cs false false) ∧ id < h.nx ∧ ∀ i, i < n → cs[i * 2]? = some (.int .i64 (ks i)) ∧ cs[i * 2 + 1]? = some (bs i) ∧ Bs h (bs i) (ls i) ∧ ∀ b ∈ ls i, b < 256)
theorem Cl.fr {h h' : AH} {cv : AV} {n id : Nat} {cs : List AV} {ks : Nat → Int} {bs : Nat → AV} {ls : Nat → List Nat} (hc : Cl h cv n id cs ks bs ls) (hf : Fr h h') : Cl h' cv n id cs ks bs ls := by
  rcases hc with h1 | ⟨h1, h2, h3, h4⟩
  · exact .inl h1
  · exact .inr ⟨h1, (hf.get _ h3).trans h2, Nat.lt_of_lt_of_le h3 hf.nx, fun i hi => ⟨(h4 i hi).1, (h4 i hi).2.1, (h4 i hi).2.2.1.fr hf, (h4 i hi).2.2.2⟩⟩
theorem Cl.fx {m : Nat} {h h' : AH} {cv : AV} {n id : Nat} {cs : List AV} {ks : Nat → Int} {bs : Nat → AV} {ls : Nat → List Nat} (hc : Cl h cv n id cs ks bs ls) (hf : Fx m h h') (hm : ∀ cs o t, h.get m ≠ some (.cells cs o t)) : Cl h' cv n id cs ks bs ls := by
  rcases hc with h1 | ⟨h1, h2, h3, h4⟩
  · exact .inl h1
  · exact .inr ⟨h1, (hf.2 _ h3 (fun hh => hm _ _ _ (hh ▸ h2))).trans h2, Nat.lt_of_lt_of_le h3 hf.1, fun i hi => ⟨(h4 i hi).1, (h4 i hi).2.1, Bs.fx (h4 i hi).2.2.1 hf hm, (h4 i hi).2.2.2⟩⟩
/-- All that the law looks at. -/
structure Wk (a p m n id : Nat) (v cv dv : AV) (cs : List AV) (ks : Nat → Int) (bs : Nat → AV) (ls : Nat → List Nat) (l : List Nat) (s : Nat) (D : List (List Nat)) (h : AH) (B : Int → Option (List Nat)) : Prop where
  v : Bs h v l
  c : Cl h cv n id cs ks bs ls
  g : h.get a = some (.cells [.int .i64 (s : Nat), .int .i64 (l.length : Nat), dv] true false)
  a : a < h.nx
  d : Ds h dv D
  b : Pt p m h (s : Nat) (l.length : Nat) D B
section
variable {S : Sums} {a p m n id : Nat} {v cv dv : AV} {cs : List AV} {ks : Nat → Int} {bs : Nat → AV} {ls : Nat → List Nat} {l : List Nat} {s : Nat} {D : List (List Nat)} {h h' : AH} {B B' : Int → Option (List Nat)}
theorem Wk.fr (W : Wk a p m n id v cv dv cs ks bs ls l s D h B) (hf : Fr h h') : Wk a p m n id v cv dv cs ks bs ls l s D h' B :=
  ⟨W.v.fr hf, W.c.fr hf, (hf.get _ W.a).trans W.g, Nat.lt_of_lt_of_le W.a hf.nx, W.d.fr hf, W.b.fr hf⟩
theorem Wk.fx (W : Wk a p m n id v cv dv cs ks bs ls l s D h B) (hf : Fx m h h') (hb : Pt p m h' (s : Nat) (l.length : Nat) D B') : Wk a p m n id v cv dv cs ks bs ls l s D h' B' :=
  have k := W.b.notc
  ⟨Bs.fx W.v hf k, W.c.fx hf k, (hf.2 _ W.a (fun hh => k _ _ _ (hh ▸ W.g))).trans W.g, Nat.lt_of_lt_of_le W.a hf.1, Ds.fx W.d hf k, hb⟩
theorem wk_at (hN : Nt S) (L : Lt l s D) (W : Wk a p m n id v cv dv cs ks bs ls l s D h B) {i : Nat} (hi : i < D.length) :
    RnC Tryz.prog S 9 [.agg [.int .i64 (s : Nat), .int .i64 (l.length : Nat), dv], .int .i64 (i : Nat)] h fun r h' => r = .tup [.int .i64 ((i * s : Nat) : Int), .int .i64 ((min l.length (i * s + s) : Nat) : Int), .bool true] ∧ Wk a p m n id v cv dv cs ks bs ls l s D h' B :=
  (at9 hN W.d).mono fun r h' ⟨h1, h2⟩ => ⟨h1.trans (L.at hi), W.fr h2⟩
theorem wk_slice (W : Wk a p m n id v cv dv cs ks bs ls l s D h B) {i : Nat} (hi : i * s < l.length) : ∃ x, (∀ g, evSlice Tryz.prog g 22 v (some (.int .i64 ((i * s : Nat) : Int))) (some (.int .i64 ((min l.length (i * s + s) : Nat) : Int))) none = some x) ∧ Bs h x (stre l s i) := by
  obtain ⟨v3, s3, b3, sv3, ov3⟩ := W.v.slice_mid Tryz.underlying22 tz5 (lo := i * s) (hi := min l.length (i * s + s)) (by omega) (by omega)
  rw [stre_mid] at b3
  exact ⟨v3, s3, b3⟩
theorem wk_put (hS : Nu S) (hN : Nt S) (hd : Dg S) (L : Lt l s D) (W : Wk a p m n id v cv dv cs ks bs ls l s D h B) {i : Nat} (hi : i < D.length) {x : AV} (hx : Bs h x (stre l s i)) :
    RnC Tryz.prog S 8 [.ptr p 0, .int .i64 (i : Nat), x] h fun r h' => r = .int .i64 0 ∧ Wk a p m n id v cv dv cs ks bs ls l s D h' (putB B (i : Nat) (stre l s i)) := by
  have k := L.strb i
  refine (put10 hS hN hd W.b L.d32 hx k.1 (by omega)).mono ?_
  rintro r h' ⟨rfl, h2⟩
  rw [L.fits hi, if_pos rfl] at h2
  exact ⟨by rw [L.fits hi]; rfl, W.fx h2.1 h2.2⟩
theorem wk_any (hS : Nu S) (hN : Nt S) (hd : Dg S) (L : Lt l s D) (W : Wk a p m n id v cv dv cs ks bs ls l s D h B) {k : Int} {x : AV} {y : List Nat} (hx : Bs h x y) (hy : ∀ b ∈ y, b < 256) (hl : y.length ≤ 300) :
    RnC Tryz.prog S 8 [.ptr p 0, .int .i64 k, x] h fun r h' => (∃ e : Nat, r = .int .i64 (e : Nat)) ∧ ∃ B', Wk a p m n id v cv dv cs ks bs ls l s D h' B' := by
  refine (put10 hS hN hd W.b L.d32 hx hy (by omega)).mono ?_
  rintro r h' ⟨rfl, h2⟩
  refine ⟨⟨_, rfl⟩, ?_⟩
  split at h2
  · exact ⟨_, W.fx h2.1 h2.2⟩
  · exact ⟨_, W.fr h2⟩
theorem wk_has (hS : Nu S) (W : Wk a p m n id v cv dv cs ks bs ls l s D h B) {i : Nat} :
    RnC Tryz.prog S 10 [.ptr p 0, .int .i64 (i : Nat)] h fun r h' => r = .bool (B (i : Nat)).isSome ∧ Wk a p m n id v cv dv cs ks bs ls l s D h' B :=
  (has12 hS W.b).mono fun r h' ⟨h1, h2⟩ => ⟨h1, W.fr h2⟩
theorem mis_all (hB : ∀ j : Nat, j < D.length → B j = some (stre l s j)) : mis B D.length = [] := List.eq_nil_of_length_eq_zero (by
  rw [mis_last (k := D.length) (c := D.length) (fun i _ hi => by rw [hB i hi]; rfl) (fun i hi => absurd hi (by omega)) (Nat.le_refl _) D.length (Nat.le_refl _)]
  omega)
theorem wk_bytes (hS : Nu S) (L : Lt l s D) (W : Wk a p m n id v cv dv cs ks bs ls l s D h B) (hB : ∀ j : Nat, j < D.length → B j = some (stre l s j)) :
    RnC Tryz.prog S 11 [.ptr p 0] h fun r h' => (∃ x, r = .tup [x, .int .i64 0] ∧ Bs h' x l) ∧ Wk a p m n id v cv dv cs ks bs ls l s D h' B := by
  have hc : cat B D.length = l := (cat_stre D.length hB).trans (List.take_of_length_le L.all)
  have hn := L.n
  refine (bytes13 hS L.len.2 W.b (by rw [hc]; omega)).mono ?_
  rintro r h' ⟨h1, h2⟩
  rw [if_pos (mis_all hB), hc] at h1
  exact ⟨h1, W.fr h2⟩
theorem wk_left (hS : Nu S) (L : Lt l s D) (W : Wk a p m n id v cv dv cs ks bs ls l s D h B) (hB : ∀ j : Nat, j < D.length → B j = some (stre l s j)) :
    RnC Tryz.prog S 13 [.ptr p 0] h fun r h' => (∀ g, evLen Tryz.prog g #[44] r = some (.int .i64 ((0 : Nat) : Int))) ∧ Fr h h' := by
  refine (left11 hS L.len.2 W.b).mono ?_
  rintro r h' ⟨h1, h2⟩
  rw [mis_all hB] at h1
  refine ⟨fun g => ?_, h2⟩
  rcases h1 with ⟨rfl, _⟩ | ⟨i, rfl, _⟩
  · simp [evLen, Tryz.underlying44]
  · simp [evLen, Tryz.underlying44]
theorem tmM (a : Int) {m : Nat} (hm : 0 < m) : -(m : Int) < a.tmod m ∧ a.tmod m < m := by
  rcases Int.le_total 0 a with h | h
  · rw [Int.tmod_eq_emod_of_nonneg h]
    have h1 := Int.emod_nonneg a (show (m : Int) ≠ 0 by omega)
    have h2 := Int.emod_lt_of_pos a (show (0 : Int) < m by omega)
    omega
  · have h2 : a.tmod m = -((-a).tmod m) := by rw [Int.neg_tmod, Int.neg_neg]
    rw [h2, Int.tmod_eq_emod_of_nonneg (by omega)]
    have h1 := Int.emod_nonneg (-a) (show (m : Int) ≠ 0 by omega)
    have h2 := Int.emod_lt_of_pos (-a) (show (0 : Int) < m by omega)
    omega
theorem pickM (hS : Nu S) {h : AH} {a : Int} {m : Nat} (hm : 0 < m) (hm2 : m ≤ 1000000) : RnC Tryz.prog S 5 [.int .i64 a, .int .i64 (m : Nat)] h fun r h' => (∃ q : Nat, r = .int .i64 (q : Nat) ∧ q < m) ∧ h' = h := by
  refine RnC.enter' Tryz.f5 _ 14 [.tmp 4] (hS _ _ _ (by simp)) bd5 Tryz.func5 rfl rfl rfl ?_
  have hb := tmM a hm
  have c0 : ¬ ((m : Nat) : Int) = 0 := by omega
  by_cases c : a.tmod m < 0
  · simp (maxSteps := 1000000) -dsimp (disch := (repeat first | rw [nxn] | rw [nxp]); try omega) only [go_sem, evLen, c0, c]
    exact ⟨⟨(a.tmod m + m).toNat, by rw [Int.toNat_of_nonneg (by omega)], by omega⟩, trivial⟩
  · simp (maxSteps := 1000000) -dsimp (disch := (repeat first | rw [nxn] | rw [nxp]); try omega) only [go_sem, evLen, c0, c]
    exact ⟨⟨(a.tmod m).toNat, by rw [Int.toNat_of_nonneg (by omega)], by omega⟩, trivial⟩
end
end Go.Proofs.YtfhcnoancepgcaaGreatDoor.dig
