/- The law TempLays: what is done, in memory; two trees side by side; Pick, Texts. Conditions: those of its summaries. -/
import Derived.Test.YthkdhdcbhpknnaaGreatDoorTZo
import Derived.Test.YthkdhdcbhpknnaaGreatDoorTZm
namespace Go.Proofs.YthkdhdcbhpknnaaGreatDoor.tre
open Go Go.Abs Go.Abs.Wal Go.Proofs
set_option maxRecDepth 100000
set_option linter.unusedVariables false
set_option linter.unusedSimpArgs false

structure Ly where
 k : Int
 p : Pth
 bv : AV
 l : List Nat
 n : Int
def Ly.cells (a : Ly) : List AV := [.int .i64 a.k, .str a.p, a.bv, .int .i64 a.n]
structure LyOK (K : Nat → Nat) (h : AH) (a : Ly) : Prop where
 b : Bz K h a.bv a.l
 bl : ∀ x ∈ a.l, x < 256
theorem LyOK.gr {K K' : Nat → Nat} {h h' : AH} {a : Ly} (ha : LyOK K h a) (g : Gr K h K' h') : LyOK K' h' a := ⟨ha.b.gr g, ha.bl⟩
/-- What is to be done, in memory. -/
def Lys (K : Nat → Nat) (h : AH) (v : AV) (L : List Ly) : Prop :=
 (∀ a ∈ L, LyOK K h a) ∧ ((v = .nilsl ∧ L = []) ∨ ∃ id cs o t, v = .sl id 0 L.length 4 none ∧ h.get id = some (.cells cs o t) ∧ id < h.nx ∧ K id = 0 ∧ ∀ (i : Nat) a, L[i]? = some a → i * 4 + 4 ≤ cs.length ∧ (cs.drop (i * 4)).take 4 = a.cells)
theorem Lys.gr {K K' : Nat → Nat} {h h' : AH} {v : AV} {L : List Ly} (ha : Lys K h v L) (g : Gr K h K' h') : Lys K' h' v L := by
 refine ⟨fun a hm => (ha.1 a hm).gr g, ?_⟩
 rcases ha.2 with h1 | ⟨id, cs, o, t, h1, h2, h3, h4, h5⟩
 ·exact .inl h1
 ·exact .inr ⟨id, cs, o, t, h1, (g.get id h3 h4).1.trans h2, Nat.lt_of_lt_of_le h3 g.nx, (g.get id h3 h4).2, h5⟩
theorem Lys.ln {K : Nat → Nat} {h : AH} {v : AV} {L : List Ly} (ha : Lys K h v L) : (∀ g, evLen Tryz.prog g #[59] v = some (.int .i64 (L.length : Nat))) ∧ oneA v = true := by
 rcases ha.2 with ⟨rfl, rfl⟩ | ⟨id, cs, o, t, rfl, _⟩
 ·exact ⟨fun g => by simp [evLen, Tryz.underlying59], rfl⟩
 ·exact ⟨fun g => by simp [evLen, Tryz.underlying59], rfl⟩
theorem Ly.get {cs : List AV} {i : Nat} {a : Ly} (h : (cs.drop (i * 4)).take 4 = a.cells) (j : Nat) (hj : j < 4) : cs[i * 4 + j]? = a.cells[j]? := by
 rw [← h, List.getElem?_take_of_lt hj, List.getElem?_drop]
/-- Two trees have nothing in common. -/
def Ap (Ka Kb : Nat → Nat) : Prop := ∀ j, Ka j = 0 ∨ Kb j = 0
/-- The program's tree and the document's, side by side. -/
def Bt (pa pb : Nat) (T R : TT) (g : AH) (Ks : Nat → Nat) : Prop :=
 ∃ Ka na sa ca ρa Kb lb sb nb ρb, Tr Ka pa na sa ca ρa g T ∧ Rt Kb pb lb sb nb ρb g R ∧ Ap Ka Kb ∧ Ks = fun j => Ka j + Kb j
section
variable {pa pb : Nat} {T R : TT} {g : AH} {Ks : Nat → Nat}
theorem Bt.fr (hb : Bt pa pb T R g Ks) {g' : AH} (f : Fr g g') : Bt pa pb T R g' Ks := by
 obtain ⟨Ka, na, sa, ca, ρa, Kb, lb, sb, nb, ρb, h1, h2, h3, h4⟩ := hb
 exact ⟨Ka, na, sa, ca, ρa, Kb, lb, sb, nb, ρb, h1.fr f, h2.fr f, h3, h4⟩
theorem Bt.wf (hb : Bt pa pb T R g Ks) : Wf T := by
 obtain ⟨Ka, na, sa, ca, ρa, Kb, lb, sb, nb, ρb, h1, h2, h3, h4⟩ := hb
 exact h1.wf
theorem Bt.top (hb : Bt pa pb T R g Ks) : ∀ j, g.nx ≤ j → Ks j = 0 := by
 obtain ⟨Ka, na, sa, ca, ρa, Kb, lb, sb, nb, ρb, h1, h2, h3, rfl⟩ := hb
 intro j hj
 show Ka j + Kb j = 0
 rw [h1.top j hj, h2.top j hj]
theorem Bt.opA (hb : Bt pa pb T R g Ks) {S : Sums} {f : FuncId} {args : List AV} {φ : AV → Prop} {T' : TT}
  (hc : ∀ Ka na sa ca ρa, Tr Ka pa na sa ca ρa g T → (∀ j, Ks j = 0 → Ka j = 0) → RnC Tryz.prog S f args g fun r h' => φ r ∧ Res Ka pa g h' T') :
  RnC Tryz.prog S f args g fun r h' => φ r ∧ ∃ Ks', Bt pa pb T' R h' Ks' ∧ Gr Ks g Ks' h' := by
 obtain ⟨Ka, na, sa, ca, ρa, Kb, lb, sb, nb, ρb, h1, h2, h3, rfl⟩ := hb
 refine (hc Ka na sa ca ρa h1 fun j hj => by have hj' : Ka j + Kb j = 0 := hj; omega).mono ?_
 rintro r h' ⟨hr, K', nm, sm, chv, ρ, hT', gr⟩
 have ha : ∀ j, Kb j ≠ 0 → Ka j = 0 := fun j hj => (h3 j).elim id fun hh => absurd hh hj
 refine ⟨hr, _, ⟨K', nm, sm, chv, ρ, Kb, lb, sb, nb, ρb, hT', h2.mono (fun j hj => (gr.get j (h2.lt hj) (ha j hj)).1) gr.nx, fun j => ?_, rfl⟩, ⟨gr.nx, fun j hj hk => ?_⟩⟩
 ·by_cases hj : Kb j = 0
  ·exact .inr hj
  ·exact .inl (gr.get j (h2.lt hj) (ha j hj)).2
 ·have hk' : Ka j + Kb j = 0 := hk
  obtain ⟨e1, e2⟩ := gr.get j hj (by omega)
  exact ⟨e1, by show K' j + Kb j = 0; omega⟩
theorem Bt.opB (hb : Bt pa pb T R g Ks) {S : Sums} {f : FuncId} {args : List AV} {φ : AV → Prop} {R' : TT}
  (hc : ∀ Kb lb sb nb ρb, Rt Kb pb lb sb nb ρb g R → (∀ j, Ks j = 0 → Kb j = 0) → RnC Tryz.prog S f args g fun r h' => φ r ∧ ResD Kb pb g h' R') :
  RnC Tryz.prog S f args g fun r h' => φ r ∧ ∃ Ks', Bt pa pb T R' h' Ks' ∧ Gr Ks g Ks' h' := by
 obtain ⟨Ka, na, sa, ca, ρa, Kb, lb, sb, nb, ρb, h1, h2, h3, rfl⟩ := hb
 refine (hc Kb lb sb nb ρb h2 fun j hj => by have hj' : Ka j + Kb j = 0 := hj; omega).mono ?_
 rintro r h' ⟨hr, K', lv, sv, nv, ρ, hT', gr⟩
 have ha : ∀ j, Ka j ≠ 0 → Kb j = 0 := fun j hj => (h3 j).elim (fun hh => absurd hh hj) id
 refine ⟨hr, _, ⟨Ka, na, sa, ca, ρa, K', lv, sv, nv, ρ, h1.mono (fun j hj => (gr.get j (h1.lt hj) (ha j hj)).1) gr.nx, hT', fun j => ?_, rfl⟩, ⟨gr.nx, fun j hj hk => ?_⟩⟩
 ·by_cases hj : Ka j = 0
  ·exact .inl hj
  ·exact .inr (gr.get j (h1.lt hj) (ha j hj)).2
 ·have hk' : Ka j + Kb j = 0 := hk
  obtain ⟨e1, e2⟩ := gr.get j hj (by omega)
  exact ⟨e1, by show Ka j + K' j = 0; omega⟩
end
/-- A number by another, not below 0. -/
def pkn (a n : Int) : Int := if a.tmod n < 0 then a.tmod n + n else a.tmod n
theorem pkn_ge (a : Int) {n : Int} (hn : 0 < n) : 0 ≤ pkn a n := by
 have h2 := Int.lt_tmod_of_pos a hn
 unfold pkn
 split <;> omega
theorem pkn_lt (a : Int) {n : Int} (hn : 0 < n) : pkn a n < n := by
 have h1 := Int.tmod_lt_of_pos a hn
 unfold pkn
 split <;> omega
section
variable {S : Sums}
structure Lw (S : Sums) : Prop extends Du S where
 nl : ∀ f args h, f ∈ [6, 23, 33, 4] → S f args h = none
theorem ownL (hS : Lw S) {h : AH} {v : AV} {l : List Nat} (hb : Bs h v l) (hl : l.length ≤ 1073741824) : RnC Tryz.prog S 23 [v] h fun r h' => Bn h.nx h' r l ∧ Fr h h' := by
 refine RnC.enter' Tryz.f23 _ 6 [.tmp 2] (hS.nl _ _ _ (by simp)) bd23 Tryz.func23 rfl rfl rfl ?_
 obtain ⟨v2, h2, ha, hf, hb2⟩ := Bo.app (h0 := h) (h := h.new (.cells [] true true)) (v := .sl h.nx 0 0 1 (some 0)) (l := []) Tryz.underlying22 ai5 ⟨h.nx, some 0, [], true, rfl, AH.get_new_eq rfl, Nat.lt_succ_self _, Nat.le_refl _, rfl, Nat.le_refl _, .inr rfl⟩ (hb.fr (Fr.new _ _)) (Fr.new _ _) (by simp; omega)
 simp (maxSteps := 1000000) -dsimp (disch := (repeat first | rw [nxn] | rw [nxp]); try omega) only [go_sem, evLen, ha]
 exact ⟨.inr (by simpa using hb2), hf⟩
theorem pkC (hS : Lw S) {h : AH} {a n : Int} (hn : 0 < n) (hn2 : n ≤ 1000) : RnC Tryz.prog S 6 [.int .i64 a, .int .i64 n] h fun r h' => r = .int .i64 (pkn a n) ∧ h' = h := by
 refine RnC.enter' Tryz.f6 _ 14 [.tmp 4] (hS.nl _ _ _ (by simp)) bd6 Tryz.func6 rfl rfl rfl ?_
 have h1 := Int.tmod_lt_of_pos a hn
 have h2 := Int.lt_tmod_of_pos a hn
 have c0 : ¬ n = 0 := by omega
 unfold pkn
 by_cases c : a.tmod n < 0
 ·rw [if_pos c]
  simp (maxSteps := 1000000) -dsimp (disch := (repeat first | rw [nxn] | rw [nxp]); try omega) only [go_sem, evLen, c0, c]
  exact ⟨trivial, trivial⟩
 ·rw [if_neg c]
  simp (maxSteps := 1000000) -dsimp (disch := (repeat first | rw [nxn] | rw [nxp]); try omega) only [go_sem, evLen, c0, c]
  exact ⟨trivial, trivial⟩
set_option maxHeartbeats 8000000 in
theorem textsG (hS : Lw S) {h : AH} {x y : AV} {l m : List Pth} (hx : Go.Abs.Cs h x (l.map AV.str)) (hy : Go.Abs.Cs h y (m.map AV.str)) (hll : l.length ≤ 1000000) : RnC Tryz.prog S 33 [x, y] h fun r h' => r = .bool (decide (l = m)) ∧ Fr h h' := by
 refine RnC.enter' Tryz.f33 _ 26 [.tmp 4] (hS.nl _ _ _ (by simp)) bd33 Tryz.func33 rfl rfl rfl ?_
 have lx : ∀ g, evLen Tryz.prog g #[55] x = some (.int .i64 (l.length : Nat)) := fun g => by have := hx.len Tryz.underlying55 g; rwa [List.length_map] at this
 have ly : ∀ g, evLen Tryz.prog g #[55] y = some (.int .i64 (m.length : Nat)) := fun g => by have := hy.len Tryz.underlying55 g; rwa [List.length_map] at this
 have ox := hx.one.1
 have oy := hy.one.1
 by_cases c0 : ((l.length : Nat) : Int) = ((m.length : Nat) : Int)
 ·simp (maxSteps := 1000000) -dsimp (disch := (repeat first | rw [nxn] | rw [nxp]); try omega) only [go_sem, lx, ly, ox, oy, c0]
  have hlm : l.length = m.length := by omega
  refine loopK_of (RnL.rounds (Q := fun ex u => u.d = [] ∧ Fr h u.h ∧ (ex = .exit 0 ∧ l = m ∨ ex = .ret ∧ ¬ l = m ∧ u.t.get 4 = some (.bool false)))
   (fun k u => u.d = [] ∧ Fr h u.h ∧ u.t.get 0 = some x ∧ u.t.get 1 = some y ∧ ∃ i : Nat, u.t.get 5 = some (.int .i64 (i : Nat)) ∧ i ≤ l.length ∧ l.take i = m.take i ∧ k = l.length - i) ?_ l.length ?_) ?_
  ·rintro k ⟨t, g, d⟩ ⟨e2, e1, g0, g1, i, g5, hi, htk, rfl⟩
   dsimp only at e1 e2 g0 g1 g5
   subst e2
   by_cases c4 : (i : Int) < (l.length : Nat)
   ·have hil : i < l.length := by omega
    have him : i < m.length := by omega
    obtain ⟨a, ha⟩ : ∃ a, l[i]? = some a := ⟨_, List.getElem?_eq_getElem hil⟩
    obtain ⟨b, hb⟩ : ∃ b, m[i]? = some b := ⟨_, List.getElem?_eq_getElem him⟩
    obtain ⟨idx, ofx, cx, csx, ox', tx, rfl, hgx, hix, hcx⟩ := Tx.get (K := fun _ => 0) ⟨hx.fr e1, fun _ _ _ _ _ _ => rfl⟩ ha
    obtain ⟨idy, ofy, cy, csy, oy', ty, rfl, hgy, hiy, hcy⟩ := Tx.get (K := fun _ => 0) ⟨hy.fr e1, fun _ _ _ _ _ _ => rfl⟩ hb
    have s1 : l.take (i + 1) = l.take i ++ [a] := by rw [List.take_add_one, ha]; rfl
    have s2 : m.take (i + 1) = m.take i ++ [b] := by rw [List.take_add_one, hb]; rfl
    simp (maxSteps := 1000000) -dsimp (disch := (repeat first | rw [nxn] | rw [nxp]); try omega) only [go_sem, c4, lx, ly, g0, g1, g5]
    refine syDraw.go0 (by kernel_rfl) ?_
    by_cases cab : a = b
    ·subst cab
     simp (maxSteps := 1000000) -dsimp (disch := (repeat first | rw [nxn] | rw [nxp]); try omega) only [go_sem, c4, hil, him, hgx, hgy, hcx, hcy, neStF, Nat.mul_one, g0, g1, g5]
     exact ⟨l.length - (i + 1), by omega, trivial, e1.more _ (by omega), trivial, trivial, i + 1, rfl, by omega, by rw [s1, s2, htk], rfl⟩
    ·simp (maxSteps := 1000000) -dsimp (disch := (repeat first | rw [nxn] | rw [nxp]); try omega) only [go_sem, c4, hil, him, hgx, hgy, hcx, hcy, neStF, cab, Nat.mul_one, g0, g1, g5]
     refine ⟨trivial, e1.more _ (by omega), .inr ⟨trivial, fun hh => cab ?_, trivial⟩⟩
     rw [hh, hb] at ha
     cases ha; rfl
   ·have : i = l.length := by omega
    subst this
    rw [List.take_length, hlm, List.take_length] at htk
    simp (maxSteps := 1000000) -dsimp (disch := (repeat first | rw [nxn] | rw [nxp]); try omega) only [go_sem, c4, lx, ly, g0, g1, g5]
    exact ⟨trivial, e1, .inl ⟨trivial, htk⟩⟩
  ·simp (maxSteps := 1000000) -dsimp (disch := (repeat first | rw [nxn] | rw [nxp]); try omega) only [go_sem]
   exact ⟨trivial, Fr.refl _, trivial, trivial, 0, rfl, Nat.zero_le _, rfl, rfl⟩
  ·rintro ex ⟨t, g, d⟩ ⟨rfl, e1, ⟨rfl, hq⟩ | ⟨rfl, hq, g4⟩⟩
   ·dsimp only at e1
    simp (maxSteps := 1000000) -dsimp (disch := (repeat first | rw [nxn] | rw [nxp]); try omega) only [go_sem]
    exact ⟨by rw [decide_eq_true hq], e1⟩
   ·dsimp only at e1 g4
    simp (maxSteps := 1000000) -dsimp (disch := (repeat first | rw [nxn] | rw [nxp]); try omega) only [go_sem, g4]
    exact ⟨by rw [decide_eq_false hq], e1⟩
 ·simp (maxSteps := 1000000) -dsimp (disch := (repeat first | rw [nxn] | rw [nxp]); try omega) only [go_sem, lx, ly, ox, oy, c0]
  refine ⟨?_, Fr.refl _⟩
  rw [decide_eq_false (fun hh => c0 (by rw [hh]))]
end
end Go.Proofs.YthkdhdcbhpknnaaGreatDoor.tre
