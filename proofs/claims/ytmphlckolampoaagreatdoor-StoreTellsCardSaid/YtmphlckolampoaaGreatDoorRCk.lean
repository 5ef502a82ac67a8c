/- The document's reader of bytes: a number. Conditions: those of its summaries. -/
import Derived.Test.YtmphlckolampoaaGreatDoorRCf
namespace Go.Proofs.YtmphlckolampoaaGreatDoor.tbl
open Go Go.Abs Go.Abs.Rec Go.Proofs
set_option maxRecDepth 100000
set_option linter.unusedVariables false
set_option linter.unusedSimpArgs false
/-- The document's reader in memory. -/
structure RdB (R : Nat) (h : AH) (B : List Nat) (I e : Nat) : Prop where
 hR : ∃ bv, h.get R = some (.cells [bv, .int .i64 (I : Nat), .int .i64 (e : Nat)] true false) ∧ Bs h bv B ∧ Nb R bv
 Rn : R < h.nx
 i : I ≤ B.length
 b : ∀ b ∈ B, b < 256
 l : B.length ≤ 100000000
theorem RdB.set {R : Nat} {h h' : AH} {B : List Nat} {I e I' e' : Nat} (hr : RdB R h B I e) {bv : AV} (hb : Bs h bv B) (hn : Nb R bv) (hp : h'.get R = some (.cells [bv, .int .i64 (I' : Nat), .int .i64 (e' : Nat)] true false)) (f : Fx R h h') (hi : I' ≤ B.length) : RdB R h' B I' e' :=
 ⟨⟨bv, hp, bsFx hb hn f, hn⟩, Nat.lt_of_lt_of_le hr.Rn f.1, hi, hr.b, hr.l⟩
theorem RdB.lo {R n0 : Nat} {h h' : AH} {B : List Nat} {I e : Nat} (hr : RdB R h B I e) (hR : R < n0) (hn : n0 ≤ h'.nx) (ho : ∀ j, j < n0 → h'.get j = h.get j) : RdB R h' B I e := by
 obtain ⟨bv, hpv, hb, hnb⟩ := hr.hR
 refine ⟨⟨bv, (ho R hR).trans hpv, ?_, hnb⟩, Nat.lt_of_lt_of_le hR hn, hr.i, hr.b, hr.l⟩
 rcases hb with h1 | ⟨id, off, c, cs, o, t, h1, h2, h3, h4⟩
 ·exact .inl h1
 ·have := hnb _ _ _ _ _ h1
  exact .inr ⟨id, off, c, cs, o, t, h1, (ho id (by omega)).trans h2, by omega, h4⟩
theorem RdB.fr {R : Nat} {h h' : AH} {B : List Nat} {I e : Nat} (hr : RdB R h B I e) (f : Fr h h') : RdB R h' B I e := by
 obtain ⟨bv, hpv, hb, hnb⟩ := hr.hR
 exact ⟨⟨bv, (f.get R hr.Rn).trans hpv, hb.fr f, hnb⟩, Nat.lt_of_lt_of_le hr.Rn f.nx, hr.i, hr.b, hr.l⟩
theorem bldRe0 : evBuild Tryz.prog 73 [(0, .nilsl)] = some (.agg [.nilsl, .int .i64 0, .int .i64 0]) := by kernel_rfl
theorem bldRe (id o n z : Nat) (c : Option Nat) : evBuild Tryz.prog 73 [(0, .sl id o n z c)] = some (.agg [.sl id o n z c, .int .i64 0, .int .i64 0]) := by kernel_rfl
section
variable {S : Sums}
structure Tx (S : Sums) : Prop extends Tr2 S where
 nx : ∀ f args h, f ∈ [35, 36, 37, 38, 39, 83] → S f args h = none
set_option maxHeartbeats 4000000 in
theorem newDC (hS : Tx S) {h : AH} {v : AV} {l : List Nat} (hv : Bs h v l) (hb : ∀ b ∈ l, b < 256) (hl : l.length ≤ 100000000) : RnC Tryz.prog S 35 [v] h fun r h' => ∃ R, r = .ptr R 0 ∧ RdB R h' l 0 0 ∧ h.nx ≤ R ∧ Fr h h' := by
 refine RnC.enter' Tryz.f35 _ 8 [.tmp 2] (hS.nx _ _ _ (by simp)) bd35 Tryz.func35 rfl rfl rfl ?_
 obtain ⟨v', h', ha, hf', hz', ov'⟩ := appY (h0 := h) (h := h.new (.cells [] true true)) (m := l) (ey0 h) (hv.fr (Fr.new h _)) (Fr.new h _) (by simp; omega)
 rw [List.nil_append] at hz'
 have ov := (bsOne hv).1
 have hnb : Nb h'.nx v' := by
  rcases hz' with ⟨rfl, _⟩ | ⟨id, n, c, tx, rfl, h2, h3, h4, h5⟩
  ·exact fun _ _ _ _ _ hh => by cases hh
  ·exact fun _ _ _ _ _ hh => by cases hh; omega
 have fin : RdB h'.nx (h'.new (.cells [v', .int .i64 0, .int .i64 0] true false)) l 0 0 :=
  ⟨⟨v', AH.get_new_eq rfl, hz'.bs.fr (Fr.new _ _), hnb⟩, Nat.lt_succ_self _, Nat.zero_le _, hb, hl⟩
 rcases hz'.shape with rfl | ⟨i5, n5, c5, rfl⟩
 all_goals
  simp (maxSteps := 1000000) -dsimp (disch := (repeat first | rw [nxn] | rw [nxp]); try omega) only [go_sem, ha, ov, ov', bldRe, bldRe0]
  exact ⟨_, rfl, fin, hf'.nx, hf'.trans (Fr.new _ _)⟩
set_option maxHeartbeats 16000000 in
theorem nextC (hS : Tx S) {R : Nat} {h : AH} {B : List Nat} {I e : Nat} (hr : RdB R h B I e) :
  RnC Tryz.prog S 83 [.ptr R 0] h fun r h' => r = .tup [.int .u64 ((rdN (B.drop I)).1 : Nat), .int .i64 ((if (rdN (B.drop I)).2.2 = 0 then I + (rdN (B.drop I)).2.1 else 0 : Nat) : Int), .int .i64 ((rdN (B.drop I)).2.2 : Nat)] ∧ h' = h := by
 refine RnC.enter' Tryz.f83 _ 65 [.tmp 2, .tmp 3, .tmp 4] (hS.nx _ _ _ (by simp)) bd83 Tryz.func83 rfl rfl rfl ?_
 obtain ⟨bv, hR, hb, hnb⟩ := hr.hR
 have lv := bsLn hb
 have ov := (bsOne hb).1
 have hIl := hr.i
 have hBl := hr.l
 have w64 : ∀ k : Nat, k < 18446744073709551616 → IntKind.u64.wrap ((k : Nat) : Int) = ((k : Nat) : Int) := fun k hk => by
  show ((k : Nat) : Int) % 18446744073709551616 = _
  omega
 simp (maxSteps := 1000000) -dsimp (disch := (repeat first | rw [nxn] | rw [nxp]); try omega) only [go_sem, hR]
 refine loopK_of (RnL.rounds (Q := fun ex u => u.d = [] ∧ u.h = h ∧ (ex = .exit 0 ∧ (∃ x : Nat, u.t.get 5 = some (.int .u64 (x : Nat)) ∧ rdN (B.drop I) = rdF x (B.length - I) []) ∨ ex = .ret ∧ u.t.get 2 = some (.int .u64 ((rdN (B.drop I)).1 : Nat)) ∧ u.t.get 3 = some (.int .i64 ((if (rdN (B.drop I)).2.2 = 0 then I + (rdN (B.drop I)).2.1 else 0 : Nat) : Int)) ∧ u.t.get 4 = some (.int .i64 ((rdN (B.drop I)).2.2 : Nat))))
  (fun m u => u.d = [] ∧ u.h = h ∧ u.t.get 0 = some (.ptr R 0) ∧ ∃ i x : Nat, u.t.get 6 = some (.int .i64 (i : Nat)) ∧ u.t.get 5 = some (.int .u64 (x : Nat)) ∧ I ≤ i ∧ i ≤ B.length ∧ x < 18446744073709551616 ∧ (i = I → x = 0) ∧ (I < i → rdN (B.drop I) = rdF x (i - I) (B.drop i)) ∧ m = B.length - i) ?_ (B.length - I) ?_) ?_
 ·rintro m ⟨tt, g, d⟩ ⟨e9, e1, g0, i, x, g6, g5, hIi, hi, hxl, hx0, hrd, rfl⟩
  dsimp only at e9 e1 g0 g6 g5
  subst e9 e1
  by_cases c4 : (i : Int) < (B.length : Nat)
  ·have hil : i < B.length := by omega
   obtain ⟨b, hbi⟩ : ∃ b, B[i]? = some b := ⟨_, List.getElem?_eq_getElem hil⟩
   have hb256 : b < 256 := hr.b b (List.mem_of_getElem? hbi)
   have hd : B.drop i = b :: B.drop (i + 1) := by
    rw [List.drop_eq_getElem_cons hil]
    rw [List.getElem?_eq_getElem hil] at hbi
    cases hbi; rfl
   have hmod : (((b : Nat) : Int).tmod 128) = ((b % 128 : Nat) : Int) := rfl
   rcases hb with ⟨rfl, rfl⟩ | ⟨id, off, c, cs, o, tx, rfl, hg, hid, hle, hc, hx⟩
   ·cases hbi
   have qi := bs_get hx hbi
   by_cases h0 : i = I ∧ b = 128
   ·obtain ⟨rfl, rfl⟩ := h0
    have hr4 : rdN (B.drop i) = (0, 0, 4) := by unfold rdN; rw [hd]; rfl
    have r1 : (rdN (B.drop i)).1 = 0 := by rw [hr4]
    have r2 : (if (rdN (B.drop i)).2.2 = 0 then i + (rdN (B.drop i)).2.1 else 0) = 0 := by rw [hr4]; rfl
    have r3 : (rdN (B.drop i)).2.2 = 4 := by rw [hr4]
    rw [r1, r2, r3]
    simp (maxSteps := 1000000) -dsimp (disch := (repeat first | rw [nxn] | rw [nxp]); try omega) only [go_sem, c4, hil, g0, g5, g6, hR, lv, hg, qi, Nat.mul_one]
    simp
   ·have hrd' : rdN (B.drop I) = rdF x (i - I) (B.drop i) := by
     by_cases hI : i = I
     ·subst hI
      rw [hx0 rfl, Nat.sub_self]
      unfold rdN
      rw [hd, if_neg]
      intro hh
      exact h0 ⟨rfl, by cases hh; rfl⟩
     ·exact hrd (by omega)
    rw [hd, rdF_cons] at hrd'
    by_cases c5 : 144115188075855872 ≤ x
    ·rw [if_pos c5] at hrd'
     have hI : ¬ ((i : Nat) : Int) = ((I : Nat) : Int) := fun hh => by have := hx0 (by omega); omega
     have c6 : (144115188075855872 : Int) ≤ ((x : Nat) : Int) := by omega
     have r1 : (rdN (B.drop I)).1 = 0 := by rw [hrd']
     have r2 : (if (rdN (B.drop I)).2.2 = 0 then I + (rdN (B.drop I)).2.1 else 0) = 0 := by rw [hrd']; rfl
     have r3 : (rdN (B.drop I)).2.2 = 4 := by rw [hrd']
     rw [r1, r2, r3]
     simp (maxSteps := 1000000) -dsimp (disch := (repeat first | rw [nxn] | rw [nxp]); try omega) only [go_sem, c4, hil, g0, g5, g6, hR, lv, hg, qi, hI, c6, Nat.mul_one]
     simp
    ·rw [if_neg c5] at hrd'
     have c6 : ¬ (144115188075855872 : Int) ≤ ((x : Nat) : Int) := by omega
     have w1 : IntKind.u64.wrap (((x : Nat) : Int) * 128) = ((x * 128 : Nat) : Int) := by
      have := w64 (x * 128) (by omega)
      rw [← this]; congr 1
     have w2 : IntKind.u64.wrap (((x * 128 : Nat) : Int) + ((b % 128 : Nat) : Int)) = ((x * 128 + b % 128 : Nat) : Int) := by
      have := w64 (x * 128 + b % 128) (by omega)
      rw [← this]; congr 1
     have q3 := fun h => cv8U h (b % 128) (by omega)
     by_cases hI : ((i : Nat) : Int) = ((I : Nat) : Int)
     ·have hI' : i = I := by omega
      have cb : ¬ ((b : Nat) : Int) = 128 := fun hh => h0 ⟨hI', by omega⟩
      by_cases c7 : b < 128
      ·rw [if_pos c7] at hrd'
       have c8 : ((b : Nat) : Int) < 128 := by omega
       have r1 : (rdN (B.drop I)).1 = x * 128 + b % 128 := by rw [hrd']
       have r2 : (if (rdN (B.drop I)).2.2 = 0 then I + (rdN (B.drop I)).2.1 else 0) = i + 1 := by rw [hrd', if_pos rfl]; dsimp only; omega
       have r3 : (rdN (B.drop I)).2.2 = 0 := by rw [hrd']
       rw [r1, r2, r3]
       subst hI'
       simp (maxSteps := 1000000) -dsimp (disch := (repeat first | rw [nxn] | rw [nxp]); try omega) only [go_sem, c4, hil, g0, g5, g6, hR, lv, hg, qi, cb, c6, w1, w2, hmod, q3, c8, Nat.mul_one]
       simp
      ·rw [if_neg c7] at hrd'
       have c8 : ¬ ((b : Nat) : Int) < 128 := by omega
       subst hI'
       simp (maxSteps := 1000000) -dsimp (disch := (repeat first | rw [nxn] | rw [nxp]); try omega) only [go_sem, c4, hil, g0, g5, g6, hR, lv, hg, qi, cb, c6, w1, w2, hmod, q3, c8, Nat.mul_one]
       exact ⟨B.length - (i + 1), by omega, trivial, trivial, trivial, i + 1, _, rfl, rfl, by omega, by omega, by omega, by omega, fun _ => by rw [hrd']; congr 1; omega, rfl⟩
     ·by_cases c7 : b < 128
      ·rw [if_pos c7] at hrd'
       have c8 : ((b : Nat) : Int) < 128 := by omega
       have r1 : (rdN (B.drop I)).1 = x * 128 + b % 128 := by rw [hrd']
       have r2 : (if (rdN (B.drop I)).2.2 = 0 then I + (rdN (B.drop I)).2.1 else 0) = i + 1 := by rw [hrd', if_pos rfl]; dsimp only; omega
       have r3 : (rdN (B.drop I)).2.2 = 0 := by rw [hrd']
       rw [r1, r2, r3]
       simp (maxSteps := 1000000) -dsimp (disch := (repeat first | rw [nxn] | rw [nxp]); try omega) only [go_sem, c4, hil, g0, g5, g6, hR, lv, hg, qi, hI, c6, w1, w2, hmod, q3, c8, Nat.mul_one]
       simp
      ·rw [if_neg c7] at hrd'
       have c8 : ¬ ((b : Nat) : Int) < 128 := by omega
       simp (maxSteps := 1000000) -dsimp (disch := (repeat first | rw [nxn] | rw [nxp]); try omega) only [go_sem, c4, hil, g0, g5, g6, hR, lv, hg, qi, hI, c6, w1, w2, hmod, q3, c8, Nat.mul_one]
       exact ⟨B.length - (i + 1), by omega, trivial, trivial, trivial, i + 1, _, rfl, rfl, by omega, by omega, by omega, by omega, fun _ => by rw [hrd']; congr 1; omega, rfl⟩
  ·have : i = B.length := by omega
   subst this
   have hfin : rdN (B.drop I) = rdF x (B.length - I) [] := by
    by_cases hI : B.length = I
    ·rw [hx0 hI, ← hI, List.drop_length, Nat.sub_self]
     unfold rdN
     rw [if_neg (by simp)]
    ·have := hrd (by omega)
     rw [List.drop_length] at this
     exact this
   simp (maxSteps := 1000000) -dsimp (disch := (repeat first | rw [nxn] | rw [nxp]); try omega) only [go_sem, c4, g0, g5, g6, hR, lv]
   exact ⟨trivial, trivial, .inl ⟨trivial, x, rfl, hfin⟩⟩
 ·simp (maxSteps := 1000000) -dsimp (disch := (repeat first | rw [nxn] | rw [nxp]); try omega) only [go_sem]
  exact ⟨trivial, trivial, trivial, I, 0, rfl, rfl, Nat.le_refl _, hIl, by omega, fun _ => rfl, fun hh => by omega, rfl⟩
 ·rintro ex ⟨tt, g, d⟩ ⟨e9, e1, ⟨rfl, x, g5, hrd⟩ | ⟨rfl, g2, g3, g4⟩⟩
  ·dsimp only at e9 e1 g5
   subst e9 e1
   rw [rdF_nil] at hrd
   by_cases c5 : 144115188075855872 ≤ x
   ·rw [if_pos c5] at hrd
    have c6 : (144115188075855872 : Int) ≤ ((x : Nat) : Int) := by omega
    rw [hrd]
    simp (maxSteps := 1000000) -dsimp (disch := (repeat first | rw [nxn] | rw [nxp]); try omega) only [go_sem, g5, c6]
    exact ⟨by first | trivial | rfl, by first | trivial | rfl⟩
   ·rw [if_neg c5] at hrd
    have c6 : ¬ (144115188075855872 : Int) ≤ ((x : Nat) : Int) := by omega
    rw [hrd]
    simp (maxSteps := 1000000) -dsimp (disch := (repeat first | rw [nxn] | rw [nxp]); try omega) only [go_sem, g5, c6]
    exact ⟨by first | trivial | rfl, by first | trivial | rfl⟩
  ·dsimp only at e9 e1 g2 g3 g4
   subst e9 e1
   simp (maxSteps := 1000000) -dsimp (disch := (repeat first | rw [nxn] | rw [nxp]); try omega) only [go_sem, g2, g3, g4]
   exact ⟨by first | trivial | rfl, by first | trivial | rfl⟩
end
end Go.Proofs.YtmphlckolampoaaGreatDoor.tbl
