/- The program's reader of bytes. Conditions: those of its summaries. -/
import Derived.Test.YtmphlckolampoaaGreatDoorRCc
namespace Go.Proofs.YtmphlckolampoaaGreatDoor.tbl
open Go Go.Abs Go.Abs.Rec Go.Proofs
set_option maxRecDepth 100000
set_option linter.unusedVariables false
set_option linter.unusedSimpArgs false
/-- All stays but one place. -/
def Fx (p : Nat) (h h' : AH) : Prop := h.nx ≤ h'.nx ∧ ∀ j, j < h.nx → j ≠ p → h'.get j = h.get j
theorem Fx.of {p : Nat} {h h' : AH} (f : Fr h h') : Fx p h h' := ⟨f.nx, fun j hj _ => f.get j hj⟩
theorem Fx.trans {p : Nat} {h1 h2 h3 : AH} (a : Fx p h1 h2) (b : Fx p h2 h3) : Fx p h1 h3 := ⟨Nat.le_trans a.1 b.1, fun j hj hne => (b.2 j (Nat.lt_of_lt_of_le hj a.1) hne).trans (a.2 j hj hne)⟩
theorem Fx.fr {p : Nat} {h0 h h' : AH} (a : Fx p h h') (f : Fr h0 h) (hp : h0.nx ≤ p) : Fr h0 h' := ⟨Nat.le_trans f.nx a.1, fun j hj => (a.2 j (Nat.lt_of_lt_of_le hj f.nx) (by omega)).trans (f.get j hj)⟩
/-- A slice that lies below a place. -/
def Nb (p : Nat) (v : AV) : Prop := ∀ id o n z c, v = .sl id o n z c → id < p
theorem bsFx {p : Nat} {h h' : AH} {v : AV} {l : List Nat} (hb : Bs h v l) (hn : Nb p v) (f : Fx p h h') : Bs h' v l := by
 rcases hb with h1 | ⟨id, off, c, cs, o, t, h1, h2, h3, h4⟩
 ·exact .inl h1
 ·exact .inr ⟨id, off, c, cs, o, t, h1, (f.2 id h3 (Nat.ne_of_lt (hn _ _ _ _ _ h1))).trans h2, Nat.lt_of_lt_of_le h3 f.1, h4⟩
theorem bsSh {h : AH} {v : AV} {l : List Nat} (hb : Bs h v l) : v = .nilsl ∨ ∃ id o n z c, v = .sl id o n z c := by
 rcases hb with ⟨h1, _⟩ | ⟨id, off, c, cs, o, t, h1, _⟩
 ·exact .inl h1
 ·exact .inr ⟨_, _, _, _, _, h1⟩
theorem bsOne {h : AH} {v : AV} {l : List Nat} (hb : Bs h v l) : oneA v = true ∧ sameAV 20 v v = true := by
 rcases hb with ⟨rfl, _⟩ | ⟨id, off, c, cs, o, t, rfl, _⟩
 ·exact ⟨rfl, rfl⟩
 ·exact ⟨rfl, by simp [sameAV]⟩
theorem bsLn {h : AH} {v : AV} {l : List Nat} (hb : Bs h v l) (g : AH) : evLen Tryz.prog g #[58] v = some (.int .i64 (l.length : Nat)) := by
 rcases hb with ⟨rfl, rfl⟩ | ⟨id, off, c, cs, o, t, rfl, _⟩
 ·simp [evLen, Tryz.underlying58]
 ·simp [evLen, Tryz.underlying58]
theorem bsFrom {p : Nat} {h : AH} {v : AV} {l : List Nat} {lo : Nat} (hb : Bs h v l) (hn : Nb p v) (hlo : lo ≤ l.length) :
  ∃ v', (∀ h1, evSlice Tryz.prog h1 58 v (some (.int .i64 (lo : Nat))) none none = some v') ∧ Bs h v' (l.drop lo) ∧ Nb p v' := by
 rcases hb with ⟨rfl, rfl⟩ | ⟨id, off, c, cs, o, tx, rfl, h2, h3, h4, h5, h6⟩
 ·obtain rfl : lo = 0 := by simpa using hlo
  refine ⟨.nilsl, fun h1 => ?_, .inl ⟨rfl, rfl⟩, fun _ _ _ _ _ hh => by cases hh⟩
  simp [evSlice, Tryz.underlying58, tz5, boundsA, boundA, upTo]
 ·refine ⟨.sl id (off + lo * 1) (l.length - lo) 1 (c.map (· - lo)), fun h1 => ?_, .inr ⟨id, off + lo * 1, c.map (· - lo), cs, o, tx, ?_, h2, h3, ?_, ?_, ?_⟩, fun _ _ _ _ _ hh => by cases hh; exact hn _ _ _ _ _ rfl⟩
  ·have hu : upTo ((lo : Nat) : Int) l.length = some lo := by rw [upTo_of (by omega) (by omega)]; simp
   simp [evSlice, Tryz.underlying58, tz5, boundsA, boundA, hu]
  ·simp
  ·simp; omega
  ·intro k hk
   cases c with
   | none => simp at hk
   | some c => simp at hk; have := h5 c rfl; simp; omega
  ·rw [List.length_drop, ← byC_drop, ← h6, List.drop_take, List.drop_drop, Nat.mul_one]
/-! ### Words -/
theorem shr57 (h : AH) (t : TypeId) (k : IntKind) (n : Nat) : binA Tryz.prog h .shr t (.int .u64 (n : Nat)) (.int k 57) = some (.int .u64 ((n / 144115188075855872 : Nat) : Int)) := by
 rw [binA_shr, if_neg (by decide)]
 have : (2 : Int) ^ (min (57 : Int).toNat IntKind.u64.bits) = 144115188075855872 := by decide
 rw [this, Int.fdiv_eq_ediv_of_nonneg _ (by decide)]
 congr 2
theorem shl7 (h : AH) (t : TypeId) (k : IntKind) (n : Nat) (hn : n < 144115188075855872) : binA Tryz.prog h .shl t (.int .u64 (n : Nat)) (.int k 7) = some (.int .u64 ((n * 128 : Nat) : Int)) := by
 rw [binA_shl, if_neg (by decide)]
 have : (2 : Int) ^ (min (7 : Int).toNat IntKind.u64.bits) = 128 := by decide
 rw [this]
 have e2 : IntKind.u64.wrap ((n : Int) * 128) = ((n * 128 : Nat) : Int) := by
  show ((n : Int) * 128) % 18446744073709551616 = _
  omega
 rw [e2]
theorem and7u (h : AH) (t : TypeId) (n : Nat) (hn : n < 256) : binA Tryz.prog h .and t (.int .u8 (n : Nat)) (.int .u8 127) = some (.int .u8 ((n % 128 : Nat) : Int)) := by
 have e : (BitVec.ofInt 8 (n : Int) &&& BitVec.ofInt 8 127).toNat = n % 128 := by
  rw [BitVec.toNat_and, BitVec.ofInt_natCast, BitVec.toNat_ofNat, Nat.mod_eq_of_lt hn]
  exact Nat.and_two_pow_sub_one_eq_mod n 7
 have e2 : IntKind.u8.wrap ((n % 128 : Nat) : Int) = ((n % 128 : Nat) : Int) := by
  show ((n % 128 : Nat) : Int) % 256 = _
  omega
 rw [binA_and]
 show some (AV.int .u8 (IntKind.u8.wrap ((BitVec.ofInt 8 (n : Int) &&& BitVec.ofInt 8 127).toNat : Int))) = _
 rw [e, e2]
theorem or7 (h : AH) (t : TypeId) (n c : Nat) (hn : n < 144115188075855872) (hc : c < 128) : binA Tryz.prog h .or t (.int .u64 ((n * 128 : Nat) : Int)) (.int .u64 (c : Nat)) = some (.int .u64 ((n * 128 + c : Nat) : Int)) := by
 have e : (BitVec.ofInt 64 ((n * 128 : Nat) : Int) ||| BitVec.ofInt 64 (c : Int)).toNat = n * 128 + c := by
  rw [BitVec.toNat_or, BitVec.ofInt_natCast, BitVec.ofInt_natCast, BitVec.toNat_ofNat, BitVec.toNat_ofNat, Nat.mod_eq_of_lt (by omega), Nat.mod_eq_of_lt (by omega)]
  exact or_of_lt (k := 7) hc
 have e2 : IntKind.u64.wrap ((n * 128 + c : Nat) : Int) = ((n * 128 + c : Nat) : Int) := by
  show ((n * 128 + c : Nat) : Int) % 18446744073709551616 = _
  omega
 rw [binA_or]
 show some (AV.int .u64 (IntKind.u64.wrap ((BitVec.ofInt 64 ((n * 128 : Nat) : Int) ||| BitVec.ofInt 64 (c : Int)).toNat : Int))) = _
 rw [e, e2]
theorem cv8U (h : AH) (n : Nat) (hn : n < 256) : evConvert Tryz.prog h 5 60 (.int .u8 (n : Nat)) = some (.val (.int .u64 (n : Nat)) h) := by
 have : IntKind.u64.wrap ((n : Nat) : Int) = ((n : Nat) : Int) := by
  show ((n : Nat) : Int) % 18446744073709551616 = _
  omega
 simp only [evConvert, Tryz.underlying60, Tryz.underlying5, val?, this]
theorem cvUI (h : AH) (n : Nat) (hn : n < 9223372036854775808) : evConvert Tryz.prog h 60 3 (.int .u64 (n : Nat)) = some (.val (.int .i64 (n : Nat)) h) := by
 have : IntKind.i64.wrap ((n : Nat) : Int) = ((n : Nat) : Int) := wrap64_id (by omega) (by omega)
 simp only [evConvert, Tryz.underlying60, Tryz.underlying3, val?, this]
theorem rdF_cons (x i c : Nat) (r : List Nat) : rdF x i (c :: r) = if 144115188075855872 ≤ x then (0, 0, 4) else if c < 128 then (x * 128 + c % 128, i + 1, 0) else rdF (x * 128 + c % 128) (i + 1) r := rfl
theorem rdF_nil (x i : Nat) : rdF x i [] = if 144115188075855872 ≤ x then (0, 0, 4) else (0, 0, 5) := rfl
section
variable {S : Sums}
structure Tr2 (S : Sums) : Prop extends Tw S where
 nr : ∀ f args h, f ∈ [76, 77, 78, 79, 80, 81, 106, 107, 108, 109, 137] → S f args h = none
set_option maxHeartbeats 16000000 in
theorem numR (hS : Tr2 S) {h : AH} {v : AV} {l : List Nat} (hv : Bs h v l) (hb : ∀ b ∈ l, b < 256) (hl : l.length ≤ 1000000000) :
  RnC Tryz.prog S 107 [v] h fun r h' => r = .tup [.int .u64 ((rdN l).1 : Nat), .int .i64 ((rdN l).2.1 : Nat), .int .i64 ((rdN l).2.2 : Nat)] ∧ h' = h := by
 refine RnC.enter' Tryz.f107 _ 41 [.tmp 2, .tmp 3, .tmp 4] (hS.nr _ _ _ (by simp)) bd107 Tryz.func107 rfl rfl rfl ?_
 have lv := (bsLn hv)
 have ov := (bsOne hv).1
 by_cases h0 : l[0]? = some 128
 ·have hlen : 0 < l.length := by
   rcases l with _ | ⟨a, r⟩
   ·cases h0
   ·simp
  have c0 : (0 : Int) < (l.length : Nat) := by omega
  have hr : rdN l = (0, 0, 4) := by unfold rdN; rw [if_pos h0]
  rw [hr]
  rcases hv with ⟨rfl, rfl⟩ | ⟨id, off, c, cs, o, tx, rfl, hg, hid, hle, hc, hx⟩
  ·cases h0
  ·have q0 := bs_get hx h0
   rw [Nat.add_zero] at q0
   simp (maxSteps := 1000000) -dsimp (disch := (repeat first | rw [nxn] | rw [nxp]); try omega) only [go_sem, lv, c0, hg, q0, ov]
   exact ⟨by first | trivial | rfl, by first | trivial | rfl⟩
 ·have hr : rdN l = rdF 0 0 l := by unfold rdN; rw [if_neg h0]
  rw [hr]
  by_cases hlen : 0 < l.length
  ·have c0 : (0 : Int) < (l.length : Nat) := by omega
   obtain ⟨b0, hb0⟩ : ∃ b, l[0]? = some b := ⟨_, List.getElem?_eq_getElem hlen⟩
   have cb : ¬ ((b0 : Nat) : Int) = 128 := fun hh => h0 (by rw [hb0]; congr 1; omega)
   rcases hv with ⟨rfl, rfl⟩ | ⟨id, off, c, cs, o, tx, rfl, hg, hid, hle, hc, hx⟩
   ·cases hb0
   have q0 := bs_get hx hb0
   rw [Nat.add_zero] at q0
   simp (maxSteps := 1000000) -dsimp (disch := (repeat first | rw [nxn] | rw [nxp]); try omega) only [go_sem, lv, c0, hg, q0, ov, cb]
   refine loopK_of (RnL.rounds (Q := fun ex u => u.d = [] ∧ u.h = h ∧ (ex = .exit 0 ∧ (∃ x : Nat, u.t.get 2 = some (.int .u64 (x : Nat)) ∧ rdF 0 0 l = rdF x l.length []) ∨ ex = .ret ∧ u.t.get 2 = some (.int .u64 ((rdF 0 0 l).1 : Nat)) ∧ u.t.get 3 = some (.int .i64 ((rdF 0 0 l).2.1 : Nat)) ∧ u.t.get 4 = some (.int .i64 ((rdF 0 0 l).2.2 : Nat))))
    (fun m u => u.d = [] ∧ u.h = h ∧ u.t.get 16 = some (.sl id off l.length 1 c) ∧ u.t.get 17 = some (.int .i64 (l.length : Nat)) ∧ ∃ i x : Nat, u.t.get 18 = some (.int .i64 (i : Nat)) ∧ u.t.get 2 = some (.int .u64 (x : Nat)) ∧ i ≤ l.length ∧ x < 18446744073709551616 ∧ rdF 0 0 l = rdF x i (l.drop i) ∧ m = l.length - i) ?_ l.length ?_) ?_
   ·rintro m ⟨tt, g, d⟩ ⟨e9, e1, g16, g17, i, x, g18, g2, hi, hxl, hrd, rfl⟩
    dsimp only at e9 e1 g16 g17 g18 g2
    subst e9 e1
    by_cases c4 : (i : Int) < (l.length : Nat)
    ·have hil : i < l.length := by omega
     obtain ⟨b, hbi⟩ : ∃ b, l[i]? = some b := ⟨_, List.getElem?_eq_getElem hil⟩
     have qi := bs_get hx hbi
     have hb256 : b < 256 := hb b (List.mem_of_getElem? hbi)
     have hd : l.drop i = b :: l.drop (i + 1) := by
      rw [List.drop_eq_getElem_cons hil]
      rw [List.getElem?_eq_getElem hil] at hbi
      cases hbi; rfl
     rw [hd, rdF_cons] at hrd
     by_cases c5 : 144115188075855872 ≤ x
     ·rw [if_pos c5] at hrd
      have c6 : ¬ ((x / 144115188075855872 : Nat) : Int) = 0 := by omega
      have r1 : (rdF 0 0 l).1 = 0 := by rw [hrd]
      have r2 : (rdF 0 0 l).2.1 = 0 := by rw [hrd]
      have r3 : (rdF 0 0 l).2.2 = 4 := by rw [hrd]
      rw [r1, r2, r3]
      simp (maxSteps := 1000000) -dsimp (disch := (repeat first | rw [nxn] | rw [nxp]); try omega) only [go_sem, c4, hil, g16, g17, g18, g2, hg, qi, shr57, c6, Nat.mul_one]
      simp
     ·rw [if_neg c5] at hrd
      have c6 : ((x / 144115188075855872 : Nat) : Int) = 0 := by omega
      have q1 := fun h t k => shl7 h t k x (by omega)
      have q2 := fun h t => and7u h t b hb256
      have q3 := fun h => cv8U h (b % 128) (by omega)
      have q4 := fun h t => or7 h t x (b % 128) (by omega) (by omega)
      by_cases c7 : b < 128
      ·rw [if_pos c7] at hrd
       have c8 : ((b : Nat) : Int) < 128 := by omega
       have r1 : (rdF 0 0 l).1 = x * 128 + b % 128 := by rw [hrd]
       have r2 : (rdF 0 0 l).2.1 = i + 1 := by rw [hrd]
       have r3 : (rdF 0 0 l).2.2 = 0 := by rw [hrd]
       rw [r1, r2, r3]
       simp (maxSteps := 1000000) -dsimp (disch := (repeat first | rw [nxn] | rw [nxp]); try omega) only [go_sem, c4, hil, g16, g17, g18, g2, hg, qi, shr57, c6, q1, q2, q3, q4, c8, Nat.mul_one]
       simp
      ·rw [if_neg c7] at hrd
       have c8 : ¬ ((b : Nat) : Int) < 128 := by omega
       simp (maxSteps := 1000000) -dsimp (disch := (repeat first | rw [nxn] | rw [nxp]); try omega) only [go_sem, c4, hil, g16, g17, g18, g2, hg, qi, shr57, c6, q1, q2, q3, q4, c8, Nat.mul_one]
       exact ⟨l.length - (i + 1), by omega, trivial, trivial, trivial, trivial, i + 1, _, rfl, rfl, by omega, by omega, hrd, rfl⟩
    ·have : i = l.length := by omega
     subst this
     rw [List.drop_length] at hrd
     simp (maxSteps := 1000000) -dsimp (disch := (repeat first | rw [nxn] | rw [nxp]); try omega) only [go_sem, c4, g16, g17, g18, g2]
     exact ⟨trivial, trivial, .inl ⟨trivial, x, rfl, hrd⟩⟩
   ·simp (maxSteps := 1000000) -dsimp (disch := (repeat first | rw [nxn] | rw [nxp]); try omega) only [go_sem]
    exact ⟨trivial, trivial, trivial, trivial, 0, 0, rfl, rfl, Nat.zero_le _, by omega, rfl, rfl⟩
   ·rintro ex ⟨tt, g, d⟩ ⟨e9, e1, ⟨rfl, x, g2, hrd⟩ | ⟨rfl, g2, g3, g4⟩⟩
    ·dsimp only at e9 e1 g2
     subst e9 e1
     rw [rdF_nil] at hrd
     by_cases c5 : 144115188075855872 ≤ x
     ·rw [if_pos c5] at hrd
      have c6 : ¬ ((x / 144115188075855872 : Nat) : Int) = 0 := by omega
      rw [hrd]
      simp (maxSteps := 1000000) -dsimp (disch := (repeat first | rw [nxn] | rw [nxp]); try omega) only [go_sem, g2, shr57, c6]
      exact ⟨by first | trivial | rfl, by first | trivial | rfl⟩
     ·rw [if_neg c5] at hrd
      have c6 : ((x / 144115188075855872 : Nat) : Int) = 0 := by omega
      rw [hrd]
      simp (maxSteps := 1000000) -dsimp (disch := (repeat first | rw [nxn] | rw [nxp]); try omega) only [go_sem, g2, shr57, c6]
      exact ⟨by first | trivial | rfl, by first | trivial | rfl⟩
    ·dsimp only at e9 e1 g2 g3 g4
     subst e9 e1
     simp (maxSteps := 1000000) -dsimp (disch := (repeat first | rw [nxn] | rw [nxp]); try omega) only [go_sem, g2, g3, g4]
     exact ⟨by first | trivial | rfl, by first | trivial | rfl⟩
  ·have hl0 : l = [] := List.length_eq_zero_iff.1 (by omega)
   subst hl0
   have c0 : ¬ (0 : Int) < ((0 : Nat) : Int) := by omega
   have c00 : ¬ (0 : Int) < 0 := by omega
   have lv0 : ∀ g, evLen Tryz.prog g #[58] v = some (.int .i64 0) := lv
   have c6 : (((0 : Nat) / 144115188075855872 : Nat) : Int) = 0 := by omega
   have z0 := fun h t k => shr57 h t k 0
   have z1 : ∀ h t k, binA Tryz.prog h .shr t (.int .u64 0) (.int k 57) = some (.int .u64 0) := fun h t k => z0 h t k
   simp (maxSteps := 1000000) -dsimp (disch := (repeat first | rw [nxn] | rw [nxp]); try omega) only [go_sem, lv0, c00, ov]
   refine loopK_unroll ?_
   simp (maxSteps := 1000000) -dsimp (disch := (repeat first | rw [nxn] | rw [nxp]); try omega) only [go_sem, c00, z1]
   exact ⟨by first | trivial | rfl, by first | trivial | rfl⟩
end
end Go.Proofs.YtmphlckolampoaaGreatDoor.tbl
