/- The digest of bytes of whatever length, continued: ranging over the blocks, and the two functions. Conditions: the constants are summaries; none else. -/
import Derived.Test.YtfhcnoancepgcaaGreatDoorDGp
namespace Go.Proofs.YtfhcnoancepgcaaGreatDoor.dig
open Go Go.Abs Go.Proofs
set_option maxRecDepth 100000
set_option linter.unusedVariables false
set_option linter.unusedSimpArgs false

section
variable {S : Sums}

theorem conv_len {h : AH} {v : AV} {l : List Nat} (hb : Bs h v l) : (∀ g, evLen Tryz.prog g #[22] v = some (.int .i64 (l.length : Nat))) ∧ oneA v = true := by
  rcases hb with ⟨rfl, rfl⟩ | ⟨id, off, c, cs, o, tx, rfl, _⟩
  · exact ⟨fun g => by simp [evLen, Tryz.underlying22], rfl⟩
  · exact ⟨fun g => by simp [evLen, Tryz.underlying22], rfl⟩

theorem sl_from {h : AH} {id off n lo : Nat} {c : Option Nat} (hlo : lo ≤ n) : evSlice Tryz.prog h 22 (.sl id off n 1 c) (some (.int .i64 (lo : Nat))) none none = some (.sl id (off + lo * 1) (n - lo) 1 (c.map (· - lo))) := by
  have hu : upTo ((lo : Nat) : Int) n = some lo := by rw [upTo_of (by omega) (by omega)]; simp
  simp [evSlice, Tryz.underlying22, tz5, boundsA, boundA, hu]
set_option maxHeartbeats 8000000 in
/-- Ranging over the blocks of 64 bytes. -/
theorem chunk63 (hS : ∀ args h, S 109 args h = none) {h : AH} {y pb pn q vi vo vn : Nat} {vc : Option Nat} {v : AV} {L : List Nat} (hv : v = .sl vi vo vn 1 vc) (hvn : vn = L.length) (I : Nat → AH → Prop) (hq : L.length = 64 * q) (hL : L.length ≤ 274877906944)
    (hI : ∀ i g, I i g → (∃ o t, g.get pb = some (.cells [v] o t)) ∧ (∃ o t, g.get pn = some (.cells [.int .i64 64] o t)) ∧ Bs g v L)
    (hm : ∀ i g k, I i g → g.nx ≤ k → I i { tr := g.tr, nx := k })
    (step : ∀ i g w, i < q → I i g → Bs g w ((L.take (64 * i + 64)).drop (64 * i)) → RnR Tryz.prog S y [w] g fun r g' => r = .bool true ∧ I (i + 1) g') (h0 : I 0 h) :
    RnC Tryz.prog S 109 [.yld y, .ptr pb 0, .ptr pn 0] h fun r h' => I q h' := by
  refine RnC.enter' Tryz.f109 _ 31 [] (hS _ _) bd109 Tryz.func109 rfl rfl rfl ?_
  subst hv
  subst hvn
  simp (maxSteps := 1000000) -dsimp (disch := (repeat first | rw [nxn] | rw [nxp]); try omega) only [go_sem, evLen]
  refine loopK_of (RnL.rounds (Q := fun ex s => (ex = .exit 0 ∨ ex = .ret) ∧ s.d = [] ∧ I q s.h)
    (fun m s => s.d = [] ∧ s.t.get 0 = some (.yld y) ∧ s.t.get 1 = some (.ptr pb 0) ∧ s.t.get 2 = some (.ptr pn 0) ∧ ∃ i : Nat, I i s.h ∧ s.t.get 4 = some (.int .i64 ((64 * i : Nat) : Int)) ∧ i ≤ q ∧ m = q - i) ?_ q ?_) ?_
  · rintro m ⟨t, h1, d⟩ ⟨e2, g0, g1, g2, i, hi0, g4, hiq, rfl⟩
    dsimp only at e2 g0 g1 g2 hi0 g4
    subst e2
    obtain ⟨⟨o1, t1, gb⟩, ⟨o2, t2, gn⟩, hb⟩ := hI i h1 hi0
    by_cases c1 : ((64 * i : Nat) : Int) < (L.length : Nat)
    · have hlt : i < q := by omega
      have s1 : ∀ h, evSlice Tryz.prog h 22 (.sl vi vo L.length 1 vc) (some (.int .i64 ((64 * i : Nat) : Int))) none none = _ := fun h => sl_from (h := h) (by omega)
      obtain ⟨v3, s3, b3, _⟩ := hb.slice3 Tryz.underlying22 tz5 (lo := 64 * i) (hi := 64 * i + 64) (by omega) (by omega)
      have e64 : ((64 * i + 64 : Nat) : Int) = ((64 * i : Nat) : Int) + 64 := by omega
      rw [e64] at s3
      have m64 : min (64 : Int) ((L.length - 64 * i : Nat) : Int) = 64 := by omega
      simp (maxSteps := 1000000) -dsimp (disch := (repeat first | rw [nxn] | rw [nxp]); try omega) only [go_sem, evLen, g0, g1, g2, g4, gb, gn, c1]
      refine syDraw.go0 (by kernel_rfl) ?_
      simp (maxSteps := 1000000) -dsimp (disch := (repeat first | rw [nxn] | rw [nxp]); try omega) only [go_sem, evLen, g0, g1, g2, g4, gb, gn, s1, m64, s3]
      have hi1 := hm i h1 (h1.nx + 7) hi0 (by omega)
      refine yldK_of (step i _ _ hlt hi1 (b3.fr ((Fr.refl h1).more _ (by omega)))) ?_
      rintro r h2 ⟨rfl, hi2⟩
      obtain ⟨⟨o3, t3, gb3⟩, ⟨o4, t4, gn3⟩, hb3⟩ := hI (i + 1) h2 hi2
      simp (maxSteps := 1000000) -dsimp (disch := (repeat first | rw [nxn] | rw [nxp]); try omega) only [go_sem, evLen, g2, g4, gn3]
      refine ⟨q - (i + 1), by omega, trivial, g0, g1, trivial, i + 1, hi2, ?_, by omega, rfl⟩
      rw [show (((64 * i : Nat) : Int) + 64) = ((64 * (i + 1) : Nat) : Int) from by omega]
    · obtain rfl : i = q := by omega
      simp (maxSteps := 1000000) -dsimp (disch := (repeat first | rw [nxn] | rw [nxp]); try omega) only [go_sem, evLen, g0, g1, g2, g4, gb, gn, c1]
      exact ⟨Or.inl trivial, trivial, hi0⟩
  · simp (maxSteps := 1000000) -dsimp (disch := (repeat first | rw [nxn] | rw [nxp]); try omega) only [go_sem, evLen]
    exact ⟨trivial, trivial, trivial, trivial, 0, h0, rfl, Nat.zero_le _, rfl⟩
  · rintro ex ⟨t, h1, d⟩ ⟨rfl | rfl, rfl, hi⟩
    · simp (maxSteps := 1000000) -dsimp (disch := (repeat first | rw [nxn] | rw [nxp]); try omega) only [go_sem, evLen]
      exact hi
    · simp (maxSteps := 1000000) -dsimp (disch := (repeat first | rw [nxn] | rw [nxp]); try omega) only [go_sem, evLen]
      exact hi

theorem range_chunk (hS : ∀ args h, S 109 args h = none) {h1 : AH} {y pb pn q fn n d : Nat} {t : Env} {ps : Array Tmp} {a b : Code} {ds : List Nat} {Q : Ex → St → Prop} {vi vo vn : Nat} {vc : Option Nat} {v : AV} {L : List Nat} (hv : v = .sl vi vo vn 1 vc) (hvn : vn = L.length) (I : Nat → AH → Prop) (hq : L.length = 64 * q) (hL : L.length ≤ 274877906944) {y2 : Nat} (hy : y = h1.nx) (hy2 : y2 = y)
    (hI : ∀ i g, I i g → (∃ o t, g.get pb = some (.cells [v] o t)) ∧ (∃ o t, g.get pn = some (.cells [.int .i64 64] o t)) ∧ Bs g v L)
    (hm : ∀ i g k, I i g → g.nx ≤ k → I i { tr := g.tr, nx := k })
    (step : ∀ i g w, i < q → I i g → g.get y = some (.loop .ready none fn t n ps a b d) → y < g.nx → Bs g w ((L.take (64 * i + 64)).drop (64 * i)) →
      RnR Tryz.prog S y [w] g fun r g' => r = .bool true ∧ I (i + 1) g' ∧ g'.get y = some (.loop .ready none fn t n ps a b d) ∧ y < g'.nx)
    (h0 : I 0 (h1.new (.loop .ready none fn t n ps a b d)))
    (fin : ∀ g, I q g → g.get y = some (.loop .ready none fn t n ps a b d) → Q .normal { t := t, h := g.put y (.loop .exhausted none fn t n ps a b d), d := ds }) {u1 u2} :
    callK Tryz.prog S 109 [.yld y, .ptr pb 0, .ptr pn 0] (h1.new (.loop .ready none fn t n ps a b d)) (fun _ h3 => bnd (loopTail t ds y2 h3) (fun z => Q z.1 z.2) u1) u2 := by
  obtain rfl : y = y2 := hy2.symm
  refine callK_of (chunk63 hS (q := q) (v := v) (L := L) hv hvn (fun i g => I i g ∧ g.get y = some (.loop .ready none fn t n ps a b d) ∧ y < g.nx) hq hL (fun i g hi => hI i g hi.1) (fun i g k hi hk => ⟨hm i g k hi.1 hk, hi.2.1, Nat.lt_of_lt_of_le hi.2.2 hk⟩) (fun i g w hi hg hb => step i g w hi hg.1 hg.2.1 hg.2.2 hb) ⟨h0, AH.get_new_eq hy, by rw [hy]; exact Nat.lt_succ_self _⟩) ?_
  rintro r g ⟨hi, hg, _⟩
  refine ⟨(.normal, { t := t, h := g.put y (.loop .exhausted none fn t n ps a b d), d := ds }), ?_, fin g hi hg⟩
  unfold loopTail
  rw [hg]
end
end Go.Proofs.YtfhcnoancepgcaaGreatDoor.dig
