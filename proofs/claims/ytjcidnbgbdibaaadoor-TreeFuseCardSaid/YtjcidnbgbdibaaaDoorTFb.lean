/- The law TreeFuse: two trees, sums of sizes. Conditions: those of its summaries. -/
import Derived.Test.YtjcidnbgbdibaaaDoorTFa
import Derived.Test.YtjcidnbgbdibaaaDoorTFp
namespace Go.Proofs.YtjcidnbgbdibaaaDoor.tre
open Go Go.Abs Go.Proofs
set_option maxRecDepth 100000
set_option linter.unusedVariables false
set_option linter.unusedSimpArgs false

/-- Two trees have nothing in common. -/
def Ap (Ka Kb : Nat → Nat) : Prop := ∀ j, Ka j = 0 ∨ Kb j = 0
theorem Ap.symm {Ka Kb : Nat → Nat} (h : Ap Ka Kb) : Ap Kb Ka := fun j => (h j).symm
/-- One tree where something was done to the other. -/
theorem Tr.other {Ka Kb Kb' : Nat → Nat} {p nm sm chv ρ h h' A} (hA : Tr Ka p nm sm chv ρ h A) (ap : Ap Ka Kb) (g : Gr Kb h Kb' h') : Tr Ka p nm sm chv ρ h' A ∧ Ap Ka Kb' := by
  have hb : ∀ j, Ka j ≠ 0 → Kb j = 0 := fun j hj => (ap j).elim (fun hh => absurd hh hj) id
  refine ⟨hA.mono (fun j hj => (g.get j (hA.lt hj) (hb j hj)).1) g.nx, fun j => ?_⟩
  by_cases hj : Ka j = 0
  · exact .inl hj
  · exact .inr (g.get j (hA.lt hj) (hb j hj)).2
/-- What is nobody's stays. -/
theorem Gr.sum {Ka Kb Kb' : Nat → Nat} {h h' : AH} (g : Gr Kb h Kb' h') : Gr (fun j => Ka j + Kb j) h (fun j => Ka j + Kb' j) h' := ⟨g.nx, fun j hj hk => by
  have hk' : Ka j + Kb j = 0 := hk
  obtain ⟨e1, e2⟩ := g.get j hj (by omega)
  exact ⟨e1, by first | (show Ka j + Kb' j = 0; omega) | (show Ka' j + Kb j = 0; omega)⟩⟩
theorem Gr.sum' {Ka Ka' Kb : Nat → Nat} {h h' : AH} (g : Gr Ka h Ka' h') : Gr (fun j => Ka j + Kb j) h (fun j => Ka' j + Kb j) h' := ⟨g.nx, fun j hj hk => by
  have hk' : Ka j + Kb j = 0 := hk
  obtain ⟨e1, e2⟩ := g.get j hj (by omega)
  exact ⟨e1, by first | (show Ka j + Kb' j = 0; omega) | (show Ka' j + Kb j = 0; omega)⟩⟩
theorem AcOK.part {K K0 : Nat → Nat} {h : AH} {a : Ac} (ha : AcOK K0 h a) (hk : ∀ j, K0 j = 0 → K j = 0) : AcOK K h a := by
  refine ⟨⟨ha.b.1, fun id off n z c hh => hk _ (ha.b.2 id off n z c hh)⟩, ha.bl, ?_, ha.n⟩
  rcases ha.ps with h1 | ⟨id, off, c, cs, o, t, h1, h2, h3, h4, h5⟩
  · exact .inl h1
  · exact .inr ⟨id, off, c, cs, o, t, h1, h2, h3, hk _ h4, h5⟩
/-- Texts in a slice that is nobody's. -/
def Sk (K : Nat → Nat) (h : AH) (v : AV) (l : List Pth) : Prop := Ss 0 h v l ∧ ∀ id off n z c, v = .sl id off n z c → K id = 0
theorem Sk.gr {K K' : Nat → Nat} {h h' : AH} {v : AV} {l : List Pth} (hb : Sk K h v l) (g : Gr K h K' h') : Sk K' h' v l := by
  obtain ⟨hb, hk⟩ := hb
  rcases hb with h1 | ⟨id, h1, h2, h3, h4⟩
  · exact ⟨.inl h1, fun id off n z c hh => by rw [h1.1] at hh; cases hh⟩
  · have hk0 := hk _ _ _ _ _ h1
    refine ⟨.inr ⟨id, h1, (g.get id h3 hk0).1.trans h2, Nat.lt_of_lt_of_le h3 g.nx, h4⟩, fun id' off' n z c' hh => ?_⟩
    rw [h1] at hh
    cases hh
    exact (g.get _ h3 hk0).2
theorem Sk.of {K : Nat → Nat} {n0 : Nat} {h : AH} {v : AV} {l : List Pth} (hb : Ss n0 h v l) (top : ∀ j, n0 ≤ j → K j = 0) : Sk K h v l := by
  refine ⟨hb.low (Nat.zero_le _), fun id off n z c hh => ?_⟩
  rcases hb with ⟨h1, _⟩ | ⟨id', h1, h2, h3, h4⟩
  · rw [h1] at hh; cases hh
  · rw [h1] at hh
    cases hh
    exact top _ h4
/-- The sizes of files. -/
def szL (T : TT) : List Pth → Nat
  | [] => 0
  | s :: r => (statT T s).1 + szL T r
theorem szL_ins (T : TT) (a : Pth) : ∀ l, szL T (insS a l) = (statT T a).1 + szL T l
  | [] => rfl
  | b :: l => by
    unfold insS
    cases lessA b a
    · rfl
    · show (statT T b).1 + szL T (insS a l) = (statT T a).1 + ((statT T b).1 + szL T l)
      rw [szL_ins T a l]; omega
theorem szL_sort (T : TT) : ∀ l, szL T (sortS l) = szL T l
  | [] => rfl
  | a :: l => by
    show szL T (insS a (sortS l)) = _
    rw [szL_ins, szL_sort T l]
    rfl
theorem szL_now {T : TT} (w : Wf T) : szL T (T.now.map (·.1)) = T.used := by
  have key : ∀ E : Ixs, (∀ e ∈ E, valS T.now e.1 = some e.2) → szL T (E.map (·.1)) = lenE T.files E := fun E => by
    induction E with
    | nil => intro _; rfl
    | cons e r ih =>
      intro h
      show (statT T e.1).1 + szL T (r.map (·.1)) = ((T.files[e.2]?).getD ⟨[], [], 0⟩).b.length + lenE T.files r
      rw [ih fun x hx => h x (List.mem_cons_of_mem _ hx)]
      unfold statT
      rw [h e (List.mem_cons_self ..)]
      rfl
  exact key T.now fun e he => mem_valS w.now.1 e he
theorem szL_take (T : TT) : ∀ (l : List Pth) (i : Nat), szL T (l.take i) ≤ szL T l
  | [], i => by simp [szL]
  | a :: l, 0 => Nat.zero_le _
  | a :: l, i + 1 => by
    have := szL_take T l i
    show (statT T a).1 + szL T (l.take i) ≤ (statT T a).1 + szL T l
    omega
theorem szL_snoc (T : TT) (a : Pth) : ∀ l, szL T (l ++ [a]) = szL T l + (statT T a).1
  | [] => by simp [szL]
  | b :: l => by
    show (statT T b).1 + szL T (l ++ [a]) = (statT T b).1 + szL T l + (statT T a).1
    rw [szL_snoc T a l]; omega
theorem neAgg (h : AH) (b : List Nat) (e : Int) : binA Tryd.prog h .neq 46 (.agg [.str b, .int .i64 e]) (.agg [.str b, .int .i64 e]) = some (.bool false) := by
  have h1 : eqOk Tryd.prog 46 (.agg [.str b, .int .i64 e]) (.agg [.str b, .int .i64 e]) = true := by
    show (!(Tryd.prog.eqGuardType Tryd.prog.depth 46)) = true
    kernel_rfl
  have hl : eqL b b = true := by rw [eqL_eq]; simp
  have hsi : Tryd.prog.stoodInHeld 46 = false := by kernel_rfl
  have hs : ∀ d, eqA Tryd.prog h (d + 1) 9 (.str b) (.str b) = some true := fun d => by
    unfold eqA
    rw [Tryd.underlying9]
    simp only [hl]
  have hi : ∀ d, eqA Tryd.prog h (d + 1) 26 (.int .i64 e) (.int .i64 e) = some true := fun d => by
    unfold eqA
    rw [Tryd.underlying26]
    simp
  have h2 : eqA Tryd.prog h (11 + 1) 46 (.agg [.str b, .int .i64 e]) (.agg [.str b, .int .i64 e]) = some true := by
    unfold eqA
    rw [Tryd.underlying46]
    simp only [hsi]
    simp [eqFs, partA, aggT, tz9, tz26, hs 10, hi 10, Tryd.underlying9, Tryd.underlying26]
  show (if eqOk Tryd.prog 46 (.agg [.str b, .int .i64 e]) (.agg [.str b, .int .i64 e]) = true then (eqA Tryd.prog h (11 + 1) 46 (.agg [.str b, .int .i64 e]) (.agg [.str b, .int .i64 e])).map fun x => AV.bool !x else none) = _
  rw [if_pos h1, h2]
  rfl
theorem actT_room (T : TT) (k : Nat) (h8 : k ≠ 8) (p q : Pth) (l : List Nat) (n : Int) (ps : List Int) : (actT okP T k p q l n ps).2.room = T.room := by
  have ho : ∀ o, (opT T o).2.room = T.room := fun o => (opT_eq T o).1
  have hmk : ∀ o p, (makeT T o p).2.room = T.room := fun o p => by unfold makeT; dsimp only; split; exact ho o; split <;> exact ho o
  have hpt : ∀ o p g, (putT T o p g).2.room = T.room := fun o p g => by unfold putT; dsimp only; split; exact ho o; split; exact ho o; split <;> exact ho o
  have hsy : ∀ o p, (syncT T o p).2.room = T.room := fun o p => by unfold syncT; dsimp only; split; exact ho o; split <;> exact ho o
  have hsp : (syncPT T).2.room = T.room := by unfold syncPT; dsimp only; split <;> exact ho true
  have hre : ∀ o p q, (renT T o p q).2.room = T.room := fun o p q => by unfold renT; dsimp only; split; exact ho o; split; exact ho o; split <;> exact ho o
  have hrm : ∀ o p, (rmT T o p).2.room = T.room := fun o p => by unfold rmT; dsimp only; split; exact ho o; split <;> exact ho o
  have hrd : ∀ o p, (readT T o p).2.2.room = T.room := fun o p => by unfold readT; dsimp only; split; exact ho o; split <;> exact ho o
  unfold actT
  rw [if_neg h8]
  repeat' split
  all_goals first
    | exact hmk _ _
    | exact hpt _ _ _
    | exact hsy _ _
    | exact hsp
    | exact hre _ _ _
    | exact hrm _ _
    | exact hrd _ _
    | rfl
theorem Fz.eq {a b : TT} (h : Fz a b) : b.now = a.now ∧ b.files = a.files ∧ b.room = a.room ∧ b.off = false ∧ a.off = false ∧ b.safe = a.safe ∧ b.notes = a.notes ∧ b.clock = a.clock := by
  obtain ⟨t, f, h1, h2, rfl, rfl⟩ := h
  exact ⟨rfl, rfl, rfl, h1, h1, rfl, rfl, rfl⟩
theorem Fz.bd {a b : TT} (h : Fz a b) {n : Nat} (hb : Bd n b) : Bd n a := by
  obtain ⟨e1, e2, e3, e4, e5, e6, e7, e8⟩ := h.eq
  exact ⟨e1 ▸ hb.now, by rw [← e6, ← e7]; exact hb.safe, e8 ▸ hb.clock⟩
theorem svA (b : List Nat) (e : Int) : sameAV 20 (.agg [.str b, .int .i64 e]) (.agg [.str b, .int .i64 e]) = true := by
  have : eqL b b = true := by rw [eqL_eq]; simp
  simp [sameAV, sameL, sameScalar, this]
theorem svCells {K : Nat → Nat} {h : AH} {a : Ac} (ha : AcOK K h a) : sameAV 20 (.agg a.cells) (.agg a.cells) = true := by
  have h1 : ∀ l : List Nat, eqL l l = true := fun l => by rw [eqL_eq]; simp
  unfold Ac.cells
  rcases bsShape ha.b.1 with hb | ⟨_, _, _, _, hb⟩ <;> rcases ha.ps with ⟨hp, _⟩ | ⟨_, _, _, _, _, _, hp, _⟩ <;> rw [hb, hp] <;> simp [sameAV, sameL, sameScalar, h1]
theorem eqb1 (h : AH) : binA Tryd.prog h .eql 4 (.bool false) (.bool true) = some (.bool false) := by kernel_rfl
theorem eqb2 (h : AH) : binA Tryd.prog h .eql 4 (.bool true) (.bool false) = some (.bool false) := by kernel_rfl
section
variable {S : Sums}
theorem pick60 (hP : ∀ args h, S 19 args h = none) {h : AH} {a : Int} : RnC Tryd.prog S 19 [.int .i64 a, .int .i64 60] h fun r h' => (∃ q, r = .int .i64 q ∧ 0 ≤ q ∧ q < 60) ∧ h' = h := by
  refine RnC.enter' Tryd.f19 _ 14 [.tmp 4] (hP _ _) bd19 Tryd.func19 rfl rfl rfl ?_
  have hb : -60 < a.tmod 60 ∧ a.tmod 60 < 60 := by
    rcases Int.le_total 0 a with h | h
    · rw [Int.tmod_eq_emod_of_nonneg h]; omega
    · have h2 : a.tmod 60 = -((-a).tmod 60) := by rw [Int.neg_tmod, Int.neg_neg]
      rw [h2, Int.tmod_eq_emod_of_nonneg (by omega)]; omega
  have c0 : ¬ (60 : Int) = 0 := by decide
  by_cases c : a.tmod 60 < 0
  · simp (maxSteps := 1000000) -dsimp (disch := first | omega | ((repeat first | rw [AH.nx_new] | rw [AH.nx_put]); done) | ((repeat first | rw [AH.nx_new] | rw [AH.nx_put]); omega)) only [go_sem, evLen, Int.reduceEq, Int.reduceNe, Int.reduceLT, Int.reduceLE, Int.reduceAdd, Int.reduceSub, Int.reduceMul, Int.reduceNeg, Int.reduceToNat, Nat.reducePow, reduceCtorEq, Nat.reduceEqDiff, Nat.reduceAdd, Nat.reduceLT, Nat.reduceLeDiff, Nat.reduceMul, Nat.reduceSub, Nat.reduceBEq, Int.reduceToNat, c0, c]
    exact ⟨⟨_, rfl, by omega, by omega⟩, trivial⟩
  · simp (maxSteps := 1000000) -dsimp (disch := first | omega | ((repeat first | rw [AH.nx_new] | rw [AH.nx_put]); done) | ((repeat first | rw [AH.nx_new] | rw [AH.nx_put]); omega)) only [go_sem, evLen, Int.reduceEq, Int.reduceNe, Int.reduceLT, Int.reduceLE, Int.reduceAdd, Int.reduceSub, Int.reduceMul, Int.reduceNeg, Int.reduceToNat, Nat.reducePow, reduceCtorEq, Nat.reduceEqDiff, Nat.reduceAdd, Nat.reduceLT, Nat.reduceLeDiff, Nat.reduceMul, Nat.reduceSub, Nat.reduceBEq, Int.reduceToNat, c0, c]
    exact ⟨⟨_, rfl, by omega, by omega⟩, trivial⟩
end
end Go.Proofs.YtjcidnbgbdibaaaDoor.tre
