/- The program's temp, continued: Left. Conditions: none but the stated premises. -/
import Derived.Test.YtfhcnoancepgcaaGreatDoorTMf
namespace Go.Proofs.YtfhcnoancepgcaaGreatDoor.dig
open Go Go.Abs Go.Proofs
set_option maxRecDepth 100000
set_option linter.unusedVariables false
set_option linter.unusedSimpArgs false

/-- A slice of numbers that lies at a place not below n0, and what it holds. -/
def Is (n0 : Nat) (h : AH) (v : AV) (l : List Int) : Prop :=
  (v = .nilsl ∧ l = []) ∨ ∃ id, v = .sl id 0 l.length 1 none ∧ h.get id = some (.cells (l.map (AV.int .i64)) true false) ∧ id < h.nx ∧ n0 ≤ id
theorem Is.fr {n0 : Nat} {h h' : AH} {v : AV} {l : List Int} (hb : Is n0 h v l) (hf : ∀ j, n0 ≤ j → j < h.nx → h'.get j = h.get j) (hn : h.nx ≤ h'.nx) : Is n0 h' v l := by
  rcases hb with h1 | ⟨id, h1, h2, h3, h4⟩
  · exact .inl h1
  · exact .inr ⟨id, h1, (hf id h4 h3).trans h2, Nat.lt_of_lt_of_le h3 hn, h4⟩
theorem ints_all (l : List Int) : (l.map (AV.int .i64)).all oneA = true := by
  rw [List.all_eq_true]
  intro c hc
  obtain ⟨b, _, rfl⟩ := List.mem_map.1 hc
  rfl
theorem ai3 : appI Tryz.prog 3 = some (1, 8) := by kernel_rfl
theorem Is.app {n0 : Nat} {h : AH} {v : AV} {l : List Int} {k : Int} {id1 : Nat} {c : Option Nat} {o t : Bool} (hs : Is n0 h v l) (hl : l.length ≤ 1073741824)
    (hid : h.get id1 = some (.cells [.int .i64 k] o t)) (hlt : id1 < h.nx) (hn0 : n0 ≤ h.nx) :
    ∃ v' h', evAppend Tryz.prog h #[44, 44] v (.sl id1 0 1 1 c) = some (.val v' h') ∧ (∀ j, j < n0 → h'.get j = h.get j) ∧ h.nx ≤ h'.nx ∧ Is n0 h' v' (l ++ [k]) ∧ oneA v' = true ∧ ∃ a n, v' = .sl a 0 n 1 none := by
  have hnew : firstA h 1 1 (.sl id1 0 1 1 c) = some [.int .i64 k] := by
    rw [firstA_sl hid (Nat.le_refl _) (by simp)]; rfl
  rcases hs with ⟨rfl, rfl⟩ | ⟨id, rfl, h2, h3, h4⟩
  · rw [evAppend_eq (len := 0) (old := []) Tryz.underlying44 Tryz.underlying44 rfl ai3 rfl hnew rfl rfl rfl (by omega) (by omega) rfl]
    rw [if_neg (by decide)]
    exact ⟨_, _, rfl, fun j hj => by rw [AH.get_new, if_neg (by omega)], by simp, .inr ⟨h.nx, rfl, AH.get_new_eq rfl, Nat.lt_succ_self _, hn0⟩, rfl, _, _, rfl⟩
  · have hold : firstA h 1 l.length (.sl id 0 l.length 1 none) = some (l.map (AV.int .i64)) := by
      rw [firstA_sl h2 (Nat.le_refl _) (by simp), List.drop_zero, Nat.mul_one]
      have ht : (l.map (AV.int .i64)).take (l.map (AV.int .i64)).length = l.map (AV.int .i64) := List.take_length
      rw [List.length_map] at ht
      exact congrArg some ht
    rw [evAppend_eq (len := l.length) Tryz.underlying44 Tryz.underlying44 rfl ai3 rfl hnew rfl hold rfl (by omega) (by omega) rfl]
    rw [if_neg (by decide)]
    simp only
    rw [if_pos (by simp [ownBlock, h2])]
    have ht : (textBlock h id || !(Nat.beq 0 0)) = false := by simp [textBlock, h2]
    rw [ht]
    refine ⟨_, _, rfl, fun j hj => ?_, by simp, .inr ⟨h.nx, ?_, ?_, Nat.lt_succ_self _, hn0⟩, rfl, _, _, rfl⟩
    · rw [AH.get_new, if_neg (by simp; omega), AH.get_del, if_neg (by omega)]
    · simp
    · exact (AH.get_new_eq (h := h.del id) rfl).trans (by simp)

/-- The numbers of missing blocks below i. -/
def mis (B : Int → Option (List Nat)) : Nat → List Int
  | 0 => []
  | i + 1 => if (B i).isSome then mis B i else mis B i ++ [(i : Int)]
theorem mis_len (B : Int → Option (List Nat)) : ∀ i, (mis B i).length ≤ i
  | 0 => Nat.le_refl _
  | i + 1 => by
    unfold mis
    have := mis_len B i
    split
    · omega
    · simp; omega

section
variable {S : Sums}
/-- What holds while the missing numbers are gathered. -/
structure Ga (hx : AH) (lo : AO) (B : Int → Option (List Nat)) (i : Nat) (g : AH) : Prop where
  n : hx.nx + 3 ≤ g.nx
  k : ∀ j, j < hx.nx → g.get j = hx.get j
  v : ∃ v, g.get hx.nx = some (.cells [v] true false) ∧ Is (hx.nx + 3) g v (mis B i)
  y : g.get (hx.nx + 2) = some lo ∧ g.get (hx.nx + 1) = some (.defs true)
theorem Ga.fr {hx : AH} {lo : AO} {B : Int → Option (List Nat)} {i : Nat} {g g' : AH} (hG : Ga hx lo B i g) (hf : Fr g g') : Ga hx lo B i g' := by
  obtain ⟨n, k, ⟨v, v1, v2⟩, y⟩ := hG
  exact ⟨Nat.le_trans n hf.nx, fun j hj => (hf.get j (by omega)).trans (k j hj), ⟨v, (hf.get _ (by omega)).trans v1, v2.fr (fun j _ hj => hf.get j hj) hf.nx⟩, (hf.get _ (by omega)).trans y.1, (hf.get _ (by omega)).trans y.2⟩

theorem busy_gen {P : Program} {x : Option Nat} {fn n y : Nat} {body : Code} {t : Env} {d : List Nat} {g : AH} {o : AO} {K : Ex → St → Prop}
    (H : ∀ gb : AH, gb.nx = g.nx → (∀ j, j ≠ y → gb.get j = g.get j) → gb.get y = some o → syC P S x fn n body { t := t, h := gb, d := d } K) : syC P S x fn n body { t := t, h := g.put y o, d := d } K :=
  H _ rfl (fun j hj => by rw [AH.get_put, if_neg hj]) (AH.get_put_eq rfl)
theorem range_left (hS : Nu S) {h : AH} {cp p m : Nat} {s ln : Int} {D : List (List Nat)} {B : Int → Option (List Nat)} (hD : D.length ≤ 1024) (hc : h.get cp = some (.cells [.ptr p 0] true false)) (hcl : cp < h.nx) (hp : Pt p m h s ln D B)
    {fn n d : Nat} {t : Env} {ps : Array Tmp} {a b : Code} {ds : List Nat} {Q : Ex → St → Prop} {y2 : Nat} (hy2 : y2 = h.nx + 2)
    (step : ∀ (i : Nat) g, i < D.length → Ga h (.loop .ready none fn t n ps a b d) B i g → (B i).isSome = false → RnR Tryz.prog S (h.nx + 2) [.int .i64 (i : Nat)] g fun r g' => r = .bool true ∧ Ga h (.loop .ready none fn t n ps a b d) B (i + 1) g')
    (fin : ∀ g, Ga h (.loop .ready none fn t n ps a b d) B D.length g → Q .normal { t := t, h := g.put (h.nx + 2) (.loop .exhausted none fn t n ps a b d), d := ds }) {u1 u2} :
    callK Tryz.prog S 66 [.yld (h.nx + 1 + 1), .ptr cp 0] (((h.new (.cells [.nilsl] true false)).new (.defs true)).new (.loop .ready none fn t n ps a b d)) (fun _ h3 => bnd (loopTail t ds y2 h3) (fun z => Q z.1 z.2) u1) u2 := by
  subst hy2
  have gfr : ∀ (i : Nat) g, Ga h (.loop .ready none fn t n ps a b d) B i g → Fr h g := fun i g hG => ⟨by have := hG.n; omega, hG.k⟩
  refine callK_of (left45 hS (y := h.nx + 2) (D := D) (B := B) (Ga h (.loop .ready none fn t n ps a b d) B) (fun _ => False) hD (fun i g hG => ⟨⟨_, _, (hG.k cp hcl).trans hc⟩, hp.fr (gfr i g hG)⟩) (fun i g g' hG hf => hG.fr hf) (fun i g hi hG hb => ?_) (fun i g hi hG hb => ?_) ?_) ?_
  · refine ⟨hG.n, hG.k, ?_, hG.y⟩
    unfold mis
    rw [if_pos hb]
    exact hG.v
  · obtain ⟨k, hk⟩ := step i g hi hG hb
    obtain ⟨v, h', h1, h2⟩ := hk
    exact ⟨k, v, h', h1, .inl h2⟩
  · refine ⟨by simp, fun j hj => ?_, ⟨.nilsl, ?_, .inl ⟨rfl, rfl⟩⟩, ?_, ?_⟩
    · rw [AH.get_new, if_neg (by simp; omega), AH.get_new, if_neg (by simp; omega), AH.get_new, if_neg (by omega)]
    · rw [AH.get_new, if_neg (by simp; omega), AH.get_new, if_neg (by simp), AH.get_new, if_pos rfl]
    · rw [AH.get_new, if_pos (by simp)]
    · rw [AH.get_new, if_neg (by simp), AH.get_new, if_pos (by simp)]
  · rintro r g (hG | hF)
    · refine ⟨(.normal, { t := t, h := g.put (h.nx + 2) (.loop .exhausted none fn t n ps a b d), d := ds }), ?_, fin g hG⟩
      unfold loopTail
      rw [hG.y.1]
    · exact hF.elim
set_option maxHeartbeats 8000000 in
theorem seq44 (hS : Nu S) {h : AH} {cp p m : Nat} {s ln : Int} {D : List (List Nat)} {B : Int → Option (List Nat)} (hD : D.length ≤ 1024) (hc : h.get cp = some (.cells [.ptr p 0] true false)) (hcl : cp < h.nx) (hp : Pt p m h s ln D B) :
    RnC Tryz.prog S 67 [.nilsl, .func (.func 66) [] [.ptr cp 0]] h fun r h' => Is h.nx h' r (mis B D.length) ∧ Fr h h' := by
  refine RnC.enter' Tryz.f67 _ 13 [.tmp 4] (hS _ _ _ (by simp)) bd67 Tryz.func67 rfl rfl rfl ?_
  simp (maxSteps := 1000000) -dsimp (disch := (repeat first | rw [nxn] | rw [nxp]); try omega) only [go_sem, evLen, loopHead, bd66]
  refine range_left hS hD hc hcl hp rfl ?_ ?_
  · intro i g hi hG hb
    obtain ⟨n, k, ⟨v, v1, v2⟩, y, hb2⟩ := hG
    refine RnR.enter y (by simp [setArgs]; rfl) ?_
    simp (maxSteps := 1000000) -dsimp (disch := (repeat first | rw [nxn] | rw [nxp]); try omega) only [go_sem, evLen]
    refine ⟨rfl, _, _, _, _, _, _, _, _, y, ?_⟩
    refine busy_gen ?_
    intro gb e1 e2 e3
    dsimp only at e1 e2 e3
    have w1 : gb.get h.nx = some (.cells [v] true false) := (e2 _ (by omega)).trans v1
    have hnl := mis_len B i
    obtain ⟨v', h', ha, hk', hn', hi', ho', a', n', rfl⟩ := Is.app (n0 := h.nx + 3) (h := gb.new (.cells [.int .i64 (i : Nat)] true false)) (c := some 1) (v2.fr (fun j hj1 hj2 => by rw [AH.get_new, if_neg (by omega)]; exact e2 j (by omega)) (by rw [AH.nx_new]; omega)) (by omega) (AH.get_new_eq rfl) (Nat.lt_succ_self _) (by rw [AH.nx_new]; omega)
    have w2 : h'.get h.nx = some (.cells [v] true false) := (hk' _ (by omega)).trans ((AH.get_new_ne (by omega)).trans w1)
    have w3 := (hk' (h.nx + 2) (by omega)).trans ((AH.get_new_ne (by omega)).trans e3)
    simp (maxSteps := 1000000) -dsimp (disch := (repeat first | rw [nxn] | rw [nxp]); try omega) only [go_sem, evLen, w1, w2, ha]
    refine ⟨_, _, _, _, _, _, _, _, _, (AH.get_put_ne (by omega)).trans w3, ?_⟩
    refine ⟨rfl, ?_⟩
    have hn2 : gb.nx + 1 ≤ h'.nx := hn'
    refine ⟨?_, fun j hj => ?_, ⟨.sl a' 0 n' 1 none, ?_, ?_⟩, ?_, ?_⟩
    · show h.nx + 3 ≤ h'.nx
      omega
    · exact (AH.get_put_ne (by omega)).trans ((AH.get_put_ne (by omega)).trans ((hk' j (by omega)).trans ((AH.get_new_ne (by omega)).trans ((e2 j (by omega)).trans (k j hj)))))
    · exact (AH.get_put_ne (by omega)).trans (AH.get_put_eq rfl)
    · unfold mis
      rw [if_neg (by rw [hb]; simp)]
      exact hi'.fr (fun j hj1 hj2 => (AH.get_put_ne (by omega)).trans (AH.get_put_ne (by omega))) (Nat.le_refl _)
    · exact AH.get_put_eq rfl
    · exact (AH.get_put_ne (by omega)).trans ((AH.get_put_ne (by omega)).trans ((hk' _ (by omega)).trans ((AH.get_new_ne (by omega)).trans ((e2 _ (by omega)).trans hb2))))
  · intro g hG
    obtain ⟨n, k, ⟨v, v1, v2⟩, y, hb2⟩ := hG
    have w1 : ∀ o, (g.put (h.nx + 2) o).get h.nx = some (.cells [v] true false) := fun o => (AH.get_put_ne (by omega)).trans v1
    have w2 : ∀ o, (g.put (h.nx + 2) o).get (h.nx + 1) = some (.defs true) := fun o => (AH.get_put_ne (by omega)).trans hb2
    have fr : ∀ o, Fr h (g.put (h.nx + 2) o) := fun o => ⟨by show h.nx ≤ g.nx; omega, fun j hj => (AH.get_put_ne (by omega)).trans (k j hj)⟩
    have fin2 : ∀ o, Is h.nx ((g.put (h.nx + 2) o).put (h.nx + 1) (.defs false)) v (mis B D.length) ∧ Fr h ((g.put (h.nx + 2) o).put (h.nx + 1) (.defs false)) := fun o =>
      ⟨by
        rcases v2 with h1 | ⟨id, q1, q2, q3, q4⟩
        · exact .inl h1
        · exact .inr ⟨id, q1, (AH.get_put_ne (by omega)).trans ((AH.get_put_ne (by omega)).trans q2), q3, by omega⟩, (fr o).put _ (by omega)⟩
    rcases (show v = .nilsl ∨ ∃ a b n z c, v = .sl a b n z c from by
      rcases v2 with ⟨h9, _⟩ | ⟨id, h9, _⟩
      · exact .inl h9
      · exact .inr ⟨_, _, _, _, _, h9⟩) with rfl | ⟨ra, rb, rn, rz, rc, rfl⟩
    · simp (maxSteps := 1000000) -dsimp (disch := (repeat first | rw [nxn] | rw [nxp]); try omega) only [go_sem, evLen, w1, w2, takeMarks]
      exact fin2 _
    · simp (maxSteps := 1000000) -dsimp (disch := (repeat first | rw [nxn] | rw [nxp]); try omega) only [go_sem, evLen, w1, w2, takeMarks]
      exact fin2 _
theorem left34 (hS : Nu S) {h : AH} {p : Nat} : RnC Tryz.prog S 31 [.ptr p 0] h fun r h' => r = .func (.func 66) [] [.ptr h.nx 0] ∧ h' = h.new (.cells [.ptr p 0] true false) := by
  refine RnC.enter' Tryz.f31 _ 4 [.tmp 2] (hS _ _ _ (by simp)) bd31 Tryz.func31 rfl rfl rfl ?_
  simp (maxSteps := 1000000) -dsimp (disch := (repeat first | rw [nxn] | rw [nxp]); try omega) only [go_sem, evLen]
  exact ⟨trivial, trivial⟩
theorem is_one {n0 : Nat} {h : AH} {v : AV} {l : List Int} (hb : Is n0 h v l) : v = .nilsl ∨ ∃ a n, v = .sl a 0 n 1 none := by
  rcases hb with ⟨h9, _⟩ | ⟨id, h9, _⟩
  · exact .inl h9
  · exact .inr ⟨_, _, h9⟩
theorem collect33 (hS : Nu S) {h : AH} {cp p m : Nat} {s ln : Int} {D : List (List Nat)} {B : Int → Option (List Nat)} (hD : D.length ≤ 1024) (hc : h.get cp = some (.cells [.ptr p 0] true false)) (hcl : cp < h.nx) (hp : Pt p m h s ln D B) :
    RnC Tryz.prog S 32 [.func (.func 66) [] [.ptr cp 0]] h fun r h' => Is h.nx h' r (mis B D.length) ∧ Fr h h' := by
  refine RnC.enter' Tryz.f32 _ 5 [.tmp 2] (hS _ _ _ (by simp)) bd32 Tryz.func32 rfl rfl rfl ?_
  simp (maxSteps := 1000000) -dsimp (disch := (repeat first | rw [nxn] | rw [nxp]); try omega) only [go_sem, evLen]
  refine callK_of (seq44 hS hD hc hcl hp) ?_
  rintro r h2 ⟨hi, hf⟩
  rcases is_one hi with rfl | ⟨a, n, rfl⟩
  · exact ⟨hi, hf⟩
  · exact ⟨hi, hf⟩
theorem left11 (hS : Nu S) {h : AH} {p m : Nat} {s ln : Int} {D : List (List Nat)} {B : Int → Option (List Nat)} (hD : D.length ≤ 1024) (hp : Pt p m h s ln D B) :
    RnC Tryz.prog S 13 [.ptr p 0] h fun r h' => Is h.nx h' r (mis B D.length) ∧ Fr h h' := by
  refine RnC.enter' Tryz.f13 _ 9 [.tmp 2] (hS _ _ _ (by simp)) bd13 Tryz.func13 rfl rfl rfl ?_
  simp (maxSteps := 1000000) -dsimp (disch := (repeat first | rw [nxn] | rw [nxp]); try omega) only [go_sem, evLen]
  refine callK_of (made30 hS hp) ?_
  rintro r h2 ⟨rfl, hf2⟩
  simp (maxSteps := 1000000) -dsimp (disch := (repeat first | rw [nxn] | rw [nxp]); try omega) only [go_sem, evLen]
  refine callK_of (left34 hS) ?_
  rintro r h3 ⟨rfl, rfl⟩
  refine callK_of (collect33 hS hD (AH.get_new_eq rfl) (Nat.lt_succ_self _) (hp.fr (hf2.news _))) ?_
  rintro r h4 ⟨hi, hf4⟩
  have hn4 := hf4.nx
  have hn2 := hf2.nx
  have hi2 : Is h.nx h4 r (mis B D.length) := by
    rcases hi with h1 | ⟨id, q1, q2, q3, q4⟩
    · exact .inl h1
    · exact .inr ⟨id, q1, q2, q3, by have : h2.nx + 1 ≤ id := q4; omega⟩
  have fr4 : Fr h h4 := (hf2.news _).trans hf4
  rcases is_one hi with rfl | ⟨a, n, rfl⟩
  · exact ⟨hi2, fr4⟩
  · exact ⟨hi2, fr4⟩
end
end Go.Proofs.YtfhcnoancepgcaaGreatDoor.dig
