/- The program's tree: a crash. Conditions: those of its summaries. -/
import Derived.Test.YthkdhdcbhpknnaaGreatDoorTCi
namespace Go.Proofs.YthkdhdcbhpknnaaGreatDoor.tre
open Go Go.Abs Go.Proofs
set_option maxRecDepth 100000
set_option linter.unusedVariables false
set_option linter.unusedSimpArgs false

theorem insS_mem {a x : Pth} : ∀ {l : List Pth}, x ∈ insS a l → x = a ∨ x ∈ l
 | [], h => .inl (List.mem_singleton.1 h)
 | b :: l, h => by
  unfold insS at h
  cases hc : lessA b a
  ·rw [hc] at h
   simp only [cond_false, List.mem_cons] at h ⊢
   exact h
  ·rw [hc] at h
   simp only [cond_true, List.mem_cons] at h ⊢
   rcases h with h | h
   ·exact .inr (.inl h)
   ·exact (insS_mem h).imp id .inr
theorem sortS_mem {x : Pth} : ∀ {l : List Pth}, x ∈ sortS l → x ∈ l
 | a :: l, h => by
  rcases insS_mem (l := sortS l) h with h | h
  ·rw [h]; exact List.mem_cons_self ..
  ·exact List.mem_cons_of_mem _ (sortS_mem h)
theorem insS_len (a : Pth) : ∀ l : List Pth, (insS a l).length = l.length + 1
 | [] => rfl
 | b :: l => by
  unfold insS
  cases lessA b a
  ·simp
  ·simp [insS_len a l]
theorem sortS_len : ∀ l : List Pth, (sortS l).length = l.length
 | [] => rfl
 | a :: l => by
  show (insS a (sortS l)).length = _
  rw [insS_len, sortS_len l]
  rfl
theorem crashL_snoc {was : Ixs} {s : Pth} : ∀ (l : List Pth) (T : TT) (ps : List Int), crashL was T (l ++ [s]) ps = crash1 was (crashL was T l ps) s (hd0 (ps.drop l.length))
 | [], T, ps => rfl
 | a :: l, T, ps => by
  show crashL was (crash1 was T a (hd0 ps)) (l ++ [s]) ps.tail = _
  rw [crashL_snoc l]
  have : ps.tail.drop l.length = ps.drop (a :: l).length := by cases ps <;> simp
  rw [this]
  rfl
theorem crashL_take {was : Ixs} {T : TT} {ps : List Int} {l : List Pth} {i : Nat} {s : Pth} (hi : l[i]? = some s) : crashL was T (l.take (i + 1)) ps = crash1 was (crashL was T (l.take i) ps) s (hd0 (ps.drop i)) := by
 have hil : i < l.length := (List.getElem?_eq_some_iff.1 hi).1
 have : l.take (i + 1) = l.take i ++ [s] := by rw [List.take_add_one, hi]; rfl
 rw [this, crashL_snoc, List.length_take, Nat.min_eq_left (by omega)]
theorem crash1_eq (was : Ixs) (T : TT) (s : Pth) (part : Int) : (crash1 was T s part).safe = T.safe ∧ T.files.length ≤ (crash1 was T s part).files.length ∧ (crash1 was T s part).clock ≤ T.clock + 1 ∧ (crash1 was T s part).notes = T.notes ∧ ∀ i, i < T.files.length → (crash1 was T s part).fil i = T.fil i := by
 unfold crash1
 split
 ·exact ⟨rfl, Nat.le_refl _, by omega, rfl, fun _ _ => rfl⟩
 ·dsimp only
  split
  ·refine ⟨rfl, by simp, by simp, rfl, fun i hi => ?_⟩
   rw [fil_add rfl, if_neg (by omega)]
  ·refine ⟨rfl, by simp, by simp, rfl, fun i hi => ?_⟩
   rw [fil_add (T := T) rfl, if_neg (by omega)]
theorem crashL_eq (was : Ixs) : ∀ (l : List Pth) (T : TT) (ps : List Int), (crashL was T l ps).safe = T.safe ∧ T.files.length ≤ (crashL was T l ps).files.length ∧ (crashL was T l ps).clock ≤ T.clock + l.length ∧ (crashL was T l ps).notes = T.notes ∧ ∀ i, i < T.files.length → (crashL was T l ps).fil i = T.fil i
 | [], T, _ => ⟨rfl, Nat.le_refl _, Nat.le_refl _, rfl, fun _ _ => rfl⟩
 | s :: r, T, ps => by
  obtain ⟨h1, h2, h3, h4, h5⟩ := crash1_eq was T s (hd0 ps)
  obtain ⟨k1, k2, k3, k4, k5⟩ := crashL_eq was r (crash1 was T s (hd0 ps)) ps.tail
  refine ⟨k1.trans h1, Nat.le_trans h2 k2, ?_, k4.trans h4, fun i hi => (k5 i (by omega)).trans (h5 i hi)⟩
  show (crashL was (crash1 was T s (hd0 ps)) r ps.tail).clock ≤ T.clock + (r.length + 1)
  omega
/-- A slice of numbers that is not the tree's. -/
def Iv (K : Nat → Nat) (h : AH) (v : AV) (l : List Int) : Prop :=
 (v = .nilsl ∧ l = []) ∨ ∃ id off c cs o t, v = .sl id off l.length 1 c ∧ h.get id = some (.cells cs o t) ∧ id < h.nx ∧ K id = 0 ∧ (∀ k, c = some k → l.length ≤ k) ∧ off + l.length ≤ cs.length ∧ (cs.drop off).take l.length = l.map (.int .i64)
theorem Iv.gr {K K' : Nat → Nat} {h h' : AH} {v : AV} {l : List Int} (hb : Iv K h v l) (g : Gr K h K' h') : Iv K' h' v l := by
 rcases hb with h1 | ⟨id, off, c, cs, o, t, h1, h2, h3, h4, h5⟩
 ·exact .inl h1
 ·exact .inr ⟨id, off, c, cs, o, t, h1, (g.get id h3 h4).1.trans h2, Nat.lt_of_lt_of_le h3 g.nx, (g.get id h3 h4).2, h5⟩
theorem Iv.ln {K : Nat → Nat} {h : AH} {v : AV} {l : List Int} (hb : Iv K h v l) : (∀ g, evLen Tryz.prog g #[44] v = some (.int .i64 (l.length : Nat))) ∧ sameAV 20 v v = true ∧ oneA v = true := by
 rcases hb with ⟨rfl, rfl⟩ | ⟨id, off, c, cs, o, t, rfl, _⟩
 ·exact ⟨fun g => by simp [evLen, Tryz.underlying44], rfl, rfl⟩
 ·exact ⟨fun g => by simp [evLen, Tryz.underlying44], by simp [sameAV], rfl⟩
theorem Iv.tail {K : Nat → Nat} {h : AH} {v : AV} {a : Int} {l : List Int} (hb : Iv K h v (a :: l)) : ∃ id off c cs o t v', v = .sl id off (l.length + 1) 1 c ∧ h.get id = some (.cells cs o t) ∧ cs[off]? = some (.int .i64 a) ∧ (∀ g, evSlice Tryz.prog g 44 v (some (.int .i64 1)) none none = some v') ∧ Iv K h v' l := by
 rcases hb with ⟨rfl, hb⟩ | ⟨id, off, c, cs, o, t, rfl, h2, h3, h4, h5, h6, h7⟩
 ·cases hb
 ·have hl : (a :: l).length = l.length + 1 := rfl
  rw [hl] at h5 h6 h7
  have h0 : cs[off]? = some (.int .i64 a) := by
   have : ((cs.drop off).take (l.length + 1))[0]? = some (.int .i64 a) := by rw [h7]; rfl
   rw [List.getElem?_take_of_lt (by omega), List.getElem?_drop] at this
   exact this
  refine ⟨id, off, c, cs, o, t, .sl id (off + 1 * 1) (l.length + 1 - 1) 1 (c.map (· - 1)), rfl, h2, h0, fun g => ?_, .inr ⟨id, off + 1, c.map (· - 1), cs, o, t, by simp, h2, h3, h4, fun k hk => ?_, by omega, ?_⟩⟩
  ·have hu : upTo (1 : Int) (l.length + 1) = some 1 := by rw [upTo_of (by omega) (by omega)]; simp
   simp [evSlice, Tryz.underlying44, tz3, boundsA, boundA, hu]
  ·cases c with
   | none => cases hk
   | some c =>
    simp at hk
    have := h5 c rfl
    omega
  ·have : ((cs.drop off).take (l.length + 1)).drop 1 = ((a :: l).map (AV.int .i64)).drop 1 := by rw [h7]
   rw [List.drop_take, List.drop_drop] at this
   simpa using this
theorem plain_fil {K : Nat → Nat} {h : AH} {id : Nat} {f : Fil} (hf : FilA K h id f) : plainBlock h id = true := by
 obtain ⟨bv, sv, q1, _⟩ := hf
 simp [plainBlock, q1]
theorem nePP {h : AH} {a b : Nat} (ha : plainBlock h a = true) (hb : plainBlock h b = true) : binA Tryz.prog h .neq 108 (.ptr a 0) (.ptr b 0) = some (.bool (!decide (a = b))) := by
 have hi : ((Tryz.prog.info? 110).isNone || tsize Tryz.prog 110 == some 0) = false := by kernel_rfl
 show (if eqOk Tryz.prog 108 (.ptr a 0) (.ptr b 0) = true then (eqA Tryz.prog h (11 + 1) 108 (.ptr a 0) (.ptr b 0)).map fun e => AV.bool !e else none) = _
 unfold eqA
 simp only [Tryz.underlying108, hi, ha, hb]
 by_cases c : a = b
 ·simp [c, eqOk]
 ·simp [c, eqOk]
theorem neNP (h : AH) (b : Nat) : binA Tryz.prog h .neq 108 .nilptr (.ptr b 0) = some (.bool true) := by kernel_rfl
/-- The tree with other present files. -/
theorem Tr.setNow {K p nm sm chv ρ h T} (hT : Tr K p nm sm chv ρ h T) {h' : AH} {E : Ixs} (hE : IxOK T.files.length E) (hm : ∃ bs ck, h'.get nm = some (.map (enS (mapS (fpt ρ) E)) bs ck)) (hn : h'.nx = h.nx) (ho : ∀ j, j ≠ nm → h'.get j = h.get j) :
  Tr K p nm sm chv ρ h' { T with now := E } := by
 have ne : ∀ {j n}, K j = n → n ≠ 2 → h'.get j = h.get j := fun {j n} hj h0 => ho j (fun hh => by rw [hh, hT.kn] at hj; omega)
 have k5 : ∀ j, K j = 5 → K j = 5 ∧ h'.get j = h.get j := fun j hj => ⟨hj, ne hj (by omega)⟩
 have k6 : ∀ j, K j = 6 → K j = 6 ∧ h'.get j = h.get j := fun j hj => ⟨hj, ne hj (by omega)⟩
 obtain ⟨h1, h2, ⟨b3, c3, h3⟩, h4, h5, h6, h7, h8, h9, h10, w⟩ := hT
 refine ⟨(ne h7 (by omega)).trans h1, hm, ⟨b3, c3, (ne h9 (by omega)).trans h3⟩, h4.mono (n := T.files.length) k5 k6 (by omega) (fun _ _ => rfl) w.notes, fun i hi => ?_, h6, h7, h8, h9, fun j hj => h10 j (by omega), ⟨hE, w.2, w.3, w.4, w.5, w.6⟩⟩
 obtain ⟨bv, sv, q1, q2, q3, q4⟩ := h5 i hi
 exact ⟨bv, sv, (ne q4 (by omega)).trans q1, q2.mono k5 (by omega), q3.mono k5 (by omega), q4⟩
/-- The tree has another map of present files, an empty one. -/
theorem Tr.newNow {K p nm sm chv ρ h T} (hT : Tr K p nm sm chv ρ h T) {m : Nat} {h' : AH} (hm : K m = 0) (hp : h'.get p = some (.cells [.bool true, .int .i64 T.room, .map m, .map sm, chv, .int .u64 (T.clock : Nat), .bool T.off, .int .i64 T.fuse] true false)) (hm2 : h'.get m = some (.map [] [] 0)) (hml : m < h'.nx) (hn : h.nx ≤ h'.nx) (ho : ∀ j, K j ≠ 0 → j ≠ p → h'.get j = h.get j) :
  Tr (fun j => if j = m then 2 else K j) p m sm chv ρ h' { T with now := [] } := by
 have ne : ∀ {j n}, K j = n → n ≠ 0 → (if j = m then 2 else K j) = n := fun {j n} hj h0 => (if_neg (fun hh => by rw [hh, hm] at hj; omega)).trans hj
 have he : ∀ {j n}, K j = n → n ≠ 0 → n ≠ 1 → h'.get j = h.get j := fun {j n} hj h0 h1 => ho j (by omega) (fun hh => by rw [hh, hT.kp] at hj; omega)
 have k5 : ∀ j, K j = 5 → (if j = m then 2 else K j) = 5 ∧ h'.get j = h.get j := fun j hj => ⟨ne hj (by omega), he hj (by omega) (by omega)⟩
 have k6 : ∀ j, K j = 6 → (if j = m then 2 else K j) = 6 ∧ h'.get j = h.get j := fun j hj => ⟨ne hj (by omega), he hj (by omega) (by omega)⟩
 obtain ⟨h1, h2, ⟨b3, c3, h3⟩, h4, h5, h6, h7, h8, h9, h10, w⟩ := hT
 refine ⟨hp, ⟨[], 0, hm2⟩, ⟨b3, c3, (he h9 (by omega) (by omega)).trans h3⟩, h4.mono (n := T.files.length) k5 k6 hn (fun _ _ => rfl) w.notes, fun i hi => ?_, h6, ne h7 (by omega), if_pos rfl, ne h9 (by omega), fun j hj => (if_neg (by omega)).trans (h10 j (by omega)), ⟨IxOK.nil _, w.2, w.3, w.4, w.5, w.6⟩⟩
 obtain ⟨bv, sv, q1, q2, q3, q4⟩ := h5 i hi
 exact ⟨bv, sv, (he q4 (by omega) (by omega)).trans q1, q2.mono k5 hn, q3.mono k5 hn, ne q4 (by omega)⟩
/-- The tree is on, and what is present is safe, in a map of its own. -/
theorem Tr.newSafe {K p nm sm ρ h T} (hT : Tr K p nm sm .nilsl ρ h T) {m : Nat} {h' : AH} (hm : K m = 0) (hp : h'.get p = some (.cells [.bool true, .int .i64 T.room, .map nm, .map m, .nilsl, .int .u64 (T.clock : Nat), .bool false, .int .i64 (-1)] true false)) {b : List Nat} {c : Nat} (hm2 : h'.get m = some (.map (enS (mapS (fpt ρ) T.now)) b c)) (hml : m < h'.nx) (hn : h.nx ≤ h'.nx) (ho : ∀ j, K j ≠ 0 → j ≠ p → h'.get j = h.get j) :
  Tr (fun j => if j = m then 3 else K j) p nm m .nilsl ρ h' { T with safe := T.now, off := false, fuse := -1 } := by
 have ne : ∀ {j n}, K j = n → n ≠ 0 → (if j = m then 3 else K j) = n := fun {j n} hj h0 => (if_neg (fun hh => by rw [hh, hm] at hj; omega)).trans hj
 have he : ∀ {j n}, K j = n → n ≠ 0 → n ≠ 1 → h'.get j = h.get j := fun {j n} hj h0 h1 => ho j (by omega) (fun hh => by rw [hh, hT.kp] at hj; omega)
 have k5 : ∀ j, K j = 5 → (if j = m then 3 else K j) = 5 ∧ h'.get j = h.get j := fun j hj => ⟨ne hj (by omega), he hj (by omega) (by omega)⟩
 have k6 : ∀ j, K j = 6 → (if j = m then 3 else K j) = 6 ∧ h'.get j = h.get j := fun j hj => ⟨ne hj (by omega), he hj (by omega) (by omega)⟩
 obtain ⟨h1, ⟨b2, c2, h2⟩, h3, h4, h5, h6, h7, h8, h9, h10, w⟩ := hT
 refine ⟨hp, ⟨b2, c2, (he h8 (by omega) (by omega)).trans h2⟩, ⟨b, c, hm2⟩, h4.mono (n := T.files.length) k5 k6 hn (fun _ _ => rfl) w.notes, fun i hi => ?_, h6, ne h7 (by omega), ne h8 (by omega), if_pos rfl, fun j hj => (if_neg (by omega)).trans (h10 j (by omega)), ⟨w.1, w.1, w.3, ⟨Int.le_refl _, show (-1 : Int) ≤ 9223372036854775807 by decide⟩, w.5, w.6⟩⟩
 obtain ⟨bv, sv, q1, q2, q3, q4⟩ := h5 i hi
 exact ⟨bv, sv, (he q4 (by omega) (by omega)).trans q1, q2.mono k5 hn, q3.mono k5 hn, ne q4 (by omega)⟩
end Go.Proofs.YthkdhdcbhpknnaaGreatDoor.tre
