/- The program's temporary files, all of them and cleaned, whatever else the tree holds. Conditions: those of its summaries. -/
import Derived.Test.YthkdhdcbhpknnaaGreatDoorTWb
import Derived.Test.YthkdhdcbhpknnaaGreatDoorAb7
namespace Go.Proofs.YthkdhdcbhpknnaaGreatDoor.tre
open Go Go.Abs Go.Abs.Wal Go.Proofs
set_option maxRecDepth 100000
set_option linter.unusedVariables false
set_option linter.unusedSimpArgs false

/-! ### Deleting in place, as plain data -/
theorem put_mid (A md r : List Pth) (x a : Pth) : List.take A.length (List.map AV.str (A ++ x :: md ++ a :: r)) ++ [AV.str a] ++ List.drop (A.length + 1) (List.map AV.str (A ++ x :: md ++ a :: r)) = (A ++ [a] ++ (md ++ [a]) ++ r).map AV.str := by
 have e : List.map AV.str (A ++ x :: md ++ a :: r) = A.map AV.str ++ (AV.str x :: (md.map AV.str ++ AV.str a :: r.map AV.str)) := by simp
 have e2 : ∀ Z : List AV, List.drop (A.length + 1) (A.map AV.str ++ AV.str x :: Z) = Z := fun Z => by
  rw [show A.length + 1 = (A.map AV.str ++ [AV.str x]).length by simp, show A.map AV.str ++ AV.str x :: Z = (A.map AV.str ++ [AV.str x]) ++ Z by simp, List.drop_left]
 rw [e, e2, List.take_left' (by simp)]
 simp
theorem filt_take {f : Pth → Bool} {l : List Pth} {j : Nat} {a : Pth} (h : l[j]? = some a) : (l.take (j + 1)).filter f = (l.take j).filter f ++ if f a = true then [a] else [] := by
 rw [List.take_add_one, h, List.filter_append]
 simp [List.filter_cons]
theorem filt_none {f : Pth → Bool} {l : List Pth} (h : ∀ s ∈ l, f s = true) : l.filter f = l := List.filter_eq_self.2 h
section
variable {S : Sums}
set_option maxHeartbeats 8000000 in
theorem idxF3 (hS : Pw S) {h : AH} {id : Nat} {c : Option Nat} {l : List Pth} (hg : h.get id = some (.cells (l.map .str) true false)) (hid : id < h.nx) (hl : l.length ≤ 16384) : RnC Tryz.prog S 105 [.sl id 0 l.length 1 c, .func (.func 65) [] []] h fun r h' => Fr h h' ∧ ((r = .int .i64 (-1) ∧ ∀ s ∈ l, tempedS s = true) ∨ ∃ i a, r = .int .i64 ((i : Nat) : Int) ∧ l[i]? = some a ∧ tempedS a = false ∧ ∀ s ∈ l.take i, tempedS s = true) := by
 refine RnC.enter' Tryz.f105 _ 19 [.tmp 4] (hS.np _ _ _ (by simp)) bd105 Tryz.func105 rfl rfl rfl ?_
 have ln : ∀ g, evLen Tryz.prog g #[55] (.sl id 0 l.length 1 c) = some (.int .i64 (l.length : Nat)) := fun g => by simp [evLen, Tryz.underlying55]
 simp (maxSteps := 1000000) -dsimp (disch := (repeat first | rw [nxn] | rw [nxp]); try omega) only [go_sem, ln]
 refine loopK_of (RnL.rounds (Q := fun ex u => u.d = [] ∧ Fr h u.h ∧ (ex = .exit 0 ∧ (∀ s ∈ l, tempedS s = true) ∨ ex = .ret ∧ ∃ i a, u.t.get 4 = some (.int .i64 ((i : Nat) : Int)) ∧ l[i]? = some a ∧ tempedS a = false ∧ ∀ s ∈ l.take i, tempedS s = true))
  (fun m u => u.d = [] ∧ Fr h u.h ∧ u.t.get 0 = some (.sl id 0 l.length 1 c) ∧ u.t.get 1 = some (.func (.func 65) [] []) ∧ u.t.get 7 = some (.int .i64 (l.length : Nat)) ∧ ∃ i : Nat, u.t.get 8 = some (.int .i64 (i : Nat)) ∧ i ≤ l.length ∧ (∀ s ∈ l.take i, tempedS s = true) ∧ m = l.length - i) ?_ l.length ?_) ?_
 ·rintro m ⟨t, g, d⟩ ⟨e2, e1, g0, g1, g7, i, g8, hi, hall, rfl⟩
  dsimp only at e1 e2 g0 g1 g7 g8
  subst e2
  by_cases c4 : (i : Int) < (l.length : Nat)
  ·have hil : i < l.length := by omega
   obtain ⟨a, ha⟩ : ∃ a, l[i]? = some a := ⟨_, List.getElem?_eq_getElem hil⟩
   have hcs : (l.map AV.str)[i]? = some (.str a) := by simp [ha]
   have hg1 : g.get id = some (.cells (l.map .str) true false) := (e1.get id hid).trans hg
   simp (maxSteps := 1000000) -dsimp (disch := (repeat first | rw [nxn] | rw [nxp]); try omega) only [go_sem, c4, hil, hg1, hcs, bd65, Nat.mul_one, g0, g1, g7, g8]
   refine callK_of (all1C hS) ?_
   rintro r h2 ⟨rfl, f2⟩
   cases hta : tempedS a
   ·simp (maxSteps := 1000000) -dsimp (disch := (repeat first | rw [nxn] | rw [nxp]); try omega) only [go_sem, c4, hil, hcs, Nat.mul_one, g0, g1, g7, g8]
    exact ⟨trivial, e1.trans f2, .inr ⟨trivial, i, a, rfl, ha, hta, hall⟩⟩
   ·simp (maxSteps := 1000000) -dsimp (disch := (repeat first | rw [nxn] | rw [nxp]); try omega) only [go_sem, c4, hil, hcs, Nat.mul_one, g0, g1, g7, g8]
    exact ⟨l.length - (i + 1), by omega, trivial, e1.trans f2, trivial, trivial, trivial, i + 1, rfl, by omega, fun s hs => by
     rw [List.take_add_one, ha] at hs
     rcases List.mem_append.1 hs with hs | hs
     ·exact hall s hs
     ·simp only [Option.toList, List.mem_singleton] at hs
      rw [hs]; exact hta, rfl⟩
  ·have : i = l.length := by omega
   subst this
   rw [List.take_length] at hall
   simp (maxSteps := 1000000) -dsimp (disch := (repeat first | rw [nxn] | rw [nxp]); try omega) only [go_sem, c4, g0, g1, g7, g8]
   exact ⟨trivial, e1, .inl ⟨trivial, hall⟩⟩
 ·simp (maxSteps := 1000000) -dsimp (disch := (repeat first | rw [nxn] | rw [nxp]); try omega) only [go_sem]
  exact ⟨trivial, Fr.refl _, trivial, trivial, trivial, 0, rfl, Nat.zero_le _, fun s hs => by simp at hs, rfl⟩
 ·rintro ex ⟨t, g, d⟩ ⟨rfl, e1, ⟨rfl, hh⟩ | ⟨rfl, i, a, g4, ha, hta, hh⟩⟩
  ·dsimp only at e1
   simp (maxSteps := 1000000) -dsimp (disch := (repeat first | rw [nxn] | rw [nxp]); try omega) only [go_sem]
   exact ⟨e1, .inl ⟨trivial, hh⟩⟩
  ·dsimp only at e1 g4
   simp (maxSteps := 1000000) -dsimp (disch := (repeat first | rw [nxn] | rw [nxp]); try omega) only [go_sem, g4]
   exact ⟨e1, .inr ⟨i, a, rfl, ha, hta, hh⟩⟩
theorem idxF0 (hS : Pw S) {h : AH} : RnC Tryz.prog S 105 [.nilsl, .func (.func 65) [] []] h fun r h' => r = .int .i64 (-1) ∧ Fr h h' := idxF2 hS (n0 := 0) (l := []) (.inl ⟨rfl, rfl⟩) (by simp) (fun s hs => by cases hs)
set_option maxHeartbeats 8000000 in
theorem delF3 (hS : Pw S) {h0 h : AH} {v : AV} {l : List Pth} (hv : Ss h0.nx h v l) (hf0 : Fr h0 h) (hl : l.length ≤ 16384) : RnC Tryz.prog S 64 [v, .func (.func 65) [] []] h fun r h' => Fr h0 h' ∧ Cs h' r ((l.filter tempedS).map .str) ∧ ∀ id off n z c, r = .sl id off n z c → h0.nx ≤ id := by
 refine RnC.enter' Tryz.f64 _ 42 [.tmp 4] (hS.np _ _ _ (by simp)) bd64 Tryz.func64 rfl rfl rfl ?_
 obtain ⟨ln, sl, ol⟩ := ssLn hv
 rcases hv with ⟨rfl, rfl⟩ | ⟨id, rfl, hg, hid, hn0⟩
 ·simp (maxSteps := 1000000) -dsimp (disch := (repeat first | rw [nxn] | rw [nxp]); try omega) only [go_sem, ln, ol]
  refine callK_of (idxF0 hS) ?_
  rintro r h2 ⟨rfl, f2⟩
  simp (maxSteps := 1000000) -dsimp (disch := (repeat first | rw [nxn] | rw [nxp]); try omega) only [go_sem, ol]
  exact ⟨hf0.trans f2, .inl ⟨rfl, rfl⟩, fun id off n z c hh => (by cases hh)⟩
 simp (maxSteps := 1000000) -dsimp (disch := (repeat first | rw [nxn] | rw [nxp]); try omega) only [go_sem, ln, ol]
 refine callK_of (idxF3 hS hg hid hl) ?_
 rintro r h2 ⟨f2, ⟨rfl, hall⟩ | ⟨i0, a0, rfl, ha0, hta0, hall⟩⟩
 ·simp (maxSteps := 1000000) -dsimp (disch := (repeat first | rw [nxn] | rw [nxp]); try omega) only [go_sem, ol]
  rw [filt_none hall]
  refine ⟨hf0.trans f2, .inr ⟨id, 0, none, l.map .str, true, false, by simp, (f2.get id hid).trans hg, Nat.lt_of_lt_of_le hid f2.nx, by simp, fun k hk => (by cases hk), by simp [List.take_of_length_le]⟩, fun id' off n z c hh => ?_⟩
  cases hh
  exact hn0
 ·have hi0 : i0 < l.length := (List.getElem?_eq_some_iff.1 ha0).1
  have c1 : ¬ (((i0 : Nat) : Int) = -1) := by omega
  have hfl : (l.take i0).filter tempedS = l.take i0 := filt_none hall
  have hti : (l.take i0).length = i0 := by rw [List.length_take]; omega
  have hf1 : (l.take (i0 + 1)).filter tempedS = l.take i0 := by rw [filt_take ha0, hta0, hfl]; simp
  simp (maxSteps := 1000000) -dsimp (disch := (repeat first | rw [nxn] | rw [nxp]); try omega) only [go_sem, ln, ol, c1]
  refine loopK_of (RnL.rounds (Q := fun ex u => ex = .exit 0 ∧ u.d = [] ∧ Fr h0 u.h ∧ u.t.get 0 = some (.sl id 0 l.length 1 none) ∧ u.t.get 5 = some (.int .i64 ((l.filter tempedS).length : Nat)) ∧ id < u.h.nx ∧ ∃ md : List Pth, u.h.get id = some (.cells ((l.filter tempedS ++ md).map .str) true false) ∧ (l.filter tempedS).length + md.length = l.length ∧ md ≠ [])
   (fun m u => u.d = [] ∧ Fr h0 u.h ∧ u.t.get 0 = some (.sl id 0 l.length 1 none) ∧ u.t.get 1 = some (.func (.func 65) [] []) ∧ id < u.h.nx ∧ ∃ (j : Nat) (x : Pth) (md : List Pth), u.t.get 6 = some (.int .i64 (j : Nat)) ∧ u.t.get 5 = some (.int .i64 (((l.take j).filter tempedS).length : Nat)) ∧ u.h.get id = some (.cells (((l.take j).filter tempedS ++ (x :: md) ++ l.drop j).map .str) true false) ∧ j ≤ l.length ∧ ((l.take j).filter tempedS).length + (md.length + 1) = j ∧ m = l.length - j) ?_ (l.length - (i0 + 1)) ?_) ?_
  ·rintro m ⟨t, g, d⟩ ⟨e2, e1, g0, g1, hix, j, x, md, g6, g5, hgj, hj, hlen, rfl⟩
   dsimp only at e1 e2 g0 g1 hix g6 g5 hgj
   subst e2
   by_cases c4 : (j : Int) < (l.length : Nat)
   ·have hjl : j < l.length := by omega
    obtain ⟨a, ha⟩ : ∃ a, l[j]? = some a := ⟨_, List.getElem?_eq_getElem hjl⟩
    have hdr : l.drop j = a :: l.drop (j + 1) := by rw [List.drop_eq_getElem_cons hjl, (List.getElem?_eq_some_iff.1 ha).2]
    have hft := filt_take (f := tempedS) ha
    have hxl : (((l.take j).filter tempedS ++ (x :: md)).length) = j := by rw [List.length_append, List.length_cons]; exact hlen
    generalize hA : (l.take j).filter tempedS = A at hgj g5 hft hlen hxl
    rw [hdr] at hgj
    have hcs : ((A ++ (x :: md) ++ a :: l.drop (j + 1)).map AV.str)[j]? = some (.str a) := by
     rw [List.getElem?_map, List.getElem?_append_right (by omega), hxl]; simp
    simp (maxSteps := 1000000) -dsimp (disch := (repeat first | rw [nxn] | rw [nxp]); try omega) only [go_sem, c4, ln, hjl, hgj, hcs, bd65, Nat.mul_one, g0, g1, g5, g6]
    refine callK_of (all1C hS) ?_
    rintro r h3 ⟨rfl, f3⟩
    have hg3 := (f3.get id hix).trans hgj
    have hi3 : id < h3.nx := Nat.lt_of_lt_of_le hix f3.nx
    cases hta : tempedS a
    ·rw [hta] at hft
     simp only [Bool.false_eq_true, if_false, List.append_nil] at hft
     simp (maxSteps := 1000000) -dsimp (disch := (repeat first | rw [nxn] | rw [nxp]); try omega) only [go_sem, c4, hjl, Nat.mul_one, g0, g1, g5, g6]
     refine ⟨l.length - (j + 1), by omega, trivial, e1.trans f3, trivial, trivial, hi3, j + 1, x, md ++ [a], rfl, ?_, ?_, by omega, ?_, rfl⟩
     ·rw [hft]
     ·rw [hft, hg3]; simp
     ·rw [hft]; simp; omega
    ·rw [hta] at hft
     simp only [if_true] at hft
     have hle : A.length + 1 ≤ (List.map AV.str (A ++ x :: md ++ a :: l.drop (j + 1))).length := by simp
     have hpt : List.take A.length (List.map AV.str (A ++ x :: md ++ a :: l.drop (j + 1))) ++ [AV.str a] ++ List.drop (A.length + 1) (List.map AV.str (A ++ x :: md ++ a :: l.drop (j + 1))) = (A ++ [a] ++ (md ++ [a]) ++ l.drop (j + 1)).map AV.str := put_mid A md _ x a
     have hil : A.length < l.length := by omega
     simp (maxSteps := 1000000) -dsimp (disch := (repeat first | rw [nxn] | rw [nxp]); try omega) only [go_sem, c4, hjl, Nat.mul_one, g0, g1, g5, g6, hg3, hle, hpt, decide_true, hil]
     obtain ⟨x', md', hmd⟩ : ∃ x' md', md ++ [a] = x' :: md' := by
      cases md with
      | nil => exact ⟨a, [], rfl⟩
      | cons y ys => exact ⟨y, ys ++ [a], rfl⟩
     have hmd2 : md'.length = md.length := by have := congrArg List.length hmd; simpa using this.symm
     refine ⟨l.length - (j + 1), by omega, trivial, (e1.trans f3).put _ hn0, trivial, trivial, hi3, j + 1, x', md', rfl, ?_, ?_, by omega, ?_, rfl⟩
     ·rw [hft]; simp
     ·rw [hft, hmd]
     ·rw [hft]; simp; omega
   ·have : j = l.length := by omega
    subst this
    rw [List.take_length] at hgj g5 hlen
    rw [List.drop_length, List.append_nil] at hgj
    simp (maxSteps := 1000000) -dsimp (disch := (repeat first | rw [nxn] | rw [nxp]); try omega) only [go_sem, c4, ln, g0, g1, g5, g6]
    exact ⟨trivial, trivial, e1, trivial, trivial, hix, x :: md, hgj, by simpa using hlen, by simp⟩
  ·simp (maxSteps := 1000000) -dsimp (disch := (repeat first | rw [nxn] | rw [nxp]); try omega) only [go_sem]
   refine ⟨trivial, hf0.trans f2, trivial, trivial, Nat.lt_of_lt_of_le hid f2.nx, i0 + 1, a0, [], rfl, by rw [hf1, hti], ?_, by omega, by rw [hf1, hti]; simp, ?_⟩
   ·rw [f2.get id hid, hg, hf1]
    have : l = l.take i0 ++ [a0] ++ l.drop (i0 + 1) := by
     have e := List.take_append_drop (i0 + 1) l
     rw [List.take_add_one, ha0] at e
     exact e.symm
    exact congrArg (fun z : List Pth => some (AO.cells (z.map AV.str) true false)) this
   ·rfl
  ·rintro ex ⟨t, g, d⟩ ⟨rfl, rfl, e1, g0, g5, hix, md, hgm, hml, hmn⟩
   dsimp only at e1 g0 g5 hgm hix
   generalize l.filter tempedS = A at g5 hgm hml ⊢
   have hmp : 0 < md.length := List.length_pos_iff.2 hmn
   have tz9l : tsize Tryz.prog 9 = some 1 := by kernel_rfl
   have hu : upTo ((A.length : Nat) : Int) l.length = some A.length := by rw [upTo_of (by omega) (by omega)]; simp
   have sf : ∀ g : AH, evSlice Tryz.prog g 55 (.sl id 0 l.length 1 none) (some (.int .i64 (A.length : Nat))) none none = some (.sl id A.length md.length 1 none) := fun g => by
    have : l.length - A.length = md.length := by omega
    simp [evSlice, Tryz.underlying55, boundsA, boundA, hu, this, tz9l]
   have cl : evClear Tryz.prog g #[55] (.sl id A.length md.length 1 none) = some (.val (.tup []) (g.put id (.cells (putCells ((A ++ md).map .str) A.length (repCells [.str []] md.length)) true false))) := by
    have hz : (tzero Tryz.prog 9).map toAV = some (.str []) := by kernel_rfl
    obtain ⟨z, hz1, hz2⟩ : ∃ z, tzero Tryz.prog 9 = some z ∧ toAV z = .str [] := by
     cases hq : tzero Tryz.prog 9 with
     | none => rw [hq] at hz; cases hz
     | some z => rw [hq] at hz; exact ⟨z, rfl, Option.some.inj hz⟩
    have hzl : A.length + md.length * 1 ≤ ((A ++ md).map AV.str).length := by simp
    have hm0 : ¬ md.length = 0 := by omega
    have hus : Tryz.prog.underlying 55 = some (.slice 9) := Tryz.underlying55
    unfold evClear
    simp [hus, hz1, hz2, hm0, hgm, cellsA, oneA]
   have st : ∀ g : AH, evSlice Tryz.prog g 55 (.sl id 0 l.length 1 none) none (some (.int .i64 (A.length : Nat))) none = some (.sl id 0 A.length 1 none) := fun g => by
    simp [evSlice, Tryz.underlying55, boundsA, boundA, hu, tz9l]
   simp (maxSteps := 1000000) -dsimp (disch := (repeat first | rw [nxn] | rw [nxp]); try omega) only [go_sem, g0, g5, sf, cl, st]
   refine ⟨e1.put _ hn0, .inr ⟨id, 0, none, _, true, false, by rw [List.length_map], AH.get_put_eq rfl, hix, ?_, fun k hk => (by cases hk), ?_⟩, fun id' off n z c hh => ?_⟩
   ·simp
   ·have e : List.take A.length (A.map AV.str ++ md.map AV.str) = A.map AV.str := List.take_left' (by simp)
    rw [List.drop_zero, List.length_map, List.map_append, e, List.append_assoc]
    exact List.take_left' (by simp)
   ·cases hh
    exact hn0
/-- All temporary files. -/
theorem allC3 (hS : Pw S) {K p nm sm chv ρ h T} (hT : Tr K p nm sm chv ρ h T) (hm : T.now.length ≤ 16384) : RnC Tryz.prog S 20 [.ptr p 0] h fun r h' => Fr h h' ∧ Cs h' r (((sortS (T.now.map (·.1))).filter tempedS).map .str) ∧ ∀ id off n z c, r = .sl id off n z c → h.nx ≤ id := by
 refine RnC.enter' Tryz.f20 _ 8 [.tmp 2] (hS.nx _ _ _ (by simp)) bd20 Tryz.func20 rfl rfl rfl ?_
 have b0 : bytesOf { data := #[] } = [] := rfl
 simp (maxSteps := 1000000) -dsimp (disch := (repeat first | rw [nxn] | rw [nxp]); try omega) only [go_sem, eqTn, b0]
 refine callK_of (pathsC hS hT hm) ?_
 rintro r h2 ⟨hs, f2⟩
 obtain ⟨ln, sl, ol⟩ := ssLn hs
 try simp (maxSteps := 1000000) -dsimp (disch := (repeat first | rw [nxn] | rw [nxp]); try omega) only [go_sem, ol]
 refine callK_of (delF3 hS hs f2 (by rw [tre.sortS_len, List.length_map]; exact hm)) ?_
 rintro r h3 ⟨f3, hc, hn⟩
 have or3 := hc.one
 try simp (maxSteps := 1000000) -dsimp (disch := (repeat first | rw [nxn] | rw [nxp]); try omega) only [go_sem, or3.1]
 exact ⟨f3, hc, hn⟩
/-- All temporary files taken away. -/
def cleanG (l : List Pth) (T : TT) : (Nat × Nat) × TT :=
 if (rmL l T).1 ≠ 0 then ((0, (rmL l T).1), (rmL l T).2) else
 if l.length = 0 then ((0, 0), (rmL l T).2) else
 if (syncPT (rmL l T).2).1 ≠ 0 then ((0, (syncPT (rmL l T).2).1), (syncPT (rmL l T).2).2) else
 ((l.length, 0), (syncPT (rmL l T).2).2)
set_option maxHeartbeats 8000000 in
theorem cleanC3 (hS : Pw S) {K p nm sm chv ρ h T} (hT : Tr K p nm sm chv ρ h T) {n c : Nat} (hb : Bm n c T) (hn : n ≤ 1000) (hc : c < 1152921504606000000) :
  RnC Tryz.prog S 18 [.ptr p 0] h fun r h' => r = .tup [.int .i64 ((cleanG ((sortS (T.now.map (·.1))).filter tempedS) T).1.1 : Nat), .int .i64 ((cleanG ((sortS (T.now.map (·.1))).filter tempedS) T).1.2 : Nat)] ∧ Res K p h h' (cleanG ((sortS (T.now.map (·.1))).filter tempedS) T).2 := by
 refine RnC.enter' Tryz.f18 _ 36 [.tmp 2, .tmp 3] (hS.nx _ _ _ (by simp)) bd18 Tryz.func18 rfl rfl rfl ?_
 have hpl : p < h.nx := hT.lt (by rw [hT.kp]; decide)
 have hnow := hb.now
 simp (maxSteps := 1000000) -dsimp (disch := (repeat first | rw [nxn] | rw [nxp]); try omega) only [go_sem, eqTn]
 refine callK_of (allC3 hS hT (by omega)) ?_
 rintro r h2 ⟨f2, hc3, hn3⟩
 have ln : ∀ g, evLen Tryz.prog g #[55] r = some (.int .i64 (((sortS (T.now.map (·.1))).filter tempedS).length : Nat)) := fun g => by have := hc3.len Tryz.underlying55 g; rwa [List.length_map] at this
 have ol := hc3.one.1
 have hT2 := hT.fr f2
 have hlen : ((sortS (T.now.map (·.1))).filter tempedS).length ≤ T.now.length := by
  have := List.length_filter_le tempedS (sortS (T.now.map (·.1)))
  rwa [tre.sortS_len, List.length_map] at this
 have tx2 : Tx K h2 r ((sortS (T.now.map (·.1))).filter tempedS) := ⟨hc3, fun id off n z c hh => hT.top id (hn3 _ _ _ _ _ hh)⟩
 have ht : ∀ s ∈ (sortS (T.now.map (·.1))).filter tempedS, tempedS s = true := fun s hs => (List.mem_filter.1 hs).2
 clear hc3 hn3
 unfold cleanG
 generalize (sortS (T.now.map (·.1))).filter tempedS = l at ht ln hlen tx2 ⊢
 simp (maxSteps := 1000000) -dsimp (disch := (repeat first | rw [nxn] | rw [nxp]); try omega) only [go_sem, ol, ln]
 refine loopK_of (RnL.rounds (Q := fun ex u => u.d = [] ∧ Res K p h2 u.h (rmL l T).2 ∧ u.t.get 0 = some (.ptr p 0) ∧ u.t.get 4 = some r ∧ (ex = .exit 0 ∧ (rmL l T).1 = 0 ∨ ex = .ret ∧ (rmL l T).1 ≠ 0 ∧ u.t.get 2 = some (.int .i64 0) ∧ u.t.get 3 = some (.int .i64 ((rmL l T).1 : Nat))))
  (fun m u => u.d = [] ∧ u.t.get 0 = some (.ptr p 0) ∧ u.t.get 4 = some r ∧ u.t.get 13 = some r ∧ u.t.get 14 = some (.int .i64 (l.length : Nat)) ∧ ∃ (i : Nat) (Ti : TT), u.t.get 15 = some (.int .i64 (i : Nat)) ∧ Res K p h2 u.h Ti ∧ Bm (n + i) (c + i) Ti ∧ rmL l T = rmL (l.drop i) Ti ∧ i ≤ l.length ∧ m = l.length - i) ?_ l.length ?_) ?_
 ·rintro m ⟨t, g, d⟩ ⟨e2, g0, g4, g13, g14, i, Ti, g15, hr, hbi, he, hi, rfl⟩
  dsimp only at e2 g0 g4 g13 g14 g15 hr
  subst e2
  by_cases c1 : (i : Int) < (l.length : Nat)
  ·have hil : i < l.length := by omega
   obtain ⟨q, hq⟩ : ∃ q, l[i]? = some q := ⟨_, List.getElem?_eq_getElem hil⟩
   have htq := ht q (List.mem_iff_getElem?.2 ⟨i, hq⟩)
   have oq : okP q = true := by unfold okP; rw [htq, Bool.or_true]
   have hdr : l.drop i = q :: l.drop (i + 1) := by rw [List.drop_eq_getElem_cons hil, (List.getElem?_eq_some_iff.1 hq).2]
   obtain ⟨K', nm', sm', chv', ρ', hT', gr'⟩ := hr
   have txg : Tx K' g r l := txGr tx2 gr'
   obtain ⟨id, off, cp, cs, o, tx, rfl, hg, hid, hcs⟩ := Tx.get txg hq
   have he2 : rmL (q :: l.drop (i + 1)) Ti = if (rmT Ti true q).1 ≠ 0 then rmT Ti true q else rmL (l.drop (i + 1)) (rmT Ti true q).2 := rfl
   rw [hdr, he2] at he
   simp (maxSteps := 1000000) -dsimp (disch := (repeat first | rw [nxn] | rw [nxp]); try omega) only [go_sem, c1, g0, g4, g13, g14, g15, hil, hg, hcs, Nat.mul_one]
   refine callK_of (rmC hS.toSt hT' (Bm.sm hbi (by omega) (by omega)) q) ?_
   rw [oq]
   rintro r2 h4 ⟨rfl, hr4⟩
   have hr5 := resTr gr' hr4
   have hb4 := hbi.rm true q
   by_cases c2 : (((rmT Ti true q).1 : Nat) : Int) = 0
   ·rw [if_neg (by omega)] at he
    simp (maxSteps := 1000000) -dsimp (disch := (repeat first | rw [nxn] | rw [nxp]); try omega) only [go_sem, c1, c2, g0, g4, g13, g14, g15]
    exact ⟨l.length - (i + 1), by omega, trivial, trivial, trivial, trivial, trivial, i + 1, _, rfl, hr5, hb4, he, by omega, rfl⟩
   ·rw [if_pos (by omega)] at he
    simp (maxSteps := 1000000) -dsimp (disch := (repeat first | rw [nxn] | rw [nxp]); try omega) only [go_sem, c1, c2, g0, g4, g13, g14, g15]
    rw [he]
    exact ⟨trivial, hr5, trivial, trivial, .inr ⟨trivial, by omega, trivial, rfl⟩⟩
  ·have : i = l.length := by omega
   subst this
   rw [List.drop_length] at he
   simp (maxSteps := 1000000) -dsimp (disch := (repeat first | rw [nxn] | rw [nxp]); try omega) only [go_sem, c1, g0, g4, g13, g14, g15]
   rw [he]
   exact ⟨trivial, hr, trivial, trivial, .inl ⟨trivial, rfl⟩⟩
 ·simp (maxSteps := 1000000) -dsimp (disch := (repeat first | rw [nxn] | rw [nxp]); try omega) only [go_sem]
  exact ⟨trivial, trivial, trivial, trivial, trivial, 0, T, rfl, ⟨K, nm, sm, chv, ρ, hT2, Gr.refl _ _⟩, hb, rfl, Nat.zero_le _, rfl⟩
 ·have hbl : Bm (n + l.length) (c + l.length) (rmL l T).2 := by
   have := steps_bm (l.map fun q T => rmT T true q) (n := n) (c := c) (T := T) (fun f hf n c T hb => by
    obtain ⟨q, _, rfl⟩ := List.mem_map.1 hf
    exact hb.rm _ _) hb
   rw [List.length_map] at this
   exact this
  rintro ex ⟨t, g, d⟩ ⟨rfl, hr, g0, g4, ⟨rfl, e0⟩ | ⟨rfl, e0, g2, g3⟩⟩
  ·dsimp only at hr g0 g4
   rw [if_neg (by omega)]
   by_cases c3 : l.length = 0
   ·have c3' : ¬ (0 : Int) < ((l.length : Nat) : Int) := by omega
    rw [if_pos c3]
    simp (maxSteps := 1000000) -dsimp (disch := (repeat first | rw [nxn] | rw [nxp]); try omega) only [go_sem, g0, g4, ln, c3']
    exact ⟨by rw [c3]; rfl, resTr (frGr f2 K) hr⟩
   ·have c3' : (0 : Int) < ((l.length : Nat) : Int) := by omega
    rw [if_neg c3]
    simp (maxSteps := 1000000) -dsimp (disch := (repeat first | rw [nxn] | rw [nxp]); try omega) only [go_sem, g0, g4, ln, c3']
    obtain ⟨K', nm', sm', chv', ρ', hT', gr'⟩ := hr
    refine callK_of (syncPC hS.toSt hT' (Bm.sm hbl (by omega) (by omega))) ?_
    rintro r2 h4 ⟨rfl, hr4⟩
    have hr5 := resTr (frGr f2 K) (resTr gr' hr4)
    by_cases c5 : (((syncPT (rmL l T).2).1 : Nat) : Int) = 0
    ·rw [if_neg (by omega)]
     simp (maxSteps := 1000000) -dsimp (disch := (repeat first | rw [nxn] | rw [nxp]); try omega) only [go_sem, c5, g0, g4, ln]
     exact ⟨by first | trivial | rfl, hr5⟩
    ·rw [if_pos (by omega)]
     simp (maxSteps := 1000000) -dsimp (disch := (repeat first | rw [nxn] | rw [nxp]); try omega) only [go_sem, c5, g0, g4, ln]
     exact ⟨by first | trivial | rfl, hr5⟩
  ·dsimp only at hr g2 g3
   rw [if_pos e0]
   simp (maxSteps := 1000000) -dsimp (disch := (repeat first | rw [nxn] | rw [nxp]); try omega) only [go_sem, g2, g3]
   exact ⟨by first | trivial | rfl, resTr (frGr f2 K) hr⟩
end
end Go.Proofs.YthkdhdcbhpknnaaGreatDoor.tre
