/- Numbers and pieces put into bytes, by the document. Conditions: those of its summaries. -/
import Derived.Test.YtmphlckolampoaaGreatDoorRCa
namespace Go.Proofs.YtmphlckolampoaaGreatDoor.tbl
open Go Go.Abs Go.Abs.Rec Go.Proofs
set_option maxRecDepth 100000
set_option linter.unusedVariables false
set_option linter.unusedSimpArgs false
theorem add128 (h : AH) (t : TypeId) (n : Nat) (hn : n < 128) : binA Tryz.prog h .add t (.int .u8 (n : Nat)) (.int .u8 128) = some (.int .u8 ((n + 128 : Nat) : Int)) := by
 rw [binA_add]
 have e2 : IntKind.u8.wrap ((n : Nat) + 128 : Int) = ((n + 128 : Nat) : Int) := by
  show ((n : Nat) + 128 : Int) % 256 = _
  omega
 rw [e2]
/-- What becomes of an own slice that is appended to, and of all else. -/
def Oz (v : AV) (h : AH) (v' : AV) (h' : AH) : Prop :=
 h.nx ≤ h'.nx ∧ (∀ j, j < h.nx → (∀ id o n c, v = .sl id o n 1 c → j ≠ id) → h'.get j = h.get j) ∧ (v' = v ∨ ∃ id n, v' = .sl id 0 n 1 none ∧ h.nx ≤ id)
theorem Oz.refl (v : AV) (h : AH) : Oz v h v h := ⟨Nat.le_refl _, fun _ _ _ => rfl, .inl rfl⟩
theorem Oz.trans {v1 v2 v3 : AV} {h1 h2 h3 : AH} (a : Oz v1 h1 v2 h2) (b : Oz v2 h2 v3 h3) : Oz v1 h1 v3 h3 := by
 obtain ⟨a1, a2, a3⟩ := a
 obtain ⟨b1, b2, b3⟩ := b
 refine ⟨Nat.le_trans a1 b1, fun j hj hne => (b2 j (by omega) fun id o n c hv => ?_).trans (a2 j hj hne), ?_⟩
 ·rcases a3 with rfl | ⟨i, m, rfl, hi⟩
  ·exact hne _ _ _ _ hv
  ·cases hv; omega
 ·rcases b3 with rfl | ⟨i, m, rfl, hi⟩
  ·rcases a3 with rfl | ⟨i, m, rfl, hi⟩
   ·exact .inl rfl
   ·exact .inr ⟨i, m, rfl, hi⟩
  ·exact .inr ⟨i, m, rfl, by omega⟩
theorem Oz.pre {v v' : AV} {h g h' : AH} (f : Fr h g) (b : Oz v g v' h') : Oz v h v' h' := by
 obtain ⟨b1, b2, b3⟩ := b
 refine ⟨Nat.le_trans f.nx b1, fun j hj hne => (b2 j (Nat.lt_of_lt_of_le hj f.nx) hne).trans (f.get j hj), ?_⟩
 rcases b3 with rfl | ⟨i, m, rfl, hi⟩
 ·exact .inl rfl
 ·exact .inr ⟨i, m, rfl, Nat.le_trans f.nx hi⟩
theorem appY2 {h0 h : AH} {v x : AV} {l m : List Nat} (hb : Ey h0.nx h v l) (hx : Bs h x m) (hf : Fr h0 h) (hl : l.length + m.length ≤ 1073741824) :
  ∃ v' h', evAppend Tryz.prog h #[58, 58] v x = some (.val v' h') ∧ Fr h0 h' ∧ Ey h0.nx h' v' (l ++ m) ∧ oneA v' = true ∧ Oz v h v' h' := by
 obtain ⟨q1, q2⟩ := hx.first
 obtain ⟨v', h', ha, hf', hz', ov', o1, o2, o3⟩ := Ez.app (P := Tryz.prog) (z := 1) (h0 := h0) (h := h) (v := v) (l := byC l) (x := x) (k := m.length) (m := byC m) Tryz.underlying58 Tryz.underlying58 rfl aiB (by decide) (by decide) hb q1 q2 (by rw [byC_length, Nat.mul_one]) (byC_all m) hf (by rw [byC_length, byC_length]; omega)
 exact ⟨v', h', ha, hf', by unfold Ey; rw [show byC (l ++ m) = byC l ++ byC m by simp [byC]]; exact hz', ov', o1, o2, o3.imp (fun h => h.2) id⟩
theorem appS2 {h0 h : AH} {v : AV} {l m : List Nat} (hb : Ey h0.nx h v l) (hf : Fr h0 h) (hl : l.length + m.length ≤ 1073741824) :
  ∃ v' h', evAppend Tryz.prog h #[58, 9] v (.str m) = some (.val v' h') ∧ Fr h0 h' ∧ Ey h0.nx h' v' (l ++ m) ∧ oneA v' = true ∧ Oz v h v' h' := by
 obtain ⟨v', h', ha, hf', hz', ov', o1, o2, o3⟩ := Ez.app (P := Tryz.prog) (z := 1) (h0 := h0) (h := h) (v := v) (l := byC l) (x := .str m) (k := m.length) (m := byC m) Tryz.underlying58 Tryz.underlying9 rfl aiB (by decide) (by decide) hb rfl (by simp [firstA, byC]) (by rw [byC_length, Nat.mul_one]) (byC_all m) hf (by rw [byC_length, byC_length]; omega)
 exact ⟨v', h', ha, hf', by unfold Ey; rw [show byC (l ++ m) = byC l ++ byC m by simp [byC]]; exact hz', ov', o1, o2, o3.imp (fun h => h.2) id⟩
section
variable {S : Sums}
set_option maxHeartbeats 16000000 in
theorem numDC (hS : Tw S) {h0 h : AH} {v : AV} {l : List Nat} {n : Nat} (hv : Ey h0.nx h v l) (hf0 : Fr h0 h) (hl : l.length ≤ 1000000000) (hn : n < 16384) : RnC Tryz.prog S 29 [v, .int .u64 (n : Nat)] h fun r h' => Ey h0.nx h' r (l ++ numE n) ∧ Fr h0 h' ∧ Oz v h r h' := by
 refine RnC.enter' Tryz.f29 _ 26 [.tmp 4] (hS.nw _ _ _ (by simp)) bd29 Tryz.func29 rfl rfl rfl ?_
 have ov := hv.one
 have q1 : (((n : Nat) : Int).tmod 128) = ((n % 128 : Nat) : Int) := rfl
 have q2 := fun h => cv8 h (n % 128) (by omega)
 have q3 : (((n : Nat) : Int).tdiv 128) = ((n / 128 : Nat) : Int) := rfl
 have w64 : ∀ k : Nat, k < 18446744073709551616 → IntKind.u64.wrap ((k : Nat) : Int) = ((k : Nat) : Int) := fun k hk => by
  show ((k : Nat) : Int) % 18446744073709551616 = _
  omega
 have q4 := w64 (n / 128) (by omega)
 simp (maxSteps := 1000000) -dsimp (disch := (repeat first | rw [nxn] | rw [nxp]); try omega) only [go_sem, ov, q1, q2, q3, q4]
 have hy1 := ey1 h [n % 128] (by simp)
 refine loopK_of (Q := fun ex u => ex = .exit 0 ∧ u.d = [] ∧ Fr h u.h ∧ u.t.get 0 = some v ∧ ∃ w, u.t.get 5 = some w ∧ Ey h.nx u.h w (numE n)) (RnL.unroll ?_) ?_
 ·by_cases hc : n < 128
  ·have c : ¬ (0 : Int) < ((n / 128 : Nat) : Int) := by omega
   simp (maxSteps := 1000000) -dsimp (disch := (repeat first | rw [nxn] | rw [nxp]); try omega) only [go_sem, c]
   refine ⟨trivial, trivial, Fr.new _ _, trivial, _, rfl, ?_⟩
   have : numE n = [n % 128] := by unfold numE; rw [if_pos hc, Nat.mod_eq_of_lt hc]
   rw [this]; exact hy1
  ·have c : (0 : Int) < ((n / 128 : Nat) : Int) := by omega
   have c2 : ¬ (0 : Int) < IntKind.u64.wrap 0 := by decide
   have e1 : (((n / 128 : Nat) : Int).tmod 128) = ((n / 128 : Nat) : Int) := by
    have : (((n / 128 : Nat) : Int).tmod 128) = ((n / 128 % 128 : Nat) : Int) := rfl
    rw [this, Nat.mod_eq_of_lt (by omega)]
   have e2 : (((n / 128 : Nat) : Int).tdiv 128) = ((0 : Nat) : Int) := by
    have : (((n / 128 : Nat) : Int).tdiv 128) = ((n / 128 / 128 : Nat) : Int) := rfl
    rw [this, show n / 128 / 128 = 0 by omega]
   have e3 := w64 0 (by omega)
   have e4 := fun h => cv8 h (n / 128) (by omega)
   have e5 := fun h t => add128 h t (n / 128) (by omega)
   have e6 : IntKind.u8.wrap (((n / 128 : Nat) : Int) + 128) = ((n / 128 + 128 : Nat) : Int) := by
    show (((n / 128 : Nat) : Int) + 128) % 256 = _
    omega
   obtain ⟨v2, h2, ha, hf, hb2, ov2⟩ := appY (h0 := h) (h := (h.new (.cells [.int .u8 ((n % 128 : Nat) : Int)] true false)).new (.cells [.int .u8 ((n / 128 + 128 : Nat) : Int)] true false)) (v := .sl (h.nx + 1) 0 1 1 (some 1)) (l := [n / 128 + 128]) (x := .sl h.nx 0 1 1 (some 1)) (m := [n % 128]) ((ey1 (h.new (.cells [.int .u8 ((n % 128 : Nat) : Int)] true false)) [n / 128 + 128] (by simp)).low (Nat.le_succ _)) ((Ey.bs hy1).fr (Fr.new _ _)) ((Fr.new _ _).news _) (by simp)
   rcases hb2.shape with rfl | ⟨i5, n5, c5, rfl⟩
   all_goals
    simp (maxSteps := 1000000) -dsimp (disch := (repeat first | rw [nxn] | rw [nxp]); try omega) only [go_sem, c, e1, e2, e3, e4, e5, e6, ha, ov2]
    refine RnL.unroll ?_
    simp (maxSteps := 1000000) -dsimp (disch := (repeat first | rw [nxn] | rw [nxp]); try omega) only [go_sem, c2]
    refine ⟨trivial, trivial, hf, trivial, _, rfl, ?_⟩
    have : numE n = [n / 128 + 128] ++ [n % 128] := by unfold numE; rw [if_neg hc]; rfl
    rw [this]; exact hb2
 ·rintro ex ⟨t, g, d⟩ ⟨rfl, rfl, e1, g0, w, g5, hb⟩
  dsimp only at e1 g0 g5 hb
  have hnl : (numE n).length ≤ 2 := by unfold numE; split <;> simp
  obtain ⟨v5, h5', ha5, hf5, hb5, ov5, oz5⟩ := appY2 (h0 := h0) (hv.fr e1) hb.bs (hf0.trans e1) (by omega)
  have ow := hb.one
  rcases hb5.shape with rfl | ⟨i6, n6, c6, rfl⟩
  all_goals
   simp (maxSteps := 1000000) -dsimp (disch := (repeat first | rw [nxn] | rw [nxp]); try omega) only [go_sem, g0, g5, ha5, ow, ov, ov5]
   exact ⟨hb5, hf5, oz5.pre e1⟩
set_option maxHeartbeats 4000000 in
theorem pieDC (hS : Tw S) {h0 h : AH} {v : AV} {l s : List Nat} (hv : Ey h0.nx h v l) (hf0 : Fr h0 h) (hl : l.length ≤ 1000000000) (hs : s.length < 16384) : RnC Tryz.prog S 72 [v, .str s] h fun r h' => ∃ w, r = .tup [w, .int .i64 0] ∧ Ey h0.nx h' w (l ++ pieceE s) ∧ Fr h0 h' ∧ Oz v h w h' := by
 refine RnC.enter' Tryz.f72 _ 16 [.tmp 4, .tmp 5] (hS.nw _ _ _ (by simp)) bd72 Tryz.func72 rfl rfl rfl ?_
 have ov := hv.one
 have c1 : ¬ (1048576 : Int) < (s.length : Nat) := by omega
 have ls : ∀ g : AH, evLen Tryz.prog g #[9] (.str s) = some (.int .i64 (s.length : Nat)) := fun g => by simp [evLen, Tryz.underlying9]
 have cv := fun h => cv64 h s.length (by omega)
 simp (maxSteps := 1000000) -dsimp (disch := (repeat first | rw [nxn] | rw [nxp]); try omega) only [go_sem, c1, ls, cv, ov]
 refine callK_of (numDC hS hv hf0 hl hs) ?_
 rintro w g ⟨hb, f1, oz1⟩
 have hnl : (numE s.length).length ≤ 2 := by unfold numE; split <;> simp
 obtain ⟨v5, h5', ha5, hf5, hb5, ov5, oz5⟩ := appS2 (h0 := h0) (m := s) hb f1 (by rw [List.length_append]; omega)
 have ow := hb.one
 have e : l ++ numE s.length ++ s = l ++ pieceE s := by simp [pieceE]
 rw [e] at hb5
 rcases hb5.shape with rfl | ⟨i6, n6, c6, rfl⟩
 all_goals
  simp (maxSteps := 1000000) -dsimp (disch := (repeat first | rw [nxn] | rw [nxp]); try omega) only [go_sem, ha5, ow, ov5]
  exact ⟨_, rfl, hb5, hf5, oz1.trans oz5⟩
set_option maxHeartbeats 8000000 in
theorem piesDC (hS : Tw S) {h0 h : AH} {v : AV} {l : List Nat} {ts : List (List Nat)} {id n : Nat} {c : Option Nat} (hv : Ey h0.nx h v l) (hf0 : Fr h0 h) (hg : h.get id = some (.cells (ts.map .str) true false)) (hid : id < h.nx) (hne : ∀ i o n c, v = .sl i o n 1 c → id ≠ i) (hn : n = ts.length) (hn4 : n ≤ 4) (hl : l.length ≤ 100000000) (hs : ∀ s ∈ ts, s.length < 16384) :
  RnC Tryz.prog S 30 [v, .sl id 0 n 1 c] h fun r h' => Ey h0.nx h' r (l ++ ts.flatMap pieceE) ∧ Fr h0 h' := by
 refine RnC.enter' Tryz.f30 _ 22 [.tmp 4] (hS.nw _ _ _ (by simp)) bd30 Tryz.func30 rfl rfl rfl ?_
 have ov := hv.one
 have lv : ∀ g, evLen Tryz.prog g #[83] (.sl id 0 n 1 c) = some (.int .i64 (n : Nat)) := fun g => by simp [evLen, Tryz.underlying83]
 simp (maxSteps := 1000000) -dsimp (disch := (repeat first | rw [nxn] | rw [nxp]); try omega) only [go_sem, ov]
 refine loopK_of (RnL.rounds (Q := fun ex u => ex = .exit 0 ∧ u.d = [] ∧ ∃ w, u.t.get 0 = some w ∧ Ey h0.nx u.h w (l ++ ts.flatMap pieceE) ∧ Fr h0 u.h)
  (fun m u => u.d = [] ∧ u.t.get 1 = some (.sl id 0 n 1 c) ∧ ∃ (i : Nat) (w : AV), u.t.get 5 = some (.int .i64 (i : Nat)) ∧ u.t.get 0 = some w ∧ Ey h0.nx u.h w (l ++ (ts.take i).flatMap pieceE) ∧ Fr h0 u.h ∧ Oz v h w u.h ∧ i ≤ n ∧ (l ++ (ts.take i).flatMap pieceE).length ≤ 100000000 + i * 20000 ∧ m = n - i) ?_ n ?_) ?_
 ·rintro m ⟨tt, g, d⟩ ⟨e9, g1, i, w, g5, g0, hb, f1, oz, hi, hbl, rfl⟩
  dsimp only at e9 g0 g1 g5 hb f1 oz
  subst e9
  have ow := hb.one
  by_cases c4 : (i : Int) < (n : Nat)
  ·have hil : i < n := by omega
   obtain ⟨p, hp⟩ : ∃ p, ts[i]? = some p := ⟨_, List.getElem?_eq_getElem (by omega)⟩
   have hpl := hs p (List.mem_iff_getElem?.2 ⟨i, hp⟩)
   have hgx : g.get id = some (.cells (ts.map .str) true false) := (oz.2.1 id hid hne).trans hg
   have hx : (ts.map AV.str)[i]? = some (.str p) := by rw [List.getElem?_map, hp]; rfl
   have ht : ts.take (i + 1) = ts.take i ++ [p] := by rw [List.take_add_one, hp]; rfl
   have hml : i < (ts.map AV.str).length := by rw [List.length_map]; omega
   simp (maxSteps := 1000000) -dsimp (disch := (repeat first | rw [nxn] | rw [nxp]); try omega) only [go_sem, c4, g0, g1, g5, lv, hil, hgx, hx, hml, ow, Nat.mul_one]
   refine callK_of (pieDC hS hb f1 (by omega) hpl) ?_
   rintro w2 g2 ⟨w3, rfl, hb3, f3, oz3⟩
   have ow3 := hb3.one
   have e : l ++ (ts.take i).flatMap pieceE ++ pieceE p = l ++ (ts.take (i + 1)).flatMap pieceE := by rw [ht]; simp
   rw [e] at hb3
   have hnl : (numE p.length).length ≤ 2 := by unfold numE; split <;> simp
   have hll : (l ++ (ts.take (i + 1)).flatMap pieceE).length ≤ 100000000 + (i + 1) * 20000 := by
    rw [← e]
    simp only [List.length_append, pieceE] at hbl ⊢
    omega
   rcases hb3.shape with rfl | ⟨i6, n6, c6, rfl⟩
   all_goals
    simp (maxSteps := 1000000) -dsimp (disch := (repeat first | rw [nxn] | rw [nxp]); try omega) only [go_sem, c4, g0, g1, g5, ow3]
    exact ⟨n - (i + 1), by omega, trivial, trivial, i + 1, _, rfl, rfl, hb3, f3, oz.trans oz3, by omega, hll, rfl⟩
  ·have : i = n := by omega
   subst this
   rw [List.take_of_length_le (by omega)] at hb
   simp (maxSteps := 1000000) -dsimp (disch := (repeat first | rw [nxn] | rw [nxp]); try omega) only [go_sem, c4, g0, g1, g5, lv]
   exact ⟨trivial, trivial, w, rfl, hb, f1⟩
 ·simp (maxSteps := 1000000) -dsimp (disch := (repeat first | rw [nxn] | rw [nxp]); try omega) only [go_sem]
  exact ⟨trivial, trivial, 0, v, rfl, rfl, by simpa using hv, hf0, Oz.refl _ _, Nat.zero_le _, by simp; omega, rfl⟩
 ·rintro ex ⟨tt, g, d⟩ ⟨rfl, rfl, w, g0, hb, f1⟩
  dsimp only at g0 hb f1
  have ow := hb.one
  rcases hb.shape with rfl | ⟨i6, n6, c6, rfl⟩
  all_goals
   simp (maxSteps := 1000000) -dsimp (disch := (repeat first | rw [nxn] | rw [nxp]); try omega) only [go_sem, g0, ow]
   exact ⟨hb, f1⟩
end
end Go.Proofs.YtmphlckolampoaaGreatDoor.tbl
