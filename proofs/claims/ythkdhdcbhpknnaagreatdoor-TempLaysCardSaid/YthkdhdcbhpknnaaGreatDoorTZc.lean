/- What is safe of a tree, as files; files compared. Conditions: those of its summaries. -/
import Derived.Test.YthkdhdcbhpknnaaGreatDoorTZb
import Derived.Test.YthkdhdcbhpknnaaGreatDoorAb7
namespace Go.Proofs.YthkdhdcbhpknnaaGreatDoor.tre
open Go Go.Abs Go.Abs.Wal Go.Proofs
set_option maxRecDepth 100000
set_option linter.unusedVariables false
set_option linter.unusedSimpArgs false

/-- Files: paths and bytes. -/
def Fls (n0 : Nat) (h : AH) (v : AV) (l : List (Pth × List Nat)) : Prop :=
 ∃ L : List (Pth × AV × List Nat), Ez 2 n0 h v (flat2 (fun e => AV.str e.1) (fun e => e.2.1) L) ∧ L.map (fun e => (e.1, e.2.2)) = l ∧ ∀ e ∈ L, Bs h e.2.1 e.2.2
theorem bsKeep {h h' : AH} {v : AV} {l : List Nat} (hb : Bs h v l) (hn : h.nx ≤ h'.nx) (hk : ∀ id o n z c, v = .sl id o n z c → id < h.nx → h'.get id = h.get id) : Bs h' v l := by
 rcases hb with h1 | ⟨id, off, c, cs, o, t, h1, h2, h3, h4⟩
 ·exact .inl h1
 ·exact .inr ⟨id, off, c, cs, o, t, h1, (hk _ _ _ _ _ h1 h3).trans h2, Nat.lt_of_lt_of_le h3 hn, h4⟩
theorem bsLt {h : AH} {v : AV} {l : List Nat} (hb : Bs h v l) {id o n z : Nat} {c : Option Nat} (hv : v = .sl id o n z c) : id < h.nx := by
 rcases hb with ⟨h1, _⟩ | ⟨id', off, c', cs, ow, t, h1, h2, h3, h4⟩
 ·rw [h1] at hv; cases hv
 ·rw [h1] at hv; cases hv; exact h3
theorem ezLt {z n0 : Nat} {h : AH} {v : AV} {l : List AV} (hb : Ez z n0 h v l) {id o n z' : Nat} {c : Option Nat} (hv : v = .sl id o n z' c) : id < h.nx ∧ n0 ≤ id := by
 rcases hb with ⟨h1, _⟩ | ⟨id', n', c', tx, h1, h2, h3, h4, h5⟩
 ·rw [h1] at hv; cases hv
 ·rw [h1] at hv; cases hv; exact ⟨h3, h4⟩
theorem bnGe {n0 : Nat} {h : AH} {v : AV} {l : List Nat} (hb : Bn n0 h v l) {id o n z : Nat} {c : Option Nat} (hv : v = .sl id o n z c) : n0 ≤ id := by
 rcases hb with ⟨h1, _⟩ | ⟨id', c', cs, tx, h1, h2, h3, h4, h5⟩
 ·rw [h1] at hv; cases hv
 ·rw [h1] at hv; cases hv; exact h4
/-- Nobody of the elements lies in the slice's own block. -/
def Apt (v w : AV) : Prop := ∀ id o n c id' o' n' z' c', v = .sl id o n 2 c → w = .sl id' o' n' z' c' → id' ≠ id
/-- Files while they are gathered. -/
def Flg (n0 : Nat) (h : AH) (v : AV) (l : List (Pth × List Nat)) : Prop :=
 ∃ L : List (Pth × AV × List Nat), Ez 2 n0 h v (flat2 (fun e => AV.str e.1) (fun e => e.2.1) L) ∧ L.map (fun e => (e.1, e.2.2)) = l ∧ ∀ e ∈ L, Bs h e.2.1 e.2.2 ∧ Apt v e.2.1
theorem Flg.fls {n0 n1 : Nat} {h : AH} {v : AV} {l : List (Pth × List Nat)} (hb : Flg n0 h v l) (hn : n1 ≤ n0) : Fls n1 h v l := by
 obtain ⟨L, h1, h2, h3⟩ := hb
 exact ⟨L, h1.low hn, h2, fun e he => (h3 e he).1⟩
theorem Flg.nil (n0 : Nat) (h : AH) : Flg n0 h .nilsl [] := ⟨[], .inl ⟨rfl, rfl⟩, rfl, fun e he => by cases he⟩
theorem bldFl {v : AV} (s : Pth) (hv : v = .nilsl ∨ ∃ a o n c, v = .sl a o n 1 c) : evBuild Tryz.prog 139 [(0, .str s), (1, v)] = some (.agg [.str s, v]) := by
 rcases hv with rfl | ⟨a, o, n, c, rfl⟩ <;> kernel_rfl
theorem ai76 : appI Tryz.prog 139 = some (2, 40) := by kernel_rfl
/-- One file more. -/
theorem Flg.app {h0 g h5 : AH} {v rb : AV} {l : List (Pth × List Nat)} (hb : Flg h0.nx g v l) (hl : l.length ≤ 16384) (f0 : Fr h0 g) (f5 : Fr g h5) (a : Pth) {b : List Nat} (hrb : Bs h5 rb b) (hge : ∀ id o n z c, rb = .sl id o n z c → g.nx ≤ id) :
  ∃ v' h', evAppend Tryz.prog (h5.new (.cells [.str a, rb] true false)) #[76, 76] v (.sl h5.nx 0 1 2 (some 1)) = some (.val v' h') ∧ Fr h0 h' ∧ Flg h0.nx h' v' (l ++ [(a, b)]) ∧ oneA v' = true := by
 obtain ⟨L, hez, hL, hLb⟩ := hb
 have ob := (bsLn hrb).2.2
 have hLl : L.length = l.length := by rw [← hL, List.length_map]
 have f6 : Fr g (h5.new (.cells [.str a, rb] true false)) := f5.news _
 obtain ⟨v', h', happ, hf', hez', ov', hn', hk', hv'⟩ := Ez.app (P := Tryz.prog) (z := 2) (h0 := h0) (h := h5.new (.cells [.str a, rb] true false)) (x := .sl h5.nx 0 1 2 (some 1)) (k := 1) (m := [.str a, rb]) Tryz.underlying76 Tryz.underlying76 rfl ai76 (by decide) (by decide) (hez.fr f6) rfl (by rw [firstA_sl (AH.get_new_eq rfl) (Nat.le_refl _) (by simp)]; rfl) rfl (by
  show (oneA (.str a) && (oneA rb && true)) = true
  rw [ob]; rfl) (f0.trans f6) (by rw [flat2_len, hLl]; simp; omega)
 have n6 : (h5.new (.cells [.str a, rb] true false)).nx = h5.nx + 1 := rfl
 have one : ∀ w bb, Bs h5 w bb → Apt v w → Bs h' w bb ∧ Apt v' w := fun w bb hw hap => by
  have hw6 := hw.fr (Fr.new h5 (.cells [.str a, rb] true false))
  refine ⟨bsKeep hw6 hn' fun id o n z c hh hid => hk' id hid fun id' o' n' c' hv => hap _ _ _ _ _ _ _ _ _ hv hh, fun id o n c id' o' n' z' c' hv hh => ?_⟩
  have hid := bsLt hw hh
  rcases hv' with ⟨_, rfl⟩ | ⟨id1, m1, rfl, hv'⟩
  ·exact hap _ _ _ _ _ _ _ _ _ hv hh
  ·cases hv
   rw [n6] at hv'
   omega
 refine ⟨v', h', happ, hf', ⟨L ++ [(a, rb, b)], ?_, ?_, ?_⟩, ov'⟩
 ·rw [flat2_app]; exact hez'
 ·rw [List.map_append, hL]; rfl
 ·intro e he
  rcases List.mem_append.1 he with he | he
  ·obtain ⟨h1, h2⟩ := hLb e he
   exact one _ _ (h1.fr f5) h2
  ·rw [List.mem_singleton.1 he]
   refine one _ _ hrb fun id o n c id' o' n' z' c' hv hh => ?_
   have h1 := (ezLt hez hv).1
   have h2 := hge _ _ _ _ _ hh
   omega
section
variable {S : Sums}
structure Zs (S : Sums) : Prop extends Pw S where
 ns : ∀ f args h, f ∈ [38, 37] → S f args h = none
/-- The files that are safe, by rising path. -/
def safeF (T : TT) : List (Pth × List Nat) := (sortS (T.safe.map (·.1))).map fun s => (s, (T.fil ((valS T.safe s).getD 0)).s)
set_option maxHeartbeats 8000000 in
theorem safeC (hS : Zs S) {K p nm sm chv ρ h T} (hT : Tr K p nm sm chv ρ h T) (hm : T.safe.length ≤ 16384) : RnC Tryz.prog S 38 [.ptr p 0] h fun r h' => Fls h.nx h' r (safeF T) ∧ Fr h h' := by
 refine RnC.enter' Tryz.f38 _ 37 [.tmp 2] (hS.ns _ _ _ (by simp)) bd38 Tryz.func38 rfl rfl rfl ?_
 have hp := hT.pp
 simp (maxSteps := 1000000) -dsimp (disch := (repeat first | rw [nxn] | rw [nxp]); try omega) only [go_sem]
 refine callK_of (hT.made hS.toSt) ?_
 rintro r h2 ⟨rfl, rfl⟩
 simp (maxSteps := 1000000) -dsimp (disch := (repeat first | rw [nxn] | rw [nxp]); try omega) only [go_sem, hp]
 refine callK_of (keysC hS.toSt) ?_
 rintro r h3 ⟨rfl, h3e⟩
 have f3 : Fr h2 h3 := by rw [h3e]; exact Fr.new _ _
 have hT3 := hT.fr f3
 refine callK_of (sortedC hS.toSt (b := h2.nx) (by rw [h3e]; exact AH.get_new_eq rfl) hT3.safe hT3.wf.safe hm) ?_
 rintro r h4 ⟨hss, f4⟩
 obtain ⟨ln, sl, ol⟩ := ssLn hss
 have hT4 := hT3.fr f4
 have hsl : (sortS (T.safe.map (·.1))).length ≤ 16384 := by rw [tre.sortS_len, List.length_map]; exact hm
 have hsm : ∀ s ∈ sortS (T.safe.map (·.1)), ∃ i, valS T.safe s = some i := fun s hs => by
  have := valS_mem_iff.1 (sortS_mem hs)
  cases hv : valS T.safe s with
  | none => exact absurd hv this
  | some i => exact ⟨i, rfl⟩
 unfold safeF
 have f4' : Fr h2 h4 := f3.trans f4
 simp (maxSteps := 1000000) -dsimp (disch := (repeat first | rw [nxn] | rw [nxp]); try omega) only [go_sem, ol, ln]
 generalize sortS (T.safe.map (·.1)) = l at hss hsl hsm ln ⊢
 generalize hFd : (fun s : Pth => (s, (T.fil ((valS T.safe s).getD 0)).s)) = F
 refine loopK_of (RnL.rounds (Q := fun ex u => ex = .exit 0 ∧ u.d = [] ∧ Fr h2 u.h ∧ ∃ v, u.t.get 3 = some v ∧ Flg h4.nx u.h v (l.map F))
  (fun m u => u.d = [] ∧ Fr h4 u.h ∧ u.t.get 0 = some (.ptr p 0) ∧ u.t.get 14 = some r ∧ u.t.get 15 = some (.int .i64 (l.length : Nat)) ∧ ∃ (i : Nat) (v : AV), u.t.get 16 = some (.int .i64 (i : Nat)) ∧ u.t.get 3 = some v ∧ Flg h4.nx u.h v ((l.take i).map F) ∧ i ≤ l.length ∧ m = l.length - i) ?_ l.length ?_) ?_
 ·rintro m ⟨t, g, d⟩ ⟨e2, e1, g0, g14, g15, i, v, g16, g3, hez, hi, rfl⟩
  dsimp only at e1 e2 g0 g14 g15 g16 g3 hez
  subst e2
  by_cases c4 : (i : Int) < (l.length : Nat)
  ·have hil : i < l.length := by omega
   obtain ⟨a, ha⟩ : ∃ a, l[i]? = some a := ⟨_, List.getElem?_eq_getElem hil⟩
   obtain ⟨k, hk⟩ := hsm a (List.mem_iff_getElem?.2 ⟨i, ha⟩)
   have hTg := hT4.fr e1
   have hpg := hTg.pp
   have hkl : k < T.files.length := (hT.wf.safe.2 a k hk).1
   obtain ⟨bv, sv, q1, q2, q3, q4⟩ := hTg.fl k hkl
   have fo := fil_ok hT.wf k
   have lk := lookN hTg.safe a
   rw [hk] at lk
   rcases hss with ⟨_, rfl⟩ | ⟨id, rfl, hg, hid, hn4⟩
   ·simp at hil
   have hcs : (l.map AV.str)[i]? = some (.str a) := by simp [ha]
   have hg1 := (e1.get id hid).trans hg
   have ov : oneA v = true := by obtain ⟨L, h1, _⟩ := hez; exact h1.one.2
   have osv := (bsLn q3.bs).2.2
   simp (maxSteps := 1000000) -dsimp (disch := (repeat first | rw [nxn] | rw [nxp]); try omega) only [go_sem, c4, hil, hg1, hcs, Nat.mul_one, g0, g14, g15, g16, g3, hpg, lk, nilQ, q1, ov, osv]
   refine callK_of (cloneC hS.toSt q3.bs (by have := fo.2.2.2; omega)) ?_
   rintro rb h5 ⟨hb5, f5⟩
   have ob := (bsLn hb5.bs).2.2
   have bld := bldFl (v := rb) a (by
    rcases hb5.shape with h | ⟨x, n, c, h⟩
    ·exact .inl h
    ·exact .inr ⟨x, 0, n, c, h⟩)
   obtain ⟨v', h', happ, hf', hez', ov'⟩ := Flg.app hez (by rw [List.length_map, List.length_take]; omega) e1 f5 a hb5.bs (fun id o n z c hh => bnGe hb5 hh)
   simp (maxSteps := 1000000) -dsimp (disch := (repeat first | rw [nxn] | rw [nxp]); try omega) only [go_sem, bld, happ, ob, ov', c4, g0, g14, g15, g16, g3]
   refine ⟨l.length - (i + 1), by omega, trivial, hf', trivial, trivial, trivial, i + 1, v', rfl, rfl, ?_, by omega, rfl⟩
   rw [List.take_add_one, ha, List.map_append]
   subst hFd
   simp only [hk, Option.getD, Option.toList, List.map] at hez' ⊢
   exact hez'
  ·have : i = l.length := by omega
   subst this
   rw [List.take_length] at hez
   simp (maxSteps := 1000000) -dsimp (disch := (repeat first | rw [nxn] | rw [nxp]); try omega) only [go_sem, c4, g0, g14, g15, g16, g3]
   exact ⟨trivial, trivial, f4'.trans e1, v, rfl, hez⟩
 ·simp (maxSteps := 1000000) -dsimp (disch := (repeat first | rw [nxn] | rw [nxp]); try omega) only [go_sem]
  exact ⟨trivial, Fr.refl _, trivial, trivial, trivial, 0, .nilsl, rfl, rfl, Flg.nil _ _, Nat.zero_le _, rfl⟩
 ·rintro ex ⟨t, g, d⟩ ⟨rfl, rfl, e1, v, g3, hez⟩
  dsimp only at e1 g3 hez
  have ov : oneA v = true := by obtain ⟨L, h1, _⟩ := hez; exact h1.one.2
  simp (maxSteps := 1000000) -dsimp (disch := (repeat first | rw [nxn] | rw [nxp]); try omega) only [go_sem, g3, ov]
  exact ⟨hez.fls f4'.nx, e1⟩
theorem bsTextG {h g : AH} {v : AV} {l : List Nat} {s e d : TypeId} (hb : Bs h v l) (hgg : ∀ id, id < h.nx → g.get id = h.get id) (hs : Tryz.prog.underlying s = some (.slice e)) (he : Tryz.prog.underlying e = some (.int .u8)) (hd : Tryz.prog.underlying d = some .string) (hl : ∀ b ∈ l, b < 256) :
  evConvert Tryz.prog g s d v = some (.val (.str l) g) := by
 rcases hb with ⟨rfl, rfl⟩ | ⟨id, off, c, cs, o, tx, rfl, h2, h3, h4, h5, h6⟩
 ·simp [evConvert, hs, hd, he, lenA, firstA, bytesA]
 ·have h2' := (hgg id h3).trans h2
  have h7 : firstA g 1 l.length (.sl id off l.length 1 c) = some (byC l) := by
   simp only [firstA, cellsAt, h2', Nat.mul_one, h4]
   simp [h6]
  simp only [evConvert, hs, hd, he, lenA, Option.bind_eq_bind, Option.bind_some, h7, bytesA_byC l hl]
theorem neStF (h : AH) (a b : List Nat) : binA Tryz.prog h .neq 9 (.str a) (.str b) = some (.bool (!decide (a = b))) := by
 simp [binA, strA, eqL_eq]
set_option maxHeartbeats 8000000 in
theorem filesC (hS : Zs S) {h : AH} {n1 n2 : Nat} {v w : AV} {l m : List (Pth × List Nat)} (hv : Fls n1 h v l) (hw : Fls n2 h w m) (hl : ∀ e ∈ l, ∀ x ∈ e.2, x < 256) (hm : ∀ e ∈ m, ∀ x ∈ e.2, x < 256) (hll : l.length ≤ 16384) : RnC Tryz.prog S 37 [v, w] h fun r h' => r = .bool (decide (l = m)) := by
 refine RnC.enter' Tryz.f37 _ 43 [.tmp 4] (hS.ns _ _ _ (by simp)) bd37 Tryz.func37 rfl rfl rfl ?_
 obtain ⟨L, hez, hL, hLb⟩ := hv
 obtain ⟨M, hez2, hM, hMb⟩ := hw
 have hLl : L.length = l.length := by rw [← hL, List.length_map]
 have hMl : M.length = m.length := by rw [← hM, List.length_map]
 have ov := hez.one.2
 have ow := hez2.one.2
 have lv := hez.len (n := l.length) Tryz.underlying76 (by decide) (by rw [flat2_len, hLl])
 have lw := hez2.len (n := m.length) Tryz.underlying76 (by decide) (by rw [flat2_len, hMl])
 by_cases c1 : ((l.length : Nat) : Int) = (m.length : Nat)
 ·have c1' : l.length = m.length := by omega
  simp (maxSteps := 1000000) -dsimp (disch := (repeat first | rw [nxn] | rw [nxp]); try omega) only [go_sem, ov, ow, lv, lw, c1]
  refine loopK_of (RnL.rounds (Q := fun ex u => u.d = [] ∧ (ex = .exit 0 ∧ l = m ∨ ex = .ret ∧ ¬ l = m ∧ u.t.get 4 = some (.bool false)))
   (fun k u => u.d = [] ∧ u.h.nx ≥ h.nx ∧ Fr h u.h ∧ u.t.get 0 = some v ∧ u.t.get 1 = some w ∧ ∃ i : Nat, u.t.get 5 = some (.int .i64 (i : Nat)) ∧ i ≤ l.length ∧ l.take i = m.take i ∧ k = l.length - i) ?_ l.length ?_) ?_
  ·rintro k ⟨t, g, d⟩ ⟨e2, hgn, e1, g0, g1, i, g5, hi, heq, rfl⟩
   dsimp only at e1 e2 g0 g1 g5 hgn
   subst e2
   by_cases c4 : (i : Int) < (l.length : Nat)
   ·have hil : i < l.length := by omega
    obtain ⟨a, ha⟩ : ∃ a, L[i]? = some a := ⟨_, List.getElem?_eq_getElem (show i < L.length by omega)⟩
    obtain ⟨b, hb⟩ : ∃ b, M[i]? = some b := ⟨_, List.getElem?_eq_getElem (show i < M.length by omega)⟩
    have hal : l[i]? = some (a.1, a.2.2) := by rw [← hL, List.getElem?_map, ha]; rfl
    have hbm : m[i]? = some (b.1, b.2.2) := by rw [← hM, List.getElem?_map, hb]; rfl
    obtain ⟨id, c, rfl, hg, hid, _⟩ := hez.at (n := l.length) (by rw [flat2_len, hLl]) hil (by decide)
    obtain ⟨id2, cc, rfl, hg2, hid2, _⟩ := hez2.at (n := m.length) (i := i) (by rw [flat2_len, hMl]) (by omega) (by decide)
    obtain ⟨x1, x2, _⟩ := flat2_get (fun e : Pth × AV × List Nat => AV.str e.1) (fun e => e.2.1) ha
    obtain ⟨y1, y2, _⟩ := flat2_get (fun e : Pth × AV × List Nat => AV.str e.1) (fun e => e.2.1) hb
    have hgg : ∀ n, ({ tr := g.tr, nx := n } : AH).get id = some (.cells _ true false) := fun n => (e1.get id hid).trans hg
    have hgg2 : ∀ n, ({ tr := g.tr, nx := n } : AH).get id2 = some (.cells _ true false) := fun n => (e1.get id2 hid2).trans hg2
    have hil2 : i < m.length := by omega
    have f9 : Fr h { tr := g.tr, nx := g.nx + 26 } := e1.more _ (by omega)
    have t1 : ∀ g' : AH, (∀ j, j < h.nx → g'.get j = ({ tr := g.tr, nx := g.nx + 26 } : AH).get j) → evConvert Tryz.prog g' 22 9 a.2.1 = some (.val (.str a.2.2) g') := fun g' hg' => bsTextG (hLb a (List.mem_iff_getElem?.2 ⟨i, ha⟩)) (fun j hj => (hg' j hj).trans (f9.get j hj)) Tryz.underlying22 Tryz.underlying5 Tryz.underlying9 (hl _ (List.mem_iff_getElem?.2 ⟨i, hal⟩))
    have t2 : ∀ g' : AH, (∀ j, j < h.nx → g'.get j = ({ tr := g.tr, nx := g.nx + 26 } : AH).get j) → evConvert Tryz.prog g' 22 9 b.2.1 = some (.val (.str b.2.2) g') := fun g' hg' => bsTextG (hMb b (List.mem_iff_getElem?.2 ⟨i, hb⟩)) (fun j hj => (hg' j hj).trans (f9.get j hj)) Tryz.underlying22 Tryz.underlying5 Tryz.underlying9 (hm _ (List.mem_iff_getElem?.2 ⟨i, hbm⟩))
    have t10 := t1 _ (fun _ _ => rfl)
    have t20 := t2 _ (fun _ _ => rfl)
    have ss1 : ∀ x : Pth, sameAV 20 (.str x) (.str x) = true := fun x => by simp [sameAV, eqL_eq]
    obtain ⟨_, s1, o1⟩ := bsLn (hLb a (List.mem_iff_getElem?.2 ⟨i, ha⟩))
    obtain ⟨_, s2, o2⟩ := bsLn (hMb b (List.mem_iff_getElem?.2 ⟨i, hb⟩))
    have tk : a.1 = b.1 → a.2.2 = b.2.2 → l.take (i + 1) = m.take (i + 1) := fun h1 h2 => by
     rw [List.take_add_one, List.take_add_one, heq, hal, hbm, h1, h2]
    have ntk : (¬ a.1 = b.1 ∨ ¬ a.2.2 = b.2.2) → ¬ l = m := fun h1 h2 => by
     rw [h2, hbm] at hal
     have h3 := Option.some.inj hal
     obtain ⟨h4, h5⟩ := Prod.mk.inj h3
     rcases h1 with h1 | h1
     ·exact h1 h4.symm
     ·exact h1 h5.symm
    simp (maxSteps := 1000000) -dsimp (disch := (repeat first | rw [nxn] | rw [nxp]); try omega) only [go_sem, lv, c4, hil, hil2, g0, g1, g5]
    refine syDraw.keep (fun j => j < h.nx) (by kernel_rfl) (by kernel_rfl) ?_
    by_cases hp : a.1 = b.1
    ·have hpd : decide (a.1 = b.1) = true := by simpa using hp
     by_cases hq : a.2.2 = b.2.2
     ·have hqd : decide (a.2.2 = b.2.2) = true := by simpa using hq
      simp (maxSteps := 1000000) -dsimp (disch := (repeat first | rw [nxn] | rw [nxp]); try omega) only [go_sem, hgg, hgg2, x1, x2, y1, y2, hil, hil2, g0, g1, g5, neStF, hpd, hqd, t10, t20, o1, o2, s1, s2, ss1, hid, hid2, true_and, implies_true, sv_int, sv_bool]
      exact ⟨fun g' hg' => by rw [t1 g' hg']; rfl, fun g' hg' => by rw [t2 g' hg']; rfl, l.length - (i + 1), by omega, by omega, f9, i + 1, rfl, by omega, tk hp hq, rfl⟩
     ·have hqd : decide (a.2.2 = b.2.2) = false := by simpa using hq
      simp (maxSteps := 1000000) -dsimp (disch := (repeat first | rw [nxn] | rw [nxp]); try omega) only [go_sem, hgg, hgg2, x1, x2, y1, y2, hil, hil2, g0, g1, g5, neStF, hpd, hqd, t10, t20, o1, o2, s1, s2, ss1, hid, hid2, true_and, implies_true, sv_int, sv_bool]
      exact ⟨fun g' hg' => by rw [t1 g' hg']; rfl, fun g' hg' => by rw [t2 g' hg']; rfl, .inr ⟨ntk (.inr hq), trivial⟩⟩
    ·have hpd : decide (a.1 = b.1) = false := by simpa using hp
     simp (maxSteps := 1000000) -dsimp (disch := (repeat first | rw [nxn] | rw [nxp]); try omega) only [go_sem, hgg, hgg2, x1, x2, y1, y2, hil, hil2, g0, g1, g5, neStF, hpd, o1, o2, s1, s2, ss1, hid, hid2, true_and, implies_true, sv_int, sv_bool]
     exact .inr ⟨ntk (.inl hp), trivial⟩
   ·have : i = l.length := by omega
    subst this
    rw [List.take_length, c1', List.take_length] at heq
    simp (maxSteps := 1000000) -dsimp (disch := (repeat first | rw [nxn] | rw [nxp]); try omega) only [go_sem, lv, c4, g0, g1, g5]
    exact ⟨trivial, .inl ⟨trivial, heq⟩⟩
  ·simp (maxSteps := 1000000) -dsimp (disch := (repeat first | rw [nxn] | rw [nxp]); try omega) only [go_sem]
   exact ⟨trivial, Nat.le_refl _, Fr.refl _, trivial, trivial, 0, rfl, Nat.zero_le _, rfl, rfl⟩
  ·rintro ex ⟨t, g, d⟩ ⟨rfl, ⟨rfl, hh⟩ | ⟨rfl, hh, g4⟩⟩
   ·simp (maxSteps := 1000000) -dsimp (disch := (repeat first | rw [nxn] | rw [nxp]); try omega) only [go_sem]
    rw [decide_eq_true hh]
   ·dsimp only at g4
    simp (maxSteps := 1000000) -dsimp (disch := (repeat first | rw [nxn] | rw [nxp]); try omega) only [go_sem, g4]
    rw [decide_eq_false hh]
 ·have : ¬ l = m := fun hh => c1 (by rw [hh])
  rw [decide_eq_false this]
  simp (maxSteps := 1000000) -dsimp (disch := (repeat first | rw [nxn] | rw [nxp]); try omega) only [go_sem, ov, ow, lv, lw, c1]
end
end Go.Proofs.YthkdhdcbhpknnaaGreatDoor.tre
