/- The program's table: trees cut and joined, one put, one taken, one told. Conditions: those of its summaries. -/
import Derived.Test.YtmphlckolampoaaGreatDoorRAa
namespace Go.Proofs.YtmphlckolampoaaGreatDoor.tbl
open Go Go.Abs Go.Proofs
set_option maxRecDepth 100000
set_option linter.unusedVariables false
set_option linter.unusedSimpArgs false
section
variable {S : Sums}
theorem svi (k : IntKind) (n : Int) : sameAV 20 (.int k n) (.int k n) = true := by simp [sameAV]
theorem svb (b : Bool) : sameAV 20 (.bool b) (.bool b) = true := by simp [sameAV]
theorem gtW (h : AH) (x y : W32) : binA Tryz.prog h .gtr 107 (.int .u32 (iw x)) (.int .u32 (iw y)) = some (.bool (decide (y.toNat < x.toNat))) := by
 rw [binA_gtr]
 have : (iw x > iw y) = (y.toNat < x.toNat) := by rw [iw_def, iw_def]; exact propext ⟨fun hh => by omega, fun hh => by omega⟩
 simp only [this]
theorem eqW (h : AH) (x y : W32) : binA Tryz.prog h .eql 107 (.int .u32 (iw x)) (.int .u32 (iw y)) = some (.bool (decide (x.toNat = y.toNat))) := by
 rw [binA_eql]
 have : (iw x = iw y) = (x.toNat = y.toNat) := by rw [iw_def, iw_def]; exact propext ⟨fun hh => by omega, fun hh => by omega⟩
 simp only [this]
set_option maxHeartbeats 8000000 in
theorem aboveC (hS : Tb S) {K : Nat → Nat} {h : AH} {a b : AV} {k x k2 x2 : List Nat} {l r l2 r2 : Tp} (ha : TpA K h a (.nd k x l r)) (hb : TpA K h b (.nd k2 x2 l2 r2)) : RnC Tryz.prog S 102 [a, b] h fun w h' => w = .bool (aboveA k k2) ∧ Fr h h' := by
 refine RnC.enter' Tryz.f102 _ 36 [.tmp 4] (hS.nt _ _ _ (by simp)) bd102 Tryz.func102 rfl rfl rfl ?_
 obtain ⟨id, lv, rv, rfl, h2, h3, h4, h5, h6⟩ := ha
 obtain ⟨id2, lv2, rv2, rfl, h22, h32, h42, h52, h62⟩ := hb
 simp (maxSteps := 1000000) -dsimp (disch := (repeat first | rw [nxn] | rw [nxp]); try omega) only [go_sem]
 refine syDraw.keepN 0 (fun _ => True) (by kernel_rfl) (by kernel_rfl) rfl ?_
 have f : Fr h { tr := h.tr, nx := h.nx + 32 } := (Fr.refl h).more _ (by omega)
 unfold aboveA
 cases c1 : decide ((rankA k2).toNat < (rankA k).toNat)
 ·cases c2 : decide ((rankA k).toNat = (rankA k2).toNat)
  ·simp (maxSteps := 1000000) -dsimp (disch := (repeat first | rw [nxn] | rw [nxp]); try omega) only [go_sem, h2, h22, gtW, eqW, ltSt, c1, c2]
   exact ⟨by first | trivial | rfl, f⟩
  ·simp (maxSteps := 1000000) -dsimp (disch := (repeat first | rw [nxn] | rw [nxp]); try omega) only [go_sem, h2, h22, gtW, eqW, ltSt, c1, c2]
   exact ⟨by simp, f⟩
 ·simp (maxSteps := 1000000) -dsimp (disch := (repeat first | rw [nxn] | rw [nxp]); try omega) only [go_sem, h2, h22, gtW, eqW, ltSt, c1]
  exact ⟨by first | trivial | rfl | simp, f⟩
theorem cutT_size (key : List Nat) : ∀ t : Tp, (cutT key t).1.size + (cutT key t).2.size = t.size
 | .nil => rfl
 | .nd k v l r => by
  unfold cutT
  split
  ·have := cutT_size key r
   show (l.size + (cutT key r).1.size + 1) + (cutT key r).2.size = l.size + r.size + 1
   omega
  ·have := cutT_size key l
   show (cutT key l).1.size + ((cutT key l).2.size + r.size + 1) = l.size + r.size + 1
   omega
theorem joinT_size (a b : Tp) : (joinT a b).size = a.size + b.size := by
 rw [Tp.size_eq, ino_join, List.length_append, ← Tp.size_eq, ← Tp.size_eq]
set_option maxHeartbeats 8000000 in
theorem cutC (hS : Tb S) {K : Nat → Nat} (key : List Nat) : ∀ (t : Tp) {h : AH} {v : AV}, TpA K h v t → t.size ≤ 1099511627776 → (∀ j, h.nx ≤ j → K j = 0) → RnC Tryz.prog S 56 [v, .str key] h fun w h' => (∃ a b, w = .tup [a, b] ∧ TpA K h' a (cutT key t).1 ∧ TpA K h' b (cutT key t).2) ∧ Fr h h'
 | .nil, h, v, hv, hsz, top => by
  refine RnC.enter' Tryz.f56 _ 52 [.tmp 4, .tmp 5] (hS.nt _ _ _ (by simp)) bd56 Tryz.func56 rfl rfl rfl ?_
  cases hv
  simp (maxSteps := 1000000) -dsimp (disch := (repeat first | rw [nxn] | rw [nxp]); try omega) only [go_sem, eqNn]
  exact ⟨⟨.nilptr, .nilptr, rfl, rfl, rfl⟩, Fr.refl _⟩
 | .nd k x l r, h, v, hv, hsz, top => by
  refine RnC.enter' Tryz.f56 _ 52 [.tmp 4, .tmp 5] (hS.nt _ _ _ (by simp)) bd56 Tryz.func56 rfl rfl rfl ?_
  have hv0 := hv
  obtain ⟨id, lv, rv, rfl, h2, h3, h4, h5, h6⟩ := hv
  have hsz' : l.size + r.size + 1 ≤ 1099511627776 := hsz
  have ol := h5.one.1
  have or_ := h6.one.1
  unfold cutT
  cases hk : lessA k key
  ·simp (maxSteps := 1000000) -dsimp (disch := (repeat first | rw [nxn] | rw [nxp]); try omega) only [go_sem, eqNp, h2, ltSt, hk, ol, or_]
   refine callK_of (cutC hS key l h5 (by omega) top) ?_
   rintro w g ⟨⟨a, b, rfl, ha, hb⟩, f⟩
   have oa := ha.one.1
   have ob := hb.one.1
   have h2g := (f.get _ h3).trans h2
   simp (maxSteps := 1000000) -dsimp (disch := (repeat first | rw [nxn] | rw [nxp]); try omega) only [go_sem, h2g, oa, ob, ol, or_]
   have hs := cutT_size key l
   refine callK_of (withC hS (hv0.fr f) hb (h6.fr f) (by omega) fun j hj => top j (Nat.le_trans f.nx hj)) ?_
   rintro w2 g2 ⟨hw, f2⟩
   have ow := hw.one.1
   try simp (maxSteps := 1000000) -dsimp (disch := (repeat first | rw [nxn] | rw [nxp]); try omega) only [go_sem, oa, ow]
   exact ⟨⟨a, w2, rfl, ha.fr f2, hw⟩, f.trans f2⟩
  ·simp (maxSteps := 1000000) -dsimp (disch := (repeat first | rw [nxn] | rw [nxp]); try omega) only [go_sem, eqNp, h2, ltSt, hk, ol, or_]
   refine callK_of (cutC hS key r h6 (by omega) top) ?_
   rintro w g ⟨⟨a, b, rfl, ha, hb⟩, f⟩
   have oa := ha.one.1
   have ob := hb.one.1
   have h2g := (f.get _ h3).trans h2
   simp (maxSteps := 1000000) -dsimp (disch := (repeat first | rw [nxn] | rw [nxp]); try omega) only [go_sem, h2g, oa, ob, ol, or_]
   have hs := cutT_size key r
   refine callK_of (withC hS (hv0.fr f) (h5.fr f) ha (by omega) fun j hj => top j (Nat.le_trans f.nx hj)) ?_
   rintro w2 g2 ⟨hw, f2⟩
   have ow := hw.one.1
   try simp (maxSteps := 1000000) -dsimp (disch := (repeat first | rw [nxn] | rw [nxp]); try omega) only [go_sem, ob, ow]
   exact ⟨⟨w2, b, rfl, hw, hb.fr f2⟩, f.trans f2⟩
set_option maxHeartbeats 8000000 in
theorem joinC (hS : Tb S) {K : Nat → Nat} : ∀ (n : Nat) (a b : Tp) {h : AH} {va vb : AV}, a.size + b.size ≤ n → n ≤ 1099511627776 → TpA K h va a → TpA K h vb b → (∀ j, h.nx ≤ j → K j = 0) → RnC Tryz.prog S 58 [va, vb] h fun w h' => TpA K h' w (joinT a b) ∧ Fr h h'
 | n, .nil, b, h, va, vb, hn, hn2, ha, hb, top => by
  refine RnC.enter' Tryz.f58 _ 41 [.tmp 4] (hS.nt _ _ _ (by simp)) bd58 Tryz.func58 rfl rfl rfl ?_
  cases ha
  have ob := hb.one.1
  simp (maxSteps := 1000000) -dsimp (disch := (repeat first | rw [nxn] | rw [nxp]); try omega) only [go_sem, eqNn, ob]
  exact ⟨hb, Fr.refl _⟩
 | n, .nd k x l r, .nil, h, va, vb, hn, hn2, ha, hb, top => by
  refine RnC.enter' Tryz.f58 _ 41 [.tmp 4] (hS.nt _ _ _ (by simp)) bd58 Tryz.func58 rfl rfl rfl ?_
  cases hb
  have ha0 := ha
  obtain ⟨id, lv, rv, rfl, h2, h3, h4, h5, h6⟩ := ha
  simp (maxSteps := 1000000) -dsimp (disch := (repeat first | rw [nxn] | rw [nxp]); try omega) only [go_sem, eqNn, eqNp]
  exact ⟨ha0, Fr.refl _⟩
 | 0, .nd k x l r, .nd k2 x2 l2 r2, h, va, vb, hn, hn2, ha, hb, top => by
  exfalso
  have : (Tp.nd k x l r).size = l.size + r.size + 1 := rfl
  omega
 | n + 1, .nd k x l r, .nd k2 x2 l2 r2, h, va, vb, hn, hn2, ha, hb, top => by
  refine RnC.enter' Tryz.f58 _ 41 [.tmp 4] (hS.nt _ _ _ (by simp)) bd58 Tryz.func58 rfl rfl rfl ?_
  have ha0 := ha
  have hb0 := hb
  obtain ⟨id, lv, rv, rfl, h2, h3, h4, h5, h6⟩ := ha
  obtain ⟨id2, lv2, rv2, rfl, h22, h32, h42, h52, h62⟩ := hb
  have e1 : (Tp.nd k x l r).size = l.size + r.size + 1 := rfl
  have e2 : (Tp.nd k2 x2 l2 r2).size = l2.size + r2.size + 1 := rfl
  rw [joinT_nd]
  simp (maxSteps := 1000000) -dsimp (disch := (repeat first | rw [nxn] | rw [nxp]); try omega) only [go_sem, eqNp]
  refine callK_of (aboveC hS ha0 hb0) ?_
  rintro w g ⟨rfl, f⟩
  have h2g := (f.get _ h3).trans h2
  have h22g := (f.get _ h32).trans h22
  have topg : ∀ j, g.nx ≤ j → K j = 0 := fun j hj => top j (Nat.le_trans f.nx hj)
  have s5 := h5.one.2
  have s6 := h6.one.2
  have o5 := h5.one.1
  have o6 := h6.one.1
  have s52 := h52.one.2
  have s62 := h62.one.2
  have o52 := h52.one.1
  have o62 := h62.one.1
  have hig : id < g.nx := Nat.lt_of_lt_of_le h3 f.nx
  have hig2 : id2 < g.nx := Nat.lt_of_lt_of_le h32 f.nx
  cases hab : aboveA k k2
  ·rw [if_neg (by decide)]
   simp (maxSteps := 1000000) -dsimp (disch := (repeat first | rw [nxn] | rw [nxp]); try omega) only [go_sem]
   have fx : Fr g { tr := g.tr, nx := g.nx + 13 } := (Fr.refl g).more _ (by omega)
   refine syDraw.keep (fun j => j < g.nx) (by kernel_rfl) (by kernel_rfl) ?_
   simp (maxSteps := 1000000) -dsimp (disch := (repeat first | rw [nxn] | rw [nxp]); try omega) only [go_sem, h22g, s52, o52, hig2, true_and, implies_true, svi, svb]
   refine callK_of (joinC hS n (.nd k x l r) l2 (by omega) (by omega) ((ha0.fr f).fr fx) ((h52.fr f).fr fx) fun j hj => topg j (by have : g.nx + 13 ≤ j := hj; omega)) ?_
   rintro w2 g2 ⟨hw, f2⟩
   have fg2 := fx.trans f2
   have h22g2 := (fg2.get _ hig2).trans h22g
   refine ⟨fun j hj => f2.get j (by show j < g.nx + 13; omega), ?_⟩
   have ow := hw.one.1
   have js := joinT_size (.nd k x l r) l2
   simp (maxSteps := 1000000) -dsimp (disch := (repeat first | rw [nxn] | rw [nxp]); try omega) only [go_sem, h22g2, s62, o62, ow, hig2, true_and, implies_true, svi, svb]
   refine callK_of (withC hS ((hb0.fr f).fr fg2) hw ((h62.fr f).fr fg2) (by omega) fun j hj => topg j (Nat.le_trans fg2.nx hj)) ?_
   rintro w3 g3 ⟨hw3, f3⟩
   have ow3 := hw3.one.1
   refine ⟨fun j hj => f3.get j (Nat.lt_of_lt_of_le hj fg2.nx), ?_⟩
   try simp (maxSteps := 1000000) -dsimp (disch := (repeat first | rw [nxn] | rw [nxp]); try omega) only [go_sem, ow3]
   exact ⟨hw3, (f.trans fg2).trans f3⟩
  ·rw [if_pos rfl]
   simp (maxSteps := 1000000) -dsimp (disch := (repeat first | rw [nxn] | rw [nxp]); try omega) only [go_sem]
   have fx : Fr g { tr := g.tr, nx := g.nx + 13 } := (Fr.refl g).more _ (by omega)
   refine syDraw.keep (fun j => j < g.nx) (by kernel_rfl) (by kernel_rfl) ?_
   simp (maxSteps := 1000000) -dsimp (disch := (repeat first | rw [nxn] | rw [nxp]); try omega) only [go_sem, h2g, s5, s6, o5, o6, hig, true_and, implies_true, svi, svb]
   refine callK_of (joinC hS n r (.nd k2 x2 l2 r2) (by omega) (by omega) ((h6.fr f).fr fx) ((hb0.fr f).fr fx) fun j hj => topg j (by have : g.nx + 13 ≤ j := hj; omega)) ?_
   rintro w2 g2 ⟨hw, f2⟩
   have fg2 := fx.trans f2
   refine ⟨fun j hj => f2.get j (by show j < g.nx + 13; omega), ?_⟩
   have ow := hw.one.1
   have js := joinT_size r (.nd k2 x2 l2 r2)
   try simp (maxSteps := 1000000) -dsimp (disch := (repeat first | rw [nxn] | rw [nxp]); try omega) only [go_sem, o5, ow, true_and, implies_true, svi, svb]
   refine callK_of (withC hS ((ha0.fr f).fr fg2) ((h5.fr f).fr fg2) hw (by omega) fun j hj => topg j (Nat.le_trans fg2.nx hj)) ?_
   rintro w3 g3 ⟨hw3, f3⟩
   have ow3 := hw3.one.1
   refine ⟨fun j hj => f3.get j (Nat.lt_of_lt_of_le hj fg2.nx), ?_⟩
   try simp (maxSteps := 1000000) -dsimp (disch := (repeat first | rw [nxn] | rw [nxp]); try omega) only [go_sem, ow3]
   exact ⟨hw3, (f.trans fg2).trans f3⟩
end
end Go.Proofs.YtmphlckolampoaaGreatDoor.tbl
