/- The program's table: Put, Get, Drop; pairs in memory; Of, done. Conditions: those of its summaries. -/
import Derived.Test.YtmphlckolampoaaGreatDoorRAb
namespace Go.Proofs.YtmphlckolampoaaGreatDoor.tbl
open Go Go.Abs Go.Proofs
set_option maxRecDepth 100000
set_option linter.unusedVariables false
set_option linter.unusedSimpArgs false
theorem TpA.keep {K : Nat → Nat} {h h' : AH} (hn : h.nx ≤ h'.nx) (hk : ∀ j, j < h.nx → K j = 0 → h'.get j = h.get j) : ∀ {t : Tp} {v : AV}, TpA K h v t → TpA K h' v t
 | .nil, v, hv => hv
 | .nd k x l r, v, ⟨id, lv, rv, h1, h2, h3, h4, h5, h6⟩ => ⟨id, lv, rv, h1, (hk id h3 h4).trans h2, Nat.lt_of_lt_of_le h3 hn, h4, TpA.keep hn hk h5, TpA.keep hn hk h6⟩
theorem TpA.col {K K' : Nat → Nat} {h : AH} (hk : ∀ j, j < h.nx → K j = 0 → K' j = 0) : ∀ {t : Tp} {v : AV}, TpA K h v t → TpA K' h v t
 | .nil, v, hv => hv
 | .nd k x l r, v, ⟨id, lv, rv, h1, h2, h3, h4, h5, h6⟩ => ⟨id, lv, rv, h1, h2, h3, hk id h3 h4, TpA.col hk h5, TpA.col hk h6⟩
/-- Two places more that no tree has. -/
def K2 (K : Nat → Nat) (n : Nat) : Nat → Nat := fun j => if j = n ∨ j = n + 1 then 9 else K j
theorem K2.ne {K : Nat → Nat} {n j : Nat} (h : j < n) : K2 K n j = K j := if_neg (by omega)
theorem K2.zero {K : Nat → Nat} {n j : Nat} (h : K2 K n j = 0) : K j = 0 ∧ j ≠ n ∧ j ≠ n + 1 := by
 unfold K2 at h
 split at h
 ·cases h
 ·rename_i hh; exact ⟨h, fun h2 => hh (.inl h2), fun h2 => hh (.inr h2)⟩
theorem bldTb {v : AV} (hv : v = .nilptr ∨ ∃ id, v = .ptr id 0) : evBuild Tryz.prog 27 [(0, v)] = some (.agg [v]) := by
 rcases hv with rfl | ⟨id, rfl⟩ <;> kernel_rfl
theorem bldNd (k x : List Nat) (w : W32) : evBuild Tryz.prog 110 [(0, .str k), (1, .str x), (2, .int .u32 (iw w)), (3, .int .i64 1)] = some (.agg [.str k, .str x, .int .u32 (iw w), .int .i64 1, .nilptr, .nilptr]) := by kernel_rfl
theorem add0 (h : AH) (k : List Nat) (hk : k.length ≤ 1000000) : binA Tryz.prog h .add 9 (.str k) (.str [0]) = some (.str (k ++ [0])) := by
 have : ¬ (((k.length + 1 : Nat) : Int) > IntKind.i64.max) := by
  have hm : IntKind.i64.max = 9223372036854775807 := rfl
  rw [hm]; omega
 simp only [binA, strA, List.length_singleton, if_neg this]
theorem b00 : bytesOf { data := #[0] } = [0] := rfl
theorem b0e : bytesOf { data := #[] } = [] := rfl
section
variable {S : Sums}
set_option maxHeartbeats 8000000 in
theorem putC (hS : Tb S) {K : Nat → Nat} {h : AH} {v : AV} {t : Tp} (k x : List Nat) (hv : TpA K h v t) (hk : k.length ≤ 1000000) (hsz : t.size ≤ 1000000) (top : ∀ j, h.nx ≤ j → K j = 0) : RnC Tryz.prog S 21 [.agg [v], .str k, .str x] h fun r h' => (∃ a, r = .agg [a] ∧ TpA K h' a (putT2 t k x)) ∧ Fr h h' := by
 refine RnC.enter' Tryz.f21 _ 36 [.cell 6 27] (hS.nt _ _ _ (by simp)) bd21 Tryz.func21 rfl rfl rfl ?_
 have ov := hv.one.1
 have om := ov
 unfold oneA at om
 have ha1 : ∀ (o1 o2 : AO), ((h.new o1).new o2).get h.nx = some o1 := fun o1 o2 => (AH.get_new_ne (by simp)).trans (AH.get_new_eq rfl)
 simp (maxSteps := 1000000) -dsimp (disch := (repeat first | rw [nxn] | rw [nxp]); try omega) only [go_sem, ov, om, ha1]
 generalize hg : ((h.new (.cells [v] true false)).new (.cells [.nilptr] true false)) = g
 have ng : g.nx = h.nx + 2 := by rw [← hg]; rfl
 have fg : Fr h g := by rw [← hg]; exact (Fr.new _ _).news _
 have c1 : g.get (h.nx + 1) = some (.cells [.nilptr] true false) := by rw [← hg]; exact AH.get_new_eq rfl
 have hv1 : TpA (K2 K h.nx) g v t := (hv.col fun j hj hk => (K2.ne hj).trans hk).fr fg
 have topg : ∀ j, g.nx ≤ j → K2 K h.nx j = 0 := fun j hj => (if_neg (by omega)).trans (top j (by omega))
 refine callK_of (cutC hS k t hv1 (by omega) topg) ?_
 rintro w g2 ⟨⟨a, b, rfl, ha, hb⟩, f2⟩
 have cs1 := cutT_size k t
 have ob := hb.one.1
 have oa := ha.one.1
 simp (maxSteps := 1000000) -dsimp (disch := (repeat first | rw [nxn] | rw [nxp]); try omega) only [go_sem, oa, ob, b00, add0, hk]
 refine callK_of (cutC hS (k ++ [0]) (cutT k t).2 hb (by omega) fun j hj => topg j (Nat.le_trans f2.nx hj)) ?_
 rintro w g3 ⟨⟨a3, b3, rfl, ha3, hb3⟩, f3⟩
 have cs2 := cutT_size (k ++ [0]) (cutT k t).2
 have ob3 := hb3.one.1
 have oa3 := ha3.one.1
 simp (maxSteps := 1000000) -dsimp (disch := (repeat first | rw [nxn] | rw [nxp]); try omega) only [go_sem, oa, oa3, ob3]
 refine callK_of (rankC hS k hk) ?_
 rintro w g4 ⟨rfl, rfl⟩
 have bN := bldNd k x (rankA k)
 simp (maxSteps := 1000000) -dsimp (disch := (repeat first | rw [nxn] | rw [nxp]); try omega) only [go_sem, bN, oa, ob3]
 have f4 : Fr g4 (g4.new (.cells [.str k, .str x, .int .u32 (iw (rankA k)), .int .i64 1, .nilptr, .nilptr] true false)) := Fr.new _ _
 have hnd : TpA (K2 K h.nx) (g4.new (.cells [.str k, .str x, .int .u32 (iw (rankA k)), .int .i64 1, .nilptr, .nilptr] true false)) (.ptr g4.nx 0) (.nd k x .nil .nil) := ⟨g4.nx, .nilptr, .nilptr, rfl, AH.get_new_eq rfl, Nat.lt_succ_self _, topg _ (by have := f2.nx; have := f3.nx; omega), rfl, rfl⟩
 refine callK_of (joinC hS 1000001 (cutT k t).1 (.nd k x .nil .nil) (by have : (Tp.nd k x .nil .nil).size = 1 := rfl; omega) (by decide) ((ha.fr f3).fr f4) hnd fun j hj => topg j (by have := f2.nx; have := f3.nx; have := f4.nx; omega)) ?_
 rintro w5 g5 ⟨hw5, f5⟩
 have ow5 := hw5.one.1
 have js := joinT_size (cutT k t).1 (.nd k x .nil .nil)
 try simp (maxSteps := 1000000) -dsimp (disch := (repeat first | rw [nxn] | rw [nxp]); try omega) only [go_sem, ow5, ob3]
 refine callK_of (joinC hS 1000001 _ _ (by have : (Tp.nd k x .nil .nil).size = 1 := rfl; omega) (by decide) hw5 ((hb3.fr f4).fr f5) fun j hj => topg j (by have := f2.nx; have := f3.nx; have := f4.nx; have := f5.nx; omega)) ?_
 rintro w6 g6 ⟨hw6, f6⟩
 have f26 := ((f2.trans f3).trans f4).trans (f5.trans f6)
 have c6 : g6.get (h.nx + 1) = _ := (f26.get _ (by omega)).trans c1
 have bT := bldTb hw6.shape
 have ow6 := hw6.one.1
 have fin : ∀ gg : AH, gg.nx = g6.nx → (∀ j, j ≠ h.nx + 1 → gg.get j = g6.get j) → TpA K gg w6 (putT2 t k x) ∧ Fr h gg := fun gg hn ho => by
  refine ⟨(hw6.keep (by omega) fun j hj hk => ho j (K2.zero hk).2.2).col fun j hj hk => (K2.zero hk).1, ⟨by have := fg.nx; have := f26.nx; omega, fun j hj => (ho j (by omega)).trans ((f26.get j (by omega)).trans (fg.get j hj))⟩⟩
 rcases hw6.shape with rfl | ⟨iw6, rfl⟩
 all_goals
  simp (maxSteps := 1000000) -dsimp (disch := (repeat first | rw [nxn] | rw [nxp]); try omega) only [go_sem, bT, c6]
  exact ⟨⟨_, rfl, (fin _ (by rfl) (by intro j hj; exact AH.get_put_ne hj)).1⟩, (fin _ (by rfl) (by intro j hj; exact AH.get_put_ne hj)).2⟩
end
end Go.Proofs.YtmphlckolampoaaGreatDoor.tbl
