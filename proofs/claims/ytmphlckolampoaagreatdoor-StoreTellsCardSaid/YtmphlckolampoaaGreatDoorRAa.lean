/- The program's table: a tree of texts cut, joined. Conditions: those of its summaries. -/
import Derived.Test.YtmphlckolampoaaGreatDoorFacts
import Derived.Test.YtmphlckolampoaaGreatDoorAb7
namespace Go.Proofs.YtmphlckolampoaaGreatDoor.tbl
open Go Go.Abs Go.Proofs
set_option maxRecDepth 100000
set_option linter.unusedVariables false
set_option linter.unusedSimpArgs false

/-- A tree of texts in memory, of kind 0: nobody changes it. -/
def TpA (K : Nat → Nat) (h : AH) : AV → Tp → Prop
 | v, .nil => v = .nilptr
 | v, .nd k x l r => ∃ id lv rv, v = .ptr id 0 ∧ h.get id = some (.cells [.str k, .str x, .int .u32 (iw (rankA k)), .int .i64 ((l.size + r.size + 1 : Nat) : Int), lv, rv] true false) ∧ id < h.nx ∧ K id = 0 ∧ TpA K h lv l ∧ TpA K h rv r
theorem TpA.fr {K : Nat → Nat} {h h' : AH} (f : Fr h h') : ∀ {t : Tp} {v : AV}, TpA K h v t → TpA K h' v t
 | .nil, v, hv => hv
 | .nd k x l r, v, ⟨id, lv, rv, h1, h2, h3, h4, h5, h6⟩ => ⟨id, lv, rv, h1, (f.get id h3).trans h2, Nat.lt_of_lt_of_le h3 f.nx, h4, TpA.fr f h5, TpA.fr f h6⟩
theorem TpA.one {K : Nat → Nat} {h : AH} : ∀ {t : Tp} {v : AV}, TpA K h v t → oneA v = true ∧ sameAV 20 v v = true
 | .nil, v, hv => by cases hv; exact ⟨rfl, rfl⟩
 | .nd k x l r, v, ⟨id, lv, rv, h1, _⟩ => by subst h1; exact ⟨rfl, by simp [sameAV]⟩
theorem TpA.shape {K : Nat → Nat} {h : AH} {t : Tp} {v : AV} (hv : TpA K h v t) : v = .nilptr ∨ ∃ id, v = .ptr id 0 := by
 cases t with
 | nil => exact .inl hv
 | nd k x l r => obtain ⟨id, lv, rv, h1, _⟩ := hv; exact .inr ⟨id, h1⟩
theorem eqNn (h : AH) : binA Tryz.prog h .eql 25 .nilptr .nilptr = some (.bool true) := by kernel_rfl
theorem eqNp (h : AH) (a : Nat) : binA Tryz.prog h .eql 25 (.ptr a 0) .nilptr = some (.bool false) := by kernel_rfl
theorem neNn (h : AH) : binA Tryz.prog h .neq 25 .nilptr .nilptr = some (.bool false) := by kernel_rfl
theorem neNp (h : AH) (a : Nat) : binA Tryz.prog h .neq 25 (.ptr a 0) .nilptr = some (.bool true) := by kernel_rfl
theorem ltSt (h : AH) (a b : List Nat) : binA Tryz.prog h .lss 9 (.str a) (.str b) = some (.bool (lessA a b)) := by
 simp [binA, strA]
theorem eqSt (h : AH) (a b : List Nat) : binA Tryz.prog h .eql 9 (.str a) (.str b) = some (.bool (decide (a = b))) := by
 simp [binA, strA, eqL_eq]
theorem mul_w (h : AH) (t : TypeId) (x : W32) : binA Tryz.prog h .mul t (.int .u32 (iw x)) (.int .u32 16777619) = some (.int .u32 (iw (x * 16777619#32))) := by
 rw [binA_mul]
 have : IntKind.u32.wrap (iw x * 16777619) = iw (x * 16777619#32) := by
  have e : iw x * 16777619 = ((x.toNat * 16777619 : Nat) : Int) := by simp [iw]
  rw [e, wrap32_nat, iw, BitVec.toNat_mul]
  rfl
 rw [this]
section
variable {S : Sums}
structure Tb (S : Sums) : Prop where
 nt : ∀ f args h, f ∈ [57, 75, 101, 102, 56, 58, 21, 110, 82, 6, 73, 31, 74, 32, 34] → S f args h = none
set_option maxHeartbeats 8000000 in
theorem rankC (hS : Tb S) {h : AH} (k : List Nat) (hk : k.length ≤ 1000000) : RnC Tryz.prog S 57 [.str k] h fun r h' => r = .int .u32 (iw (rankA k)) ∧ h' = h := by
 refine RnC.enter' Tryz.f57 _ 19 [.tmp 2] (hS.nt _ _ _ (by simp)) bd57 Tryz.func57 rfl rfl rfl ?_
 have ls : ∀ g s, evLen Tryz.prog g #[9] (.str s) = some (.int .i64 ((s.length : Nat) : Int)) := fun g s => by simp [evLen, Tryz.underlying9]
 have cvb : ∀ (h : AH) (b : Nat), evConvert Tryz.prog h 5 107 (.int .u8 (b : Int)) = some (.val (.int .u32 (iw (BitVec.ofNat 32 b))) h) := fun h b => conv_w Tryz.underlying5 Tryz.underlying107 h b
 have i0 : (2166136261 : Int) = iw 2166136261#32 := by decide
 simp (maxSteps := 1000000) -dsimp (disch := (repeat first | rw [nxn] | rw [nxp]); try omega) only [go_sem, ls]
 refine loopK_of (RnL.rounds (Q := fun ex u => ex = .exit 0 ∧ u.d = [] ∧ u.h = h ∧ u.t.get 3 = some (.int .u32 (iw (rankA k))))
  (fun m u => u.d = [] ∧ u.h = h ∧ u.t.get 0 = some (.str k) ∧ u.t.get 6 = some (.int .i64 (k.length : Nat)) ∧ ∃ i : Nat, u.t.get 7 = some (.int .i64 (i : Nat)) ∧ u.t.get 3 = some (.int .u32 (iw (rankA (k.take i)))) ∧ i ≤ k.length ∧ m = k.length - i) ?_ k.length ?_) ?_
 ·rintro m ⟨t, g, d⟩ ⟨e2, e1, g0, g6, i, g7, g3, hi, rfl⟩
  dsimp only at e1 e2 g0 g6 g7 g3
  subst e1 e2
  by_cases c4 : (i : Int) < (k.length : Nat)
  ·have hil : i < k.length := by omega
   obtain ⟨b, hb⟩ : ∃ b, k[i]? = some b := ⟨_, List.getElem?_eq_getElem hil⟩
   have ixb : evIndex Tryz.prog 9 (.str k) (.int .i64 (i : Nat)) = some (.int .u8 (b : Int)) := by
    unfold evIndex
    simp only [Tryz.underlying9]
    rw [below_of (by omega) (by omega)]
    simp [hb]
   have hr : rankA (k.take (i + 1)) = (rankA (k.take i) ^^^ BitVec.ofNat 32 b) * 16777619#32 := by
    rw [List.take_add_one, hb]
    unfold rankA
    rw [List.foldl_append]; rfl
   simp (maxSteps := 1000000) -dsimp (disch := (repeat first | rw [nxn] | rw [nxp]); try omega) only [go_sem, c4, g0, g6, g7, g3, ixb, cvb, mul_w]
   exact ⟨k.length - (i + 1), by omega, trivial, trivial, trivial, trivial, i + 1, rfl, by rw [hr], by omega, rfl⟩
  ·have : i = k.length := by omega
   subst this
   rw [List.take_length] at g3
   simp (maxSteps := 1000000) -dsimp (disch := (repeat first | rw [nxn] | rw [nxp]); try omega) only [go_sem, c4, g0, g6, g7, g3]
   exact ⟨trivial, trivial, trivial, trivial⟩
 ·simp (maxSteps := 1000000) -dsimp (disch := (repeat first | rw [nxn] | rw [nxp]); try omega) only [go_sem]
  exact ⟨trivial, trivial, trivial, trivial, 0, rfl, by rw [i0]; rfl, Nat.zero_le _, rfl⟩
 ·rintro ex ⟨t, g, d⟩ ⟨rfl, rfl, e1, g3⟩
  dsimp only at e1 g3
  subst e1
  simp (maxSteps := 1000000) -dsimp (disch := (repeat first | rw [nxn] | rw [nxp]); try omega) only [go_sem, g3]
  exact ⟨by first | trivial | rfl, by first | trivial | rfl⟩
theorem countC (hS : Tb S) {K : Nat → Nat} {h : AH} {v : AV} {t : Tp} (hv : TpA K h v t) : RnC Tryz.prog S 75 [v] h fun r h' => r = .int .i64 (t.size : Nat) ∧ h' = h := by
 refine RnC.enter' Tryz.f75 _ 9 [.tmp 2] (hS.nt _ _ _ (by simp)) bd75 Tryz.func75 rfl rfl rfl ?_
 cases t with
 | nil =>
  cases hv
  simp (maxSteps := 1000000) -dsimp (disch := (repeat first | rw [nxn] | rw [nxp]); try omega) only [go_sem, eqNn]
  exact ⟨rfl, trivial⟩
 | nd k x l r =>
  obtain ⟨id, lv, rv, rfl, h2, h3, h4, h5, h6⟩ := hv
  simp (maxSteps := 1000000) -dsimp (disch := (repeat first | rw [nxn] | rw [nxp]); try omega) only [go_sem, eqNp, h2]
  exact ⟨rfl, trivial⟩
theorem withC (hS : Tb S) {K : Nat → Nat} {h : AH} {v lv rv : AV} {k x : List Nat} {l0 r0 l r : Tp} (hv : TpA K h v (.nd k x l0 r0)) (hl : TpA K h lv l) (hr : TpA K h rv r) (hsz : l.size + r.size ≤ 1099511627776) (top : ∀ j, h.nx ≤ j → K j = 0) : RnC Tryz.prog S 101 [v, lv, rv] h fun w h' => TpA K h' w (.nd k x l r) ∧ Fr h h' := by
 refine RnC.enter' Tryz.f101 _ 22 [.tmp 6] (hS.nt _ _ _ (by simp)) bd101 Tryz.func101 rfl rfl rfl ?_
 obtain ⟨id, lv0, rv0, rfl, h2, h3, h4, h5, h6⟩ := hv
 have ol := hl.one.1
 have or_ := hr.one.1
 have o0 := h5.one.1
 have o1 := h6.one.1
 have om0 := o0
 have om1 := o1
 unfold oneA at om0 om1
 simp (maxSteps := 1000000) -dsimp (disch := (repeat first | rw [nxn] | rw [nxp]); try omega) only [go_sem, h2, ol, or_, o0, o1, om0, om1]
 generalize hg : ((h.new (.cells [.str [], .str [], .int .u32 0, .int .i64 0, .nilptr, .nilptr] true false)).put h.nx (.cells [.str k, .str x, .int .u32 (iw (rankA k)), .int .i64 ((l0.size + r0.size + 1 : Nat) : Int), lv0, rv0] true false)) = g
 have ng : g.nx = h.nx + 1 := by rw [← hg]; rfl
 have fg : Fr h g := by rw [← hg]; exact (Fr.new _ _).put _ (Nat.le_refl _)
 have cg : g.get h.nx = some (.cells [.str k, .str x, .int .u32 (iw (rankA k)), .int .i64 ((l0.size + r0.size + 1 : Nat) : Int), lv0, rv0] true false) := by rw [← hg]; exact AH.get_put_eq rfl
 refine callK_of (countC hS (hl.fr fg)) ?_
 rintro r1 g1 ⟨rfl, rfl⟩
 try simp (maxSteps := 1000000) -dsimp (disch := (repeat first | rw [nxn] | rw [nxp]); try omega) only [go_sem, ol, or_]
 refine callK_of (countC hS (hr.fr fg)) ?_
 rintro r2 g2 ⟨rfl, rfl⟩
 have fin : ∀ gg : AH, gg.nx = g2.nx → (∀ j, j ≠ h.nx → gg.get j = g2.get j) → gg.get h.nx = some (.cells [.str k, .str x, .int .u32 (iw (rankA k)), .int .i64 ((l.size + r.size + 1 : Nat) : Int), lv, rv] true false) → TpA K gg (.ptr h.nx 0) (.nd k x l r) ∧ Fr h gg := fun gg hn ho hc => by
  have fgg : Fr h gg := ⟨by have := fg.nx; omega, fun j hj => (ho j (by omega)).trans (fg.get j hj)⟩
  exact ⟨⟨h.nx, lv, rv, rfl, hc, by omega, top _ (Nat.le_refl _), hl.fr fgg, hr.fr fgg⟩, fgg⟩
 have es : (((l.size : Nat) : Int) + ((r.size : Nat) : Int)) + 1 = ((l.size + r.size + 1 : Nat) : Int) := by omega
 rcases hl.shape with rfl | ⟨il, rfl⟩ <;> rcases hr.shape with rfl | ⟨ir, rfl⟩
 all_goals
  simp (maxSteps := 1000000) -dsimp (disch := (repeat first | rw [nxn] | rw [nxp]); try omega) only [go_sem, cg, es]
  exact fin _ (by rfl) (by intro j hj; exact (AH.get_put_ne hj).trans ((AH.get_put_ne hj).trans (AH.get_put_ne hj))) (by exact AH.get_put_eq rfl)
end
end Go.Proofs.YtmphlckolampoaaGreatDoor.tbl
