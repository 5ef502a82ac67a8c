/- The document's tree: a rising list searched, one put into it. Conditions: those of its summaries. -/
import Derived.Test.YthkdhdcbhpknnaaGreatDoorTZa
import Derived.Test.YthkdhdcbhpknnaaGreatDoorTZc
import Derived.Test.YthkdhdcbhpknnaaGreatDoorAb7
namespace Go.Proofs.YthkdhdcbhpknnaaGreatDoor.tre
open Go Go.Abs Go.Abs.Wal Go.Proofs
set_option maxRecDepth 100000
set_option linter.unusedVariables false
set_option linter.unusedSimpArgs false

/-- A rising list's cells. -/
def entC (ρ : Nat → Nat) (E : Ixs) : List AV := flat2 (fun e : Pth × Nat => AV.str e.1) (fun e => AV.ptr (ρ e.2) 0) E
theorem entC_len (ρ : Nat → Nat) (E : Ixs) : (entC ρ E).length = E.length * 2 := flat2_len _ _ E
theorem aiE : appI Tryz.prog 136 = some (2, 24) := by kernel_rfl
section
variable {S : Sums}
/-- What the document's tree asks. -/
structure Dt (S : Sums) : Prop extends Zs S, Rp S where
 nd : ∀ f args h, f ∈ [83, 85, 86, 22, 82, 84, 112, 27, 77, 78, 79, 32, 76, 36, 29, 30, 39, 87] → S f args h = none
theorem eqSt (h : AH) (a b : List Nat) : binA Tryz.prog h .eql 9 (.str a) (.str b) = some (.bool (decide (a = b))) := by
 simp [binA, strA, eqL_eq]
set_option maxHeartbeats 8000000 in
theorem findC (hS : Dt S) {h : AH} {n0 : Nat} {v : AV} {ρ : Nat → Nat} {E : Ixs} (hv : Ez 2 n0 h v (entC ρ E)) (hl : E.length ≤ 16384) (k : Pth) : RnC Tryz.prog S 83 [v, .str k] h fun r h' => r = (match valS E k with | some i => .ptr (ρ i) 0 | none => .nilptr) ∧ h' = h := by
 refine RnC.enter' Tryz.f83 _ 24 [.tmp 4] (hS.nd _ _ _ (by simp)) bd83 Tryz.func83 rfl rfl rfl ?_
 have ov := hv.one.2
 have lv := hv.len (n := E.length) Tryz.underlying121 (by decide) (entC_len ρ E)
 simp (maxSteps := 1000000) -dsimp (disch := (repeat first | rw [nxn] | rw [nxp]); try omega) only [go_sem, ov]
 refine loopK_of (RnL.rounds (Q := fun ex u => u.d = [] ∧ u.h = h ∧ (ex = .exit 0 ∧ valS E k = none ∨ ex = .ret ∧ ∃ i, valS E k = some i ∧ u.t.get 4 = some (.ptr (ρ i) 0)))
  (fun m u => u.d = [] ∧ u.h = h ∧ u.t.get 0 = some v ∧ u.t.get 1 = some (.str k) ∧ ∃ i : Nat, u.t.get 5 = some (.int .i64 (i : Nat)) ∧ i ≤ E.length ∧ valS E k = valS (E.drop i) k ∧ m = E.length - i) ?_ E.length ?_) ?_
 ·rintro m ⟨t, g, d⟩ ⟨e2, e1, g0, g1, i, g5, hi, hvi, rfl⟩
  dsimp only at e1 e2 g0 g1 g5
  subst e1 e2
  by_cases c4 : (i : Int) < (E.length : Nat)
  ·have hil : i < E.length := by omega
   obtain ⟨e, he⟩ : ∃ e, E[i]? = some e := ⟨_, List.getElem?_eq_getElem hil⟩
   have hdr : E.drop i = e :: E.drop (i + 1) := by rw [List.drop_eq_getElem_cons hil, (List.getElem?_eq_some_iff.1 he).2]
   obtain ⟨id, c, rfl, hg, hid, _⟩ := hv.at (n := E.length) (i := i) (entC_len ρ E) hil (by decide)
   obtain ⟨x1, x2, _⟩ := flat2_get (fun e : Pth × Nat => AV.str e.1) (fun e => AV.ptr (ρ e.2) 0) he
   change (entC ρ E)[i * 2]? = _ at x1
   change (entC ρ E)[i * 2 + 1]? = _ at x2
   rw [hdr] at hvi
   have hve : valS (e :: E.drop (i + 1)) k = if e.1 = k then some e.2 else valS (E.drop (i + 1)) k := rfl
   rw [hve] at hvi
   by_cases hk : e.1 = k
   ·have hkd : decide (e.1 = k) = true := by simpa using hk
    rw [if_pos hk] at hvi
    simp (maxSteps := 1000000) -dsimp (disch := (repeat first | rw [nxn] | rw [nxp]); try omega) only [go_sem, lv, c4, hil, hg, x1, x2, g0, g1, g5, eqSt, hkd]
    exact ⟨trivial, trivial, .inr ⟨trivial, e.2, hvi, rfl⟩⟩
   ·have hkd : decide (e.1 = k) = false := by simpa using hk
    rw [if_neg hk] at hvi
    simp (maxSteps := 1000000) -dsimp (disch := (repeat first | rw [nxn] | rw [nxp]); try omega) only [go_sem, lv, c4, hil, hg, x1, x2, g0, g1, g5, eqSt, hkd]
    exact ⟨E.length - (i + 1), by omega, trivial, trivial, trivial, trivial, i + 1, rfl, by omega, hvi, rfl⟩
  ·have : i = E.length := by omega
   subst this
   rw [List.drop_length] at hvi
   simp (maxSteps := 1000000) -dsimp (disch := (repeat first | rw [nxn] | rw [nxp]); try omega) only [go_sem, lv, c4, g0, g1, g5]
   exact ⟨trivial, trivial, .inl ⟨trivial, hvi⟩⟩
 ·simp (maxSteps := 1000000) -dsimp (disch := (repeat first | rw [nxn] | rw [nxp]); try omega) only [go_sem]
  exact ⟨trivial, trivial, trivial, trivial, 0, rfl, Nat.zero_le _, rfl, rfl⟩
 ·rintro ex ⟨t, g, d⟩ ⟨rfl, e1, ⟨rfl, hh⟩ | ⟨rfl, i, hh, g4⟩⟩
  ·dsimp only at e1
   subst e1
   simp (maxSteps := 1000000) -dsimp (disch := (repeat first | rw [nxn] | rw [nxp]); try omega) only [go_sem]
   rw [hh]
   exact ⟨by first | trivial | rfl, by first | trivial | rfl⟩
  ·dsimp only at e1 g4
   subst e1
   simp (maxSteps := 1000000) -dsimp (disch := (repeat first | rw [nxn] | rw [nxp]); try omega) only [go_sem, g4]
   rw [hh]
   exact ⟨by first | trivial | rfl, by first | trivial | rfl⟩
theorem entApp {h0 g : AH} {v : AV} {ρ : Nat → Nat} {acc : Ixs} (hb : Ez 2 h0.nx g v (entC ρ acc)) (hf : Fr h0 g) (hl : acc.length ≤ 100000) (k : Pth) (i : Nat) :
  ∃ v' h', evAppend Tryz.prog (g.new (.cells [.str k, .ptr (ρ i) 0] true false)) #[121, 121] v (.sl g.nx 0 1 2 (some 1)) = some (.val v' h') ∧ Fr h0 h' ∧ Ez 2 h0.nx h' v' (entC ρ (acc ++ [(k, i)])) ∧ oneA v' = true := by
 have f6 : Fr g (g.new (.cells [.str k, .ptr (ρ i) 0] true false)) := Fr.new _ _
 obtain ⟨v', h', happ, hf', hez', ov', _⟩ := Ez.app (P := Tryz.prog) (z := 2) (h0 := h0) (h := g.new (.cells [.str k, .ptr (ρ i) 0] true false)) (x := .sl g.nx 0 1 2 (some 1)) (k := 1) (m := [.str k, .ptr (ρ i) 0]) Tryz.underlying121 Tryz.underlying121 rfl aiE (by decide) (by decide) (hb.fr f6) rfl (by rw [firstA_sl (AH.get_new_eq rfl) (Nat.le_refl _) (by simp)]; rfl) rfl rfl (hf.trans f6) (by rw [entC_len]; simp; omega)
 refine ⟨v', h', happ, hf', ?_, ov'⟩
 have : entC ρ (acc ++ [(k, i)]) = entC ρ acc ++ [.str k, .ptr (ρ i) 0] := flat2_app _ _ _ _
 rw [this]; exact hez'
theorem geSt (h : AH) (a b : List Nat) : binA Tryz.prog h .geq 9 (.str a) (.str b) = some (.bool (!lessA a b)) := by
 simp [binA, strA]
theorem nilPd (h : AH) : binA Tryz.prog h .eql 127 .nilptr .nilptr = some (.bool true) := by kernel_rfl
theorem nilQd (h : AH) (a : Nat) : binA Tryz.prog h .eql 127 (.ptr a 0) .nilptr = some (.bool false) := by kernel_rfl
theorem bldEn (k : Pth) (a : Nat) : evBuild Tryz.prog 136 [(0, .str k), (1, .ptr a 0)] = some (.agg [.str k, .ptr a 0]) := by kernel_rfl
set_option maxHeartbeats 16000000 in
theorem putRC (hS : Dt S) {h : AH} {n0 : Nat} {v fv : AV} {ρ : Nat → Nat} {E : Ixs} (hv : Ez 2 n0 h v (entC ρ E)) (hl : E.length ≤ 16384) (k : Pth) {dd : Bool} {vi : Nat} (hfv : (dd = true ∧ fv = .nilptr) ∨ (dd = false ∧ fv = .ptr (ρ vi) 0)) : RnC Tryz.prog S 85 [v, .str k, fv] h fun r h' => Ez 2 h.nx h' r (entC ρ (putR k vi dd E)) ∧ Fr h h' := by
 refine RnC.enter' Tryz.f85 _ 58 [.tmp 6] (hS.nd _ _ _ (by simp)) bd85 Tryz.func85 rfl rfl rfl ?_
 have ov := hv.one.2
 have lv := hv.len (n := E.length) Tryz.underlying121 (by decide) (entC_len ρ E)
 have of : oneA fv = true := by rcases hfv with ⟨_, rfl⟩ | ⟨_, rfl⟩ <;> rfl
 have hnil : ∀ g, binA Tryz.prog g .eql 127 fv .nilptr = some (.bool dd) := fun g => by
  rcases hfv with ⟨rfl, rfl⟩ | ⟨rfl, rfl⟩
  ·exact nilPd g
  ·exact nilQd g _
 have hbl : ∀ i, (putF k vi dd (E.take i)).1.length ≤ 2 * E.length := fun i => by
  have := putF_len k vi dd (E.take i) []
  have h2 : (E.take i).length ≤ E.length := by rw [List.length_take]; omega
  simp only [List.length_nil] at this
  unfold putF
  omega
 simp (maxSteps := 1000000) -dsimp (disch := (repeat first | rw [nxn] | rw [nxp]); try omega) only [go_sem, ov, of, hnil]
 refine loopK_of (RnL.rounds (Q := fun ex u => u.d = [] ∧ Fr h u.h ∧ ex = .exit 0 ∧ u.t.get 1 = some (.str k) ∧ u.t.get 2 = some fv ∧ u.t.get 8 = some (.bool (putF k vi dd E).2) ∧ ∃ w, u.t.get 7 = some w ∧ Ez 2 h.nx u.h w (entC ρ (putF k vi dd E).1))
  (fun m u => u.d = [] ∧ Fr h u.h ∧ u.t.get 0 = some v ∧ u.t.get 1 = some (.str k) ∧ u.t.get 2 = some fv ∧ ∃ (i : Nat) (w : AV), u.t.get 9 = some (.int .i64 (i : Nat)) ∧ u.t.get 8 = some (.bool (putF k vi dd (E.take i)).2) ∧ u.t.get 7 = some w ∧ Ez 2 h.nx u.h w (entC ρ (putF k vi dd (E.take i)).1) ∧ i ≤ E.length ∧ m = E.length - i) ?_ E.length ?_) ?_
 ·rintro m ⟨t, g, d⟩ ⟨e2, e1, g0, g1, g2, i, w, g9, g8, g7, hw, hi, rfl⟩
  dsimp only at e1 e2 g0 g1 g2 g9 g8 g7 hw
  subst e2
  have hbi := hbl i
  by_cases c4 : (i : Int) < (E.length : Nat)
  ·have hil : i < E.length := by omega
   obtain ⟨e, he⟩ : ∃ e, E[i]? = some e := ⟨_, List.getElem?_eq_getElem hil⟩
   obtain ⟨id, c, rfl, hg, hid, _⟩ := hv.at (n := E.length) (i := i) (entC_len ρ E) hil (by decide)
   obtain ⟨x1, x2, x3⟩ := flat2_get (fun e : Pth × Nat => AV.str e.1) (fun e => AV.ptr (ρ e.2) 0) he
   change (entC ρ E)[i * 2]? = _ at x1
   change (entC ρ E)[i * 2 + 1]? = _ at x2
   change ((entC ρ E).drop (i * 2)).take 2 = _ at x3
   have hgg := (e1.get id hid).trans hg
   have hst := putF_take (k := k) (v := vi) (d := dd) he
   generalize hqq : putF k vi dd (E.take i) = st at hst g8 hw hbi
   obtain ⟨acc, dn⟩ := st
   dsimp only at g8 hw hbi
   have ow := hw.one.2
   have hle : i * 2 + 2 ≤ (entC ρ E).length := by rw [entC_len]; omega
   have fin : ∀ (u : AH) (w' : AV) (r : Ixs × Bool), putF k vi dd (E.take (i + 1)) = r → Ez 2 h.nx u w' (entC ρ r.1) → Ez 2 h.nx u w' (entC ρ (putF k vi dd (E.take (i + 1))).1) := fun u w' r hr hz => by rw [hr]; exact hz
   cases dn
   ·cases hlt : lessA e.1 k
    ·have hfk : dd = false ∧ fv = .ptr (ρ vi) 0 := by
      rcases hfv with ⟨h1, _⟩ | h1
      ·exfalso
       have := fold_true k vi (E.take i) []
       have hq : putF k vi dd (E.take i) = (acc, false) := hqq
       rw [h1] at hq
       unfold putF at hq
       rw [this] at hq
       cases hq
      ·exact h1
     obtain ⟨w1, h1, ha1, hf1, hw1, ow1⟩ := entApp hw e1 (by omega) k vi
     have hg1 := (hf1.get id hid).trans hg
     by_cases hk : e.1 = k
     ·have hkd : decide (e.1 = k) = true := by simpa using hk
      have hs2 : putStep k vi (acc, false) e = (acc ++ [(k, vi)], true) := by unfold putStep; rw [if_pos ⟨rfl, hlt⟩, if_pos hk]
      rw [hs2] at hst
      simp (maxSteps := 1000000) -dsimp (disch := (repeat first | rw [nxn] | rw [nxp]); try omega) only [go_sem, lv, c4, hil, hgg, x1, x2, g0, g1, g2, g7, g8, g9, neStF, geSt, hlt, hfk.2, bldEn, ha1, ow1, hg1, hkd, ow]
      refine ⟨E.length - (i + 1), by omega, trivial, hf1, trivial, trivial, trivial, i + 1, w1, rfl, by rw [hst], rfl, fin _ _ _ hst hw1, by omega, rfl⟩
     ·have hkd : decide (e.1 = k) = false := by simpa using hk
      have hs2 : putStep k vi (acc, false) e = (acc ++ [(k, vi)] ++ [e], true) := by unfold putStep; rw [if_pos ⟨rfl, hlt⟩, if_neg hk]
      rw [hs2] at hst
      obtain ⟨w2, h2, ha2, hf2, hw2, ow2⟩ := entApp hw1 hf1 (by simp; omega) e.1 e.2
      simp (maxSteps := 1000000) -dsimp (disch := (repeat first | rw [nxn] | rw [nxp]); try omega) only [go_sem, lv, c4, hil, hgg, x1, x2, x3, hle, g0, g1, g2, g7, g8, g9, neStF, geSt, hlt, hfk.2, bldEn, ha1, ow1, hg1, hkd, ow, ha2, ow2]
      refine ⟨E.length - (i + 1), by omega, trivial, hf2, trivial, trivial, trivial, i + 1, w2, rfl, by rw [hst], rfl, fin _ _ _ hst hw2, by omega, rfl⟩
    ·have hk : ¬ e.1 = k := lessA_ne hlt
     have hkd : decide (e.1 = k) = false := by simpa using hk
     have hs2 : putStep k vi (acc, false) e = (acc ++ [e], false) := by simp [putStep, hlt, hk]
     rw [hs2] at hst
     obtain ⟨w', h', ha, hf', hw', ow'⟩ := entApp hw e1 (by omega) e.1 e.2
     simp (maxSteps := 1000000) -dsimp (disch := (repeat first | rw [nxn] | rw [nxp]); try omega) only [go_sem, lv, c4, hil, hgg, x1, x2, x3, hle, g0, g1, g2, g7, g8, g9, neStF, geSt, hlt, hkd, ow, ha, ow']
     exact ⟨E.length - (i + 1), by omega, trivial, hf', trivial, trivial, trivial, i + 1, w', rfl, by rw [hst], rfl, fin _ _ _ hst hw', by omega, rfl⟩
   ·by_cases hk : e.1 = k
    ·have hkd : decide (e.1 = k) = true := by simpa using hk
     have hs2 : putStep k vi (acc, true) e = (acc, true) := by simp [putStep, hk]
     rw [hs2] at hst
     simp (maxSteps := 1000000) -dsimp (disch := (repeat first | rw [nxn] | rw [nxp]); try omega) only [go_sem, lv, c4, hil, hgg, x1, x2, g0, g1, g2, g7, g8, g9, neStF, hkd, ow]
     exact ⟨E.length - (i + 1), by omega, trivial, e1, trivial, trivial, trivial, i + 1, w, rfl, by rw [hst], rfl, fin _ _ _ hst hw, by omega, rfl⟩
    ·have hkd : decide (e.1 = k) = false := by simpa using hk
     have hs2 : putStep k vi (acc, true) e = (acc ++ [e], true) := by simp [putStep, hk]
     rw [hs2] at hst
     obtain ⟨w', h', ha, hf', hw', ow'⟩ := entApp hw e1 (by omega) e.1 e.2
     simp (maxSteps := 1000000) -dsimp (disch := (repeat first | rw [nxn] | rw [nxp]); try omega) only [go_sem, lv, c4, hil, hgg, x1, x2, x3, hle, g0, g1, g2, g7, g8, g9, neStF, hkd, ow, ha, ow']
     exact ⟨E.length - (i + 1), by omega, trivial, hf', trivial, trivial, trivial, i + 1, w', rfl, by rw [hst], rfl, fin _ _ _ hst hw', by omega, rfl⟩
  ·have : i = E.length := by omega
   subst this
   rw [List.take_length] at g8 hw
   simp (maxSteps := 1000000) -dsimp (disch := (repeat first | rw [nxn] | rw [nxp]); try omega) only [go_sem, lv, c4, g0, g1, g2, g7, g8, g9]
   exact ⟨trivial, e1, trivial, trivial, trivial, trivial, w, rfl, hw⟩
 ·simp (maxSteps := 1000000) -dsimp (disch := (repeat first | rw [nxn] | rw [nxp]); try omega) only [go_sem]
  exact ⟨trivial, Fr.refl _, trivial, trivial, trivial, 0, .nilsl, rfl, rfl, rfl, .inl ⟨rfl, rfl⟩, Nat.zero_le _, rfl⟩
 ·rintro ex ⟨t, g, d⟩ ⟨rfl, e1, rfl, g1, g2, g8, w, g7, hw⟩
  dsimp only at e1 g1 g2 g8 g7 hw
  have hbi := hbl E.length
  rw [List.take_length] at hbi
  unfold putR
  generalize hqq : putF k vi dd E = st at g8 hw hbi ⊢
  obtain ⟨acc, dn⟩ := st
  dsimp only at g8 hw hbi ⊢
  have ow := hw.one.2
  cases dn
  ·have hfk : dd = false ∧ fv = .ptr (ρ vi) 0 := by
    rcases hfv with ⟨h1, _⟩ | h1
    ·exfalso
     have := fold_true k vi E []
     rw [h1] at hqq
     unfold putF at hqq
     rw [this] at hqq
     cases hqq
    ·exact h1
   obtain ⟨w1, h1, ha1, hf1, hw1, ow1⟩ := entApp hw e1 (by omega) k vi
   simp (maxSteps := 1000000) -dsimp (disch := (repeat first | rw [nxn] | rw [nxp]); try omega) only [go_sem, g8, g7, g1, g2, hfk.2, bldEn, ha1, ow1, ow]
   exact ⟨hw1, hf1⟩
  ·simp (maxSteps := 1000000) -dsimp (disch := (repeat first | rw [nxn] | rw [nxp]); try omega) only [go_sem, g8, g7, ow]
   exact ⟨hw, e1⟩
/-- A change of paths, as the document's tree keeps it. -/
def NtA (ρ : Nat → Nat) : List AV → Nte → Prop
 | cs, .mk p i => cs = [.int .i64 1, .str p, .str [], .ptr (ρ i) 0]
 | cs, .rm p => ∃ a, cs = [.int .i64 3, .str p, .str [], .ptr a 0]
 | _, .ren _ _ => False
set_option maxHeartbeats 8000000 in
theorem doC (hS : Dt S) {h : AH} {n0 : Nat} {v : AV} {ρ : Nat → Nat} {E : Ixs} (hv : Ez 2 n0 h v (entC ρ E)) (hr : riseE E) (hl : E.length ≤ 16384) {cs : List AV} {n : Nte} (hn : NtA ρ cs n) : RnC Tryz.prog S 86 [v, .agg cs] h fun r h' => Ez 2 h.nx h' r (entC ρ (doL n E)) ∧ Fr h h' := by
 refine RnC.enter' Tryz.f86 _ 28 [.tmp 4] (hS.nd _ _ _ (by simp)) bd86 Tryz.func86 rfl rfl rfl ?_
 have ov := hv.one.2
 cases n with
 | ren a b => exact hn.elim
 | mk p i =>
  cases hn
  have f1 : Fr h (h.new (.cells [.int .i64 1, .str p, .str [], .ptr (ρ i) 0] true false)) := Fr.new _ _
  simp (maxSteps := 1000000) -dsimp (disch := (repeat first | rw [nxn] | rw [nxp]); try omega) only [go_sem, ov]
  refine callK_of (putRC hS (hv.fr f1) hl p (dd := false) (vi := i) (.inr ⟨rfl, rfl⟩)) ?_
  rintro r h2 ⟨hz, f2⟩
  have or2 := hz.one.2
  rw [putR_put hr] at hz
  try simp (maxSteps := 1000000) -dsimp (disch := (repeat first | rw [nxn] | rw [nxp]); try omega) only [go_sem, or2]
  exact ⟨hz.low f1.nx, f1.trans f2⟩
 | rm p =>
  obtain ⟨a, rfl⟩ := hn
  have f1 : Fr h (h.new (.cells [.int .i64 3, .str p, .str [], .ptr a 0] true false)) := Fr.new _ _
  simp (maxSteps := 1000000) -dsimp (disch := (repeat first | rw [nxn] | rw [nxp]); try omega) only [go_sem, ov]
  refine callK_of (putRC hS (hv.fr f1) hl p (dd := true) (vi := 0) (.inl ⟨rfl, rfl⟩)) ?_
  rintro r h2 ⟨hz, f2⟩
  have or2 := hz.one.2
  have hc2 : h2.get h.nx = some (.cells [.int .i64 3, .str p, .str [], .ptr a 0] true false) := (f2.get _ (Nat.lt_succ_self _)).trans (AH.get_new_eq rfl)
  rw [putR_del hr] at hz
  try simp (maxSteps := 1000000) -dsimp (disch := (repeat first | rw [nxn] | rw [nxp]); try omega) only [go_sem, or2, hc2]
  exact ⟨hz.low f1.nx, f1.trans f2⟩
end
end Go.Proofs.YthkdhdcbhpknnaaGreatDoor.tre
