/- The document's tree: Make. Conditions: those of its summaries. -/
import Derived.Test.YthkdhdcbhpknnaaGreatDoorTZf
namespace Go.Proofs.YthkdhdcbhpknnaaGreatDoor.tre
open Go Go.Abs Go.Abs.Wal Go.Proofs
set_option maxRecDepth 100000
set_option linter.unusedVariables false
set_option linter.unusedSimpArgs false
theorem ezCells {z n0 : Nat} {h : AH} {v : AV} {l : List AV} (hb : Ez z n0 h v l) : cellsA v = some [v] := by
 rcases hb with ⟨rfl, _⟩ | ⟨id, n, c, tx, rfl, _⟩ <;> rfl
theorem putL_pos (E : Ixs) (k : Pth) (v : Nat) : 0 < (putL E k v).length := by
 cases E with
 | nil => exact Nat.zero_lt_one
 | cons e r =>
  unfold putL
  split
  ·exact Nat.succ_pos _
  ·split <;> exact Nat.succ_pos _
theorem ezSl {z n0 : Nat} {h : AH} {v : AV} {l : List AV} (hb : Ez z n0 h v l) (hl : 0 < l.length) : ∃ id n c, v = .sl id 0 n z c := by
 rcases hb with ⟨_, rfl⟩ | ⟨id, n, c, tx, h1, _⟩
 ·exact absurd hl (Nat.lt_irrefl 0)
 ·exact ⟨id, n, c, h1⟩
section
variable {S : Sums}
set_option maxHeartbeats 16000000 in
theorem makeD (hS : Dt S) {K p lv sv nv ρ h R} (hT : Rt K p lv sv nv ρ h R) (hw : Wf R) (hr : riseE R.now ∧ riseE R.safe) (hm : Sm R) (s : Pth) :
  RnC Tryz.prog S 27 [.ptr p 0, .str s] h fun r h' => r = .int .i64 ((makeL R (okP s) s).1 : Nat) ∧ ResD K p h h' (makeL R (okP s) s).2 := by
 refine RnC.enter' Tryz.f27 _ 47 [.tmp 4] (hS.nd _ _ _ (by simp)) bd27 Tryz.func27 rfl rfl rfl ?_
 have hpl : p < h.nx := hT.lt (by rw [hT.kp]; decide)
 have f1 : Fr h (h.new (.cells [.str s] true false)) := Fr.new _ _
 simp (maxSteps := 1000000) -dsimp (disch := (repeat first | rw [nxn] | rw [nxp]); try omega) only [go_sem]
 refine callK_of (opD hS (hT.fr f1) hw (l := [s]) (avOne s (AH.get_new_eq rfl) (Nat.lt_succ_self _)) (by simp)) ?_
 have eall : [s].all okP = okP s := by simp
 rw [eall]
 rintro r h2 ⟨rfl, hT2, hn2, ho2⟩
 have hn2' : h.nx + 1 ≤ h2.nx := hn2
 have gr2 : Gr K h K h2 := (frGr f1 K).trans ((hT.fr f1).grp hn2 ho2)
 unfold makeL
 dsimp only
 have e1 := opT_eq R (okP s)
 have hw2 := hw.op (okP s)
 have hr2 : riseE (opT R (okP s)).2.now ∧ riseE (opT R (okP s)).2.safe := by rw [e1.2.1, e1.2.2.1]; exact hr
 have hnl : (opT R (okP s)).2.now.length ≤ 16384 := by rw [e1.2.1]; exact hm.now
 have hcl : (opT R (okP s)).2.clock < 1152921504606846976 := by rw [e1.2.2.2.2.1]; exact hm.clock
 have hnt : (opT R (okP s)).2.notes.length ≤ 1048576 := by rw [e1.2.2.2.1]; exact hm.notes
 by_cases c1 : (((opT R (okP s)).1 : Nat) : Int) = 0
 ·have c1n : ¬ ((opT R (okP s)).1 ≠ 0) := by omega
  rw [if_neg c1n]
  clear e1
  generalize (opT R (okP s)).2 = R2 at hT2 hw2 hr2 hnl hcl hnt ⊢
  have hp2 := hT2.pp
  have ov := hT2.now.ez.one.2
  simp (maxSteps := 1000000) -dsimp (disch := (repeat first | rw [nxn] | rw [nxp]); try omega) only [go_sem, c1, hp2, ov]
  refine callK_of (findC hS hT2.now.ez hnl s) ?_
  rintro r h3 ⟨rfl, rfl⟩
  cases hv : valS R2.now s with
  | some i =>
   simp (maxSteps := 1000000) -dsimp (disch := (repeat first | rw [nxn] | rw [nxp]); try omega) only [go_sem, neP]
   exact ⟨by first | trivial | rfl, K, lv, sv, nv, ρ, hT2, gr2⟩
  | none =>
   simp (maxSteps := 1000000) -dsimp (disch := (repeat first | rw [nxn] | rw [nxp]); try omega) only [go_sem, neN]
   refine callK_of (tickD hS hT2 hcl) ?_
   rintro r h4 ⟨rfl, hT4, hn4, ho4⟩
   have hT5 := hT4.addF (K' := fun j => if j = h4.nx then 4 else K j) (id := h4.nx) (f := ⟨[], [], R2.clock + 1⟩) (h' := h4.new (.cells [.nilsl, .nilsl, .int .u64 ((R2.clock + 1 : Nat) : Int)] true false))
    (fun j hj => ⟨if_neg (by have := hT4.lt hj; omega), AH.get_new_ne (by have := hT4.lt hj; omega)⟩) (hT4.top _ (Nat.le_refl _)) ⟨.nilsl, .nilsl, AH.get_new_eq rfl, .inl ⟨rfl, rfl⟩, .inl ⟨rfl, rfl⟩, if_pos rfl⟩ (Nat.le_succ _)
    (fun j hj => by
     have hj' : h4.nx + 1 ≤ j := hj
     show (if j = h4.nx then 4 else K j) = 0
     rw [if_neg (by omega)]; exact hT4.top j (by omega)) hw2.tick hr2
   have hp5 := hT5.pp
   have ov5 := hT5.now.ez.one.2
   simp (maxSteps := 1000000) -dsimp (disch := (repeat first | rw [nxn] | rw [nxp]); try omega) only [go_sem, bldNf, hp5, ov5]
   refine callK_of (putRC hS hT5.now.ez hnl s (dd := false) (vi := R2.files.length) (.inr ⟨rfl, by
    show _ = AV.ptr (if R2.files.length = R2.files.length then h4.nx else _) 0
    rw [if_pos rfl]⟩)) ?_
   rintro r6 h6 ⟨hz6, f6⟩
   have or6 := hz6.one.2
   have cr6 := ezCells hz6
   have hT6 := hT5.fr f6
   have hp6 := hT6.pp
   have hpx : p < h4.nx := hT4.lt (by rw [hT4.kp]; decide)
   have hn5 : h4.nx + 1 ≤ h6.nx := f6.nx
   have ep : putR s R2.files.length false R2.now = putL R2.now s R2.files.length := putR_put hr2.1
   change Ez 2 _ h6 r6 (entC _ (putR s R2.files.length false R2.now)) at hz6
   rw [ep] at hz6
   generalize hR3 : ({ tickT R2 with files := (tickT R2).files ++ [⟨[], [], R2.clock + 1⟩] } : TT) = R3 at hT5 hT6 hp5 hp6
   generalize hρ : (fun j => if j = (tickT R2).files.length then h4.nx else ρ j) = ρ' at hT5 hT6 hz6
   have nt7 : Nts (fun j => if j = h4.nx then 4 else K j) (h6.put p (.cells [.int .i64 R3.room, r6, sv, nv, .int .u64 (R3.clock : Nat), .bool R3.off, .int .i64 R3.fuse] true false)) ρ' nv R3.notes := hT6.nts.mono (fun j hj => ⟨hj, AH.get_put_ne (fun hh => by rw [hh] at hj; have := hT6.kp; rw [this] at hj; cases hj)⟩) (Nat.le_refl _)
   obtain ⟨nv', h8, ha8, ov8, hn8, ho8, nid, cs8, rfl, hid8, hidl8, hg8, hnc8⟩ := nt7.app (d := [.int .i64 1, .str s, .str [], .ptr h4.nx 0]) (n := .mk s R2.files.length) (by rw [← hR3]; exact hnt) (by
    show _ = _
    rw [← hρ]
    show _ = [AV.int .i64 1, .str s, .str [], .ptr (if R2.files.length = R2.files.length then h4.nx else _) 0]
    rw [if_pos rfl])
   obtain ⟨rid, rn, rc, rfl⟩ := ezSl hz6 (by rw [entC_len]; have := putL_pos R2.now s R2.files.length; omega)
   have b0 : bytesOf { data := #[] } = [] := rfl
   have hK1p : (fun j => if j = h4.nx then 4 else K j) p = 1 := hT5.kp
   have hp8 := (ho8 p (show p < h6.nx by omega) (by
    show (if p = h4.nx then 4 else K p) ≠ 6
    rw [if_neg (by omega), hT4.kp]; decide)).trans (AH.get_put_eq rfl)
   rw [AH.nx_put] at ha8
   simp (maxSteps := 1000000) -dsimp (disch := (repeat first | rw [nxn] | rw [nxp]); try omega) only [go_sem, hp6, b0, bldN1, ha8, hp8]
   have hid8' : h6.nx + 1 ≤ nid := hid8
   have hn8' : h6.nx + 1 ≤ h8.nx := hn8
   have n5 : (h4.new (.cells [.nilsl, .nilsl, .int .u64 ((R2.clock + 1 : Nat) : Int)] true false)).nx = h4.nx + 1 := rfl
   subst hR3
   have np : nid ≠ p := by omega
   have ga : ∀ (o : AO) j, j < h6.nx → j ≠ p → (if j = h4.nx then 4 else K j) ≠ 6 → (h8.put p o).get j = h6.get j := fun o j hj hjp hk6 => (AH.get_put_ne hjp).trans ((ho8 j hj hk6).trans (AH.get_put_ne hjp))
   have lt5 : ∀ j, (if j = h4.nx then 4 else K j) ≠ 0 → j < h4.nx + 1 := fun j hj => hT5.lt hj
   have kp0 : (if p = h4.nx then 4 else K p) = 1 := hT5.kp
   have big : ∀ j, h4.nx + 1 ≤ j → (if j = h4.nx then 4 else K j) = 0 := fun j hj => by rw [if_neg (by omega)]; exact hT4.top j (by omega)
   refine ⟨trivial, fun j => if j = nid then 6 else if h4.nx + 1 ≤ j ∧ j < h6.nx then 5 else if j = h4.nx then 4 else K j, .sl rid 0 rn 2 rc, sv, .sl nid 0 (R2.notes ++ [Nte.mk s R2.files.length]).length 4 none, ρ', hT5.setL ?_ ?_ ?_ ?_ ?_ ?_ ?_ ?_ ?_, ?_⟩
   ·intro j hj
    have hj' : (if j = h4.nx then 4 else K j) = 5 ∨ (if j = h4.nx then 4 else K j) = 4 := hj
    have hl := lt5 j (by omega)
    have hjp : j ≠ p := fun hh => by rw [hh, kp0] at hj'; omega
    refine ⟨?_, (ga _ j (by omega) hjp (by omega)).trans (f6.get j hl)⟩
    show (if j = nid then 6 else if h4.nx + 1 ≤ j ∧ j < h6.nx then 5 else if j = h4.nx then 4 else K j) = _
    rw [if_neg (by omega), if_neg (by omega)]
   ·show h4.nx + 1 ≤ h8.nx
    omega
   ·rfl
   ·show (if p = nid then 6 else if h4.nx + 1 ≤ p ∧ p < h6.nx then 5 else if p = h4.nx then 4 else K p) = 1
    rw [if_neg (fun hh => np hh.symm), if_neg (by omega), kp0]
   ·intro j hj
    have hj' : h8.nx ≤ j := hj
    show (if j = nid then 6 else if h4.nx + 1 ≤ j ∧ j < h6.nx then 5 else if j = h4.nx then 4 else K j) = 0
    rw [if_neg (by omega), if_neg (by omega)]
    exact big j (by omega)
   ·exact AH.get_put_eq rfl
   ·have e7 := Ez.en (K := fun j => if j = nid then 6 else if h4.nx + 1 ≤ j ∧ j < h6.nx then 5 else if j = h4.nx then 4 else K j) hz6 (fun j hj hjl => by
     have hj' : h4.nx + 1 ≤ j := hj
     show (if j = nid then 6 else if h4.nx + 1 ≤ j ∧ j < h6.nx then 5 else if j = h4.nx then 4 else K j) = 5
     rw [if_neg (by omega), if_pos ⟨hj', hjl⟩])
    refine e7.mono (fun j hj => ⟨hj, ?_⟩) (by show h6.nx ≤ h8.nx; omega)
    have hj' : (if j = nid then 6 else if h4.nx + 1 ≤ j ∧ j < h6.nx then 5 else if j = h4.nx then 4 else K j) = 5 := hj
    have hjn : j ≠ nid := fun hh => by rw [if_pos hh] at hj'; cases hj'
    rw [if_neg hjn] at hj'
    by_cases hin : h4.nx + 1 ≤ j ∧ j < h6.nx
    ·exact ga _ j hin.2 (by omega) (by rw [big j hin.1]; decide)
    ·rw [if_neg hin] at hj'
     have hl := lt5 j (by omega)
     exact ga _ j (by omega) (fun hh => by rw [hh, kp0] at hj'; omega) (by omega)
   ·refine hT5.safe.mono (fun j hj => ?_) (by show h4.nx + 1 ≤ h8.nx; omega)
    have hj' : (if j = h4.nx then 4 else K j) = 5 := hj
    have hl := lt5 j (by omega)
    refine ⟨?_, (ga _ j (by omega) (fun hh => by rw [hh, kp0] at hj'; omega) (by omega)).trans (f6.get j hl)⟩
    show (if j = nid then 6 else if h4.nx + 1 ≤ j ∧ j < h6.nx then 5 else if j = h4.nx then 4 else K j) = 5
    rw [if_neg (by omega), if_neg (by omega)]
    exact hj'
   ·exact .inr ⟨nid, none, cs8, rfl, (AH.get_put_ne np).trans hg8, hidl8, if_pos rfl, hnc8, .inl rfl⟩
   ·refine gr2.trans ⟨by show h3.nx ≤ h8.nx; omega, fun j hj hk => ⟨?_, ?_⟩⟩
    ·have hjp : j ≠ p := fun hh => by rw [hh, hT4.kp] at hk; cases hk
     refine (ga _ j (by omega) hjp (by rw [if_neg (by omega), hk]; decide)).trans ((f6.get j (by rw [n5]; omega)).trans ((AH.get_new_ne (by omega)).trans (ho4 j hjp)))
    ·show (if j = nid then 6 else if h4.nx + 1 ≤ j ∧ j < h6.nx then 5 else if j = h4.nx then 4 else K j) = 0
     rw [if_neg (by omega), if_neg (by omega), if_neg (by omega)]
     exact hk
 ·have c1n : (opT R (okP s)).1 ≠ 0 := by omega
  rw [if_pos c1n]
  simp (maxSteps := 1000000) -dsimp (disch := (repeat first | rw [nxn] | rw [nxp]); try omega) only [go_sem, c1]
  exact ⟨by first | trivial | rfl, K, lv, sv, nv, ρ, hT2, gr2⟩
end
end Go.Proofs.YthkdhdcbhpknnaaGreatDoor.tre
