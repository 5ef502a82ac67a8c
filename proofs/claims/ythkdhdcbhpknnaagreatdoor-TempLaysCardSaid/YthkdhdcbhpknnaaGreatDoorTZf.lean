/- The document's tree: what changes it. Conditions: those of its summaries. -/
import Derived.Test.YthkdhdcbhpknnaaGreatDoorTZe
namespace Go.Proofs.YthkdhdcbhpknnaaGreatDoor.tre
open Go Go.Abs Go.Abs.Wal Go.Proofs
set_option maxRecDepth 100000
set_option linter.unusedVariables false
set_option linter.unusedSimpArgs false

/-- The document's tree afterwards. -/
def ResD (K : Nat → Nat) (p : Nat) (h h' : AH) (R : TT) : Prop := ∃ K' lv sv nv ρ, Rt K' p lv sv nv ρ h' R ∧ Gr K h K' h'
theorem ResD.tr {K K' : Nat → Nat} {p : Nat} {h h1 h2 : AH} {R : TT} (g : Gr K h K' h1) (r : ResD K' p h1 h2 R) : ResD K p h h2 R := by
 obtain ⟨K2, lv, sv, nv, ρ, h3, h4⟩ := r
 exact ⟨K2, lv, sv, nv, ρ, h3, g.trans h4⟩
theorem Rt.grp {K p lv sv nv ρ h R} (hT : Rt K p lv sv nv ρ h R) {h' : AH} (hn : h.nx ≤ h'.nx) (ho : ∀ j, j < h.nx → j ≠ p → h'.get j = h.get j) : Gr K h K h' :=
 ⟨hn, fun j hj hk => ⟨ho j hj (fun hh => by rw [hh, hT.kp] at hk; cases hk), hk⟩⟩
theorem neP (h : AH) (a : Nat) : binA Tryz.prog h .neq 127 (.ptr a 0) .nilptr = some (.bool true) := by kernel_rfl
theorem neN (h : AH) : binA Tryz.prog h .neq 127 .nilptr .nilptr = some (.bool false) := by kernel_rfl
theorem bldNf (n : Nat) : evBuild Tryz.prog 130 [(2, .int .u64 (n : Int))] = some (.agg [.nilsl, .nilsl, .int .u64 (n : Int)]) := by kernel_rfl
theorem bldTr (n : Int) : evBuild Tryz.prog 124 [(0, .int .i64 n), (6, .int .i64 (-1))] = some (.agg [.int .i64 n, .nilsl, .nilsl, .nilsl, .int .u64 0, .bool false, .int .i64 (-1)]) := by kernel_rfl
theorem bldN1 (k : Pth) (a : Nat) : evBuild Tryz.prog 133 [(0, .int .i64 1), (1, .str k), (2, .str []), (3, .ptr a 0)] = some (.agg [.int .i64 1, .str k, .str [], .ptr a 0]) := by kernel_rfl
theorem bldN3 (k : Pth) (a : Nat) : evBuild Tryz.prog 133 [(0, .int .i64 3), (1, .str k), (2, .str []), (3, .ptr a 0)] = some (.agg [.int .i64 3, .str k, .str [], .ptr a 0]) := by kernel_rfl
theorem aiN : appI Tryz.prog 133 = some (4, 48) := by kernel_rfl
/-- One change more. -/
theorem Nts.app {K : Nat → Nat} {h : AH} {ρ : Nat → Nat} {v : AV} {l : List Nte} {d : List AV} {n : Nte} (hb : Nts K h ρ v l) (hl : l.length ≤ 1048576) (hd : NtA ρ d n) :
  ∃ v' h', evAppend Tryz.prog (h.new (.cells d true false)) #[122, 122] v (.sl h.nx 0 1 4 (some 1)) = some (.val v' h') ∧ oneA v' = true ∧ h.nx + 1 ≤ h'.nx ∧ (∀ j, j < h.nx → K j ≠ 6 → h'.get j = h.get j) ∧ ∃ id cs, v' = .sl id 0 (l ++ [n]).length 4 none ∧ h.nx + 1 ≤ id ∧ id < h'.nx ∧ h'.get id = some (.cells cs true false) ∧ NtC ρ cs (l ++ [n]) := by
 have hi1 : (h.new (.cells d true false)).nx = h.nx + 1 := rfl
 have hx : firstA (h.new (.cells d true false)) 4 1 (.sl h.nx 0 1 4 (some 1)) = some d := by
  rw [firstA_sl (AH.get_new_eq rfl) (Nat.le_refl _) (by rw [hd.len]; decide), List.drop_zero]
  have : (1 * 4) = d.length := by rw [hd.len]
  rw [this, List.take_length]
 have hnx : ∀ g : AH, Fr { tr := g.tr, nx := 0 } g := fun g => ⟨Nat.zero_le _, fun j hj => absurd hj (Nat.not_lt_zero _)⟩
 obtain ⟨cs, hez, hcs, hid⟩ : ∃ cs, Ez 4 0 (h.new (.cells d true false)) v cs ∧ NtC ρ cs l ∧ ∀ id o n c, v = .sl id o n 4 c → K id = 6 := by
  rcases hb with ⟨rfl, rfl⟩ | ⟨id, c, cs, rfl, h2, h3, h4, h5, h6⟩
  ·exact ⟨[], .inl ⟨rfl, rfl⟩, rfl, fun id o n c hh => by cases hh⟩
  ·exact ⟨cs, .inr ⟨id, l.length, c, false, rfl, (AH.get_new_ne (Nat.ne_of_lt h3)).trans h2, Nat.lt_succ_of_lt h3, Nat.zero_le _, h5.len, h6, .inl rfl⟩, h5, fun id' o n c hh => by cases hh; exact h4⟩
 obtain ⟨v', h', happ, _, hez', ov', hn', hk', hv'⟩ := Ez.app (P := Tryz.prog) (z := 4) (h0 := { tr := (h.new (.cells d true false)).tr, nx := 0 }) (h := h.new (.cells d true false)) (x := .sl h.nx 0 1 4 (some 1)) (k := 1) (m := d) Tryz.underlying122 Tryz.underlying122 rfl aiN (by decide) (by decide) hez rfl hx (by rw [hd.len]) hd.one (hnx _) (by rw [hcs.len, hd.len]; omega)
 refine ⟨v', h', happ, ov', by rw [← hi1]; exact hn', fun j hj hkj => (hk' j (Nat.lt_succ_of_lt hj) fun id o n c hh hji => hkj (by rw [hji]; exact hid _ _ _ _ hh)).trans (AH.get_new_ne (Nat.ne_of_lt hj)), ?_⟩
 have hc2 := NtC.app hd hcs
 rcases hv' with ⟨h0, _⟩ | ⟨id, m, rfl, hid2⟩
 ·exact absurd h0 (by decide)
 ·rcases hez' with ⟨h1, _⟩ | ⟨id', m', c', tx, h1, h2, h3, h4, h5, h6, h7⟩
  ·cases h1
  ·cases h1
   have ht0 : tx = false := by
    rcases h7 with h7 | ⟨_, h7⟩
    ·exact h7
    ·cases h7
   subst ht0
   have hm : m = (l ++ [n]).length := by
    have := hc2.len
    rw [this] at h5
    omega
   subst hm
   exact ⟨id, _, rfl, by rw [← hi1]; exact hid2, h3, h2, hc2⟩
theorem entC_ext {ρ ρ' : Nat → Nat} {k : Nat} (hr : ∀ i, i < k → ρ' i = ρ i) : ∀ {E : Ixs}, (∀ e ∈ E, e.2 < k) → entC ρ' E = entC ρ E
 | [], _ => rfl
 | e :: r, h => by
  show AV.str e.1 :: AV.ptr (ρ' e.2) 0 :: entC ρ' r = AV.str e.1 :: AV.ptr (ρ e.2) 0 :: entC ρ r
  rw [hr _ (h e (by simp)), entC_ext hr fun x hx => h x (by simp [hx])]
/-- One file more. -/
theorem Rt.addF {K K' : Nat → Nat} {p : Nat} {lv sv nv : AV} {ρ : Nat → Nat} {h h' : AH} {R : TT} (hT : Rt K p lv sv nv ρ h R) {id : Nat} {f : Fil} (hk : ∀ j, K j ≠ 0 → K' j = K j ∧ h'.get j = h.get j) (hid : K id = 0) (hf : FilA K' h' id f) (hn : h.nx ≤ h'.nx) (top : ∀ j, h'.nx ≤ j → K' j = 0) (hw : Wf R) (hr : riseE R.now ∧ riseE R.safe) :
  Rt K' p lv sv nv (fun j => if j = R.files.length then id else ρ j) h' { R with files := R.files ++ [f] } := by
 have k5 : ∀ j, K j = 5 → K' j = 5 ∧ h'.get j = h.get j := fun j hj => ⟨(hk j (by omega)).1.trans hj, (hk j (by omega)).2⟩
 have k6 : ∀ j, K j = 6 → K' j = 6 ∧ h'.get j = h.get j := fun j hj => ⟨(hk j (by omega)).1.trans hj, (hk j (by omega)).2⟩
 have hp : K p ≠ 0 := by rw [hT.kp]; decide
 have hρ : ∀ i, i < R.files.length → (fun j => if j = R.files.length then id else ρ j) i = ρ i := fun i hi => if_neg (by omega)
 have hlt : ∀ {E : Ixs}, riseE E → IxOK R.files.length E → ∀ e ∈ E, e.2 < R.files.length := fun {E} h1 h2 e he => (h2.2 e.1 e.2 (val_of_mem (riseE_once h1) he)).1
 have ef : ∀ i, i < R.files.length → ({ R with files := R.files ++ [f] } : TT).fil i = R.fil i := fun i hi => by
  unfold TT.fil; rw [List.getElem?_append_left hi]
 have kf : ∀ i, i < R.files.length → K (ρ i) = 4 := fun i hi => by obtain ⟨_, _, _, _, _, q⟩ := hT.fl i hi; exact q
 refine ⟨(hk p hp).2.trans hT.pp, ?_, ?_, ?_, fun i hi => ?_, fun i j hi hj he => ?_, (hk p hp).1.trans hT.kp, top⟩
 ·have := hT.now.mono k5 hn
  rwa [← entC_ext hρ (hlt hr.1 hw.now)] at this
 ·have := hT.safe.mono k5 hn
  rwa [← entC_ext hρ (hlt hr.2 hw.safe)] at this
 ·have := hT.nts.mono k6 hn
  rcases this with h1 | ⟨id', c, cs, h1, h2, h3, h4, h5, h6⟩
  ·exact .inl h1
  ·exact .inr ⟨id', c, cs, h1, h2, h3, h4, NtC.ext hρ hw.notes h5, h6⟩
 ·have hi' : i < R.files.length + 1 := by simpa using hi
  by_cases hie : i = R.files.length
  ·subst hie
   have e : ({ R with files := R.files ++ [f] } : TT).fil R.files.length = f := by unfold TT.fil; simp
   rw [e]
   simp only [if_true]
   exact hf
  ·have hil : i < R.files.length := by omega
   rw [ef i hil]
   simp only [if_neg hie]
   exact (hT.fl i hil).mono k5 ⟨(hk _ (by rw [kf i hil]; decide)).1.trans (kf i hil), (hk _ (by rw [kf i hil]; decide)).2⟩ hn
 ·have hi' : i < R.files.length + 1 := by simpa using hi
  have hj' : j < R.files.length + 1 := by simpa using hj
  by_cases hie : i = R.files.length <;> by_cases hje : j = R.files.length
  ·omega
  ·exfalso
   have hjl : j < R.files.length := by omega
   simp only [hie, if_true, if_neg hje] at he
   have := kf j hjl
   rw [← he, hid] at this; cases this
  ·exfalso
   have hil : i < R.files.length := by omega
   simp only [hje, if_true, if_neg hie] at he
   have := kf i hil
   rw [he, hid] at this; cases this
  ·simp only [if_neg hie, if_neg hje] at he
   exact hT.inj i j (by omega) (by omega) he
/-- Other lists, other changes. -/
theorem Rt.setL {K K' : Nat → Nat} {p : Nat} {lv sv nv lv' sv' nv' : AV} {ρ : Nat → Nat} {h h' : AH} {R R' : TT} (hT : Rt K p lv sv nv ρ h R) (hk : ∀ j, K j = 5 ∨ K j = 4 → K' j = K j ∧ h'.get j = h.get j) (hn : h.nx ≤ h'.nx) (e4 : R'.files = R.files) (kp : K' p = 1) (top : ∀ j, h'.nx ≤ j → K' j = 0)
  (hp : h'.get p = some (.cells [.int .i64 R'.room, lv', sv', nv', .int .u64 (R'.clock : Nat), .bool R'.off, .int .i64 R'.fuse] true false)) (hl : En K' h' lv' (entC ρ R'.now)) (hs : En K' h' sv' (entC ρ R'.safe)) (hns : Nts K' h' ρ nv' R'.notes) : Rt K' p lv' sv' nv' ρ h' R' := by
 have k5 : ∀ j, K j = 5 → K' j = 5 ∧ h'.get j = h.get j := fun j hj => ⟨(hk j (.inl hj)).1.trans hj, (hk j (.inl hj)).2⟩
 refine ⟨hp, hl, hs, hns, fun i hi => ?_, by rw [e4]; exact hT.inj, kp, top⟩
 rw [e4] at hi
 have ef : R'.fil i = R.fil i := by unfold TT.fil; rw [e4]
 obtain ⟨bv, sv, q1, q2, q3, q4⟩ := hT.fl i hi
 rw [ef]
 exact ⟨bv, sv, (hk _ (.inr q4)).2.trans q1, q2.mono k5 hn, q3.mono k5 hn, (hk _ (.inr q4)).1.trans q4⟩
section
variable {S : Sums}
set_option maxHeartbeats 8000000 in
theorem newD (hS : Dt S) {h : AH} (room : Int) : RnC Tryz.prog S 22 [.int .i64 room] h fun r h' => Fr h h' ∧ if 0 ≤ room ∧ room ≤ 67108864 then ∃ p, h.nx ≤ p ∧ r = .tup [.ptr p 0, .int .i64 0] ∧ ∃ K, Rt K p .nilsl .nilsl .nilsl (fun _ => 0) h' (newT room) ∧ ∀ j, j < h.nx → K j = 0 else r = .tup [.nilptr, .int .i64 2] := by
 refine RnC.enter' Tryz.f22 _ 13 [.tmp 2, .tmp 3] (hS.nd _ _ _ (by simp)) bd22 Tryz.func22 rfl rfl rfl ?_
 by_cases c1 : room < 0
 ·simp (maxSteps := 1000000) -dsimp (disch := (repeat first | rw [nxn] | rw [nxp]); try omega) only [go_sem, c1]
  rw [if_neg (by omega)]
  exact ⟨Fr.refl _, trivial⟩
 ·by_cases c2 : 67108864 < room
  ·simp (maxSteps := 1000000) -dsimp (disch := (repeat first | rw [nxn] | rw [nxp]); try omega) only [go_sem, c1, c2]
   rw [if_neg (by omega)]
   exact ⟨Fr.refl _, trivial⟩
  ·simp (maxSteps := 1000000) -dsimp (disch := (repeat first | rw [nxn] | rw [nxp]); try omega) only [go_sem, c1, c2, bldTr]
   rw [if_pos (by omega)]
   refine ⟨Fr.new _ _, h.nx, Nat.le_refl _, rfl, fun j => if j = h.nx then 1 else 0, ⟨AH.get_new_eq rfl, .inl ⟨rfl, rfl⟩, .inl ⟨rfl, rfl⟩, .inl ⟨rfl, rfl⟩, fun i hi => absurd hi (Nat.not_lt_zero _), fun i j hi => absurd hi (Nat.not_lt_zero _), if_pos rfl, fun j hj => if_neg (by have : h.nx + 1 ≤ j := hj; omega)⟩, fun j hj => if_neg (by omega)⟩
set_option maxHeartbeats 8000000 in
theorem statD (hS : Dt S) {K p lv sv nv ρ h R} (hT : Rt K p lv sv nv ρ h R) (hw : Wf R) (hm : R.now.length ≤ 16384) (s : Pth) :
  RnC Tryz.prog S 76 [.ptr p 0, .str s] h fun r h' => r = .tup [.int .i64 ((statT R s).1 : Nat), .int .u64 ((statT R s).2.1 : Nat), .bool (statT R s).2.2] ∧ Fr h h' := by
 refine RnC.enter' Tryz.f76 _ 25 [.tmp 4, .tmp 5, .tmp 6] (hS.nd _ _ _ (by simp)) bd76 Tryz.func76 rfl rfl rfl ?_
 have hp := hT.pp
 have ov := hT.now.ez.one.2
 simp (maxSteps := 1000000) -dsimp (disch := (repeat first | rw [nxn] | rw [nxp]); try omega) only [go_sem, hp, ov]
 refine callK_of (findC hS hT.now.ez hm s) ?_
 rintro r h2 ⟨rfl, rfl⟩
 unfold statT
 cases hvs : valS R.now s with
 | none =>
  simp (maxSteps := 1000000) -dsimp (disch := (repeat first | rw [nxn] | rw [nxp]); try omega) only [go_sem, hp, ov, nilPd]
  exact ⟨trivial, Fr.refl _⟩
 | some i =>
  have hi : i < R.files.length := (hw.now.2 s i hvs).1
  obtain ⟨bv, sv', q1, q2, q3, q4⟩ := hT.fl i hi
  have lb := (bsLn q2.bs).1
  have ob := (bsLn q2.bs).2.2
  simp (maxSteps := 1000000) -dsimp (disch := (repeat first | rw [nxn] | rw [nxp]); try omega) only [go_sem, hp, ov, nilQd]
  refine syDraw.go0 (by kernel_rfl) ?_
  simp (maxSteps := 1000000) -dsimp (disch := (repeat first | rw [nxn] | rw [nxp]); try omega) only [go_sem, hp, q1, lb, ob]
  exact ⟨trivial, (Fr.refl _).more _ (by omega)⟩
end
end Go.Proofs.YthkdhdcbhpknnaaGreatDoor.tre
