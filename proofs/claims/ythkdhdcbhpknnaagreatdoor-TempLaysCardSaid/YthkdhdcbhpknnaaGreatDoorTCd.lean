/- The program's tree: changes of paths. Conditions: those of its summaries. -/
import Derived.Test.YthkdhdcbhpknnaaGreatDoorTCc
namespace Go.Proofs.YthkdhdcbhpknnaaGreatDoor.tre
open Go Go.Abs Go.Proofs
set_option maxRecDepth 100000
set_option linter.unusedVariables false
set_option linter.unusedSimpArgs false

/-- A map of the tree is set, one entry taken away. -/
theorem setN {h : AH} {m : Nat} {ρ : Nat → Nat} {E : Ixs} (hm : ∃ bs ck, h.get m = some (.map (enS (mapS (fpt ρ) E)) bs ck)) (k : Pth) (i : Nat) : ∃ bs' ck', evMapUpdate Tryz.prog h 96 (.map m) (.str k) (.ptr (ρ i) 0) = some (.skip (h.put m (.map (enS (mapS (fpt ρ) (updS E k i))) bs' ck'))) := by
 obtain ⟨bs, ck, hm⟩ := hm
 obtain ⟨b, c, h1⟩ := setS Tryz.underlying96 Tryz.underlying9 hm k (.ptr (ρ i) 0)
 rw [show AV.ptr (ρ i) 0 = fpt ρ i from rfl, mapS_upd] at h1
 exact ⟨b, c, h1⟩
theorem rmN {h : AH} {m : Nat} {ρ : Nat → Nat} {E : Ixs} (hm : ∃ bs ck, h.get m = some (.map (enS (mapS (fpt ρ) E)) bs ck)) (k : Pth) :
  ∃ h', evDelete Tryz.prog h #[96, 9] (.map m) (.str k) = some (.val (.tup []) h') ∧ h'.nx = h.nx ∧ (∃ bs ck, h'.get m = some (.map (enS (mapS (fpt ρ) (delS E k))) bs ck)) ∧ ∀ j, j ≠ m → h'.get j = h.get j := by
 obtain ⟨bs, ck, hm⟩ := hm
 obtain ⟨b, h', h1, h2, h3, h4⟩ := rmS (ats := #[96, 9]) rfl Tryz.underlying96 Tryz.underlying9 hm k
 rw [mapS_del] at h3
 exact ⟨h', h1, h2, ⟨b, ck, h3⟩, h4⟩
section
variable {S : Sums}
/-- What a change of paths does to a map. -/
def Dn (m : Nat) (ρ : Nat → Nat) (h : AH) (E : Ixs) (r : AV) (h' : AH) : Prop := r = .tup [] ∧ (∃ bs ck, h'.get m = some (.map (enS (mapS (fpt ρ) E)) bs ck)) ∧ h'.nx = h.nx ∧ ∀ j, j ≠ m → h'.get j = h.get j
theorem cloE (hS : St S) {K : Nat → Nat} {h : AH} {m : Nat} {ρ : Nat → Nat} {v : AV} {E : Ixs} (hm : ∃ bs ck, h.get m = some (.map (enS (mapS (fpt ρ) E)) bs ck)) : ∀ {n : Nte}, Clo K h ρ v n → ∃ fn cs, v = .func (.func fn) [] cs ∧ bodied Tryz.prog fn = true ∧ RnC Tryz.prog S fn (.map m :: cs) h (Dn m ρ h (doN n E))
 | .mk p i, ⟨a, b, e1, e2, e3, e4, e5⟩ => by
  refine ⟨_, _, e1, bd81, ?_⟩
  refine RnC.enter' Tryz.f81 _ 7 [] (hS.nt _ _ _ (by simp)) bd81 Tryz.func81 rfl rfl rfl ?_
  obtain ⟨bs', ck', hu⟩ := setN hm p i
  simp (maxSteps := 1000000) -dsimp (disch := (repeat first | rw [nxn] | rw [nxp]); try omega) only [go_sem, evLen, e2, e3, hu]
  exact ⟨rfl, ⟨bs', ck', AH.get_put_eq rfl⟩, rfl, fun j hj => AH.get_put_ne hj⟩
 | .ren x y, h => h.elim
 | .rm p, ⟨a, e1, e2, e3⟩ => by
  refine ⟨_, _, e1, bd88, ?_⟩
  refine RnC.enter' Tryz.f88 _ 5 [] (hS.nt _ _ _ (by simp)) bd88 Tryz.func88 rfl rfl rfl ?_
  obtain ⟨h', hd, hn, hm', ho⟩ := rmN hm p
  simp (maxSteps := 1000000) -dsimp (disch := (repeat first | rw [nxn] | rw [nxp]); try omega) only [go_sem, evLen, e2, hd]
  exact ⟨rfl, hm', hn, ho⟩
theorem ai66 : appI Tryz.prog 126 = some (1, 8) := by kernel_rfl
theorem Chs.app {K : Nat → Nat} {h : AH} {ρ : Nat → Nat} {v cv : AV} {l : List Nte} {id1 : Nat} {c : Option Nat} {o t : Bool} (hs : Chs K h ρ cv l) (hl : l.length ≤ 1073741824) (hid : h.get id1 = some (.cells [v] o t)) (ov : oneA v = true) :
  ∃ h' cs, evAppend Tryz.prog h #[97, 97] cv (.sl id1 0 1 1 c) = some (.val (.sl h.nx 0 (l.length + 1) 1 none) h') ∧ h'.nx = h.nx + 1 ∧ (∀ j, j < h.nx → K j ≠ 6 → h'.get j = h.get j) ∧ h'.get h.nx = some (.cells (cs ++ [v]) true false) ∧ cs.length = l.length ∧ cs.all oneA = true ∧ ∀ (i : Nat) x, l[i]? = some x → ∃ c, cs[i]? = some c ∧ Clo K h ρ c x := by
 have hnew : firstA h 1 1 (.sl id1 0 1 1 c) = some [v] := by
  rw [firstA_sl hid (Nat.le_refl _) (by simp)]; rfl
 have hov : [v].all oneA = true := by simp [ov]
 rcases hs with ⟨rfl, rfl⟩ | ⟨id, cs, rfl, h2, h3, h4, h5, h6, h7⟩
 ·rw [evAppend_eq (len := 0) (old := []) Tryz.underlying97 Tryz.underlying97 rfl ai66 rfl hnew rfl rfl hov (by omega) (by omega) rfl]
  rw [if_neg (by decide)]
  exact ⟨_, [], rfl, by simp, fun j hj _ => by rw [AH.get_new, if_neg (by omega)], AH.get_new_eq rfl, rfl, rfl, fun i x hx => by simp at hx⟩
 ·have hold : firstA h 1 l.length (.sl id 0 l.length 1 none) = some cs := by
   rw [firstA_sl h2 (Nat.le_refl _) (by omega), List.drop_zero, Nat.mul_one, ← h5, List.take_length]
  rw [evAppend_eq (len := l.length) Tryz.underlying97 Tryz.underlying97 rfl ai66 rfl hnew rfl hold hov (by omega) (by omega) rfl]
  rw [if_neg (by decide)]
  simp only
  rw [if_pos (by simp [ownBlock, h2])]
  have ht : (textBlock h id || !(Nat.beq 0 0)) = false := by simp [textBlock, h2]
  rw [ht]
  refine ⟨_, cs, rfl, by simp, fun j hj hk => ?_, ?_, h5, h6, h7⟩
  ·rw [AH.get_new, if_neg (by simp; omega), AH.get_del, if_neg (fun hh => hk (by rw [hh]; exact h4))]
  ·exact AH.get_new_eq (h := h.del id) rfl
set_option maxHeartbeats 4000000 in
theorem changeC (hS : St S) {K p nm sm chv ρ h T} (hT : Tr K p nm sm chv ρ h T) {v : AV} {n : Nte} (hc : Clo K h ρ v n) (hn : NteOK T.files.length n) (hl : T.notes.length ≤ 1048576) :
  RnC Tryz.prog S 80 [.ptr p 0, v] h fun r h' => r = .tup [] ∧ ∃ K' chv', Tr K' p nm sm chv' ρ h' (noteT T n) ∧ Gr K h K' h' ∧ ∀ j, j < h.nx → K' j = K j := by
 refine RnC.enter' Tryz.f80 _ 20 [] (hS.nt _ _ _ (by simp)) bd80 Tryz.func80 rfl rfl rfl ?_
 have hpl : p < h.nx := hT.lt (by rw [hT.kp]; decide)
 have hp := hT.pp
 obtain ⟨fn, cs, rfl, hb, hr⟩ := cloE hS hT.now hc
 have oc := hT.ch.shape.2.2
 simp (maxSteps := 1000000) -dsimp (disch := (repeat first | rw [nxn] | rw [nxp]); try omega) only [go_sem, hp, hb]
 refine callK_of hr ?_
 rintro r h2 ⟨rfl, hm2, hn2, ho2⟩
 have hpn : p ≠ nm := fun hh => by have := hT.kp; rw [hh, hT.kn] at this; cases this
 have hp2 : h2.get p = _ := (ho2 p hpn).trans hp
 have k5 : ∀ j, K j = 5 → K j = 5 ∧ h2.get j = h.get j := fun j hj => ⟨hj, ho2 j (fun hh => by rw [hh, hT.kn] at hj; cases hj)⟩
 have k6 : ∀ j, K j = 6 → K j = 6 ∧ h2.get j = h.get j := fun j hj => ⟨hj, ho2 j (fun hh => by rw [hh, hT.kn] at hj; cases hj)⟩
 have ch2 : Chs K h2 ρ chv T.notes := hT.ch.mono (n := T.files.length) k5 k6 (by omega) (fun _ _ => rfl) hT.wf.notes
 have ch3 : Chs K (h2.new (.cells [.func (.func fn) [] cs] true false)) ρ chv T.notes := by
  refine ch2.mono (n := T.files.length) (fun j hj => ⟨hj, ?_⟩) (fun j hj => ⟨hj, ?_⟩) (Nat.le_succ _) (fun _ _ => rfl) hT.wf.notes
  ·rw [AH.get_new, if_neg]
   have := hT.lt (j := j) (by omega)
   omega
  ·rw [AH.get_new, if_neg]
   have := hT.lt (j := j) (by omega)
   omega
 obtain ⟨h4, cs4, ha, hn4, hk4, hg4, hl4, ho4, hcl4⟩ := Chs.app (c := some 1) ch3 (by omega) (AH.get_new_eq rfl) rfl
 have hn4' : h4.nx = h.nx + 2 := by rw [hn4]; simp [hn2]
 have hnx3 : (h2.new (.cells [.func (.func fn) [] cs] true false)).nx = h.nx + 1 := by simp [hn2]
 rw [hnx3] at ha hg4
 have hp4 : h4.get p = _ := (hk4 p (by rw [hnx3]; omega) (by rw [hT.kp]; decide)).trans ((AH.get_new_ne (by omega)).trans hp2)
 simp (maxSteps := 1000000) -dsimp (disch := (repeat first | rw [nxn] | rw [nxp]); try omega) only [go_sem, hp2, oc, ha, hp4]
 have hlo : ∀ j, j < h.nx → K j ≠ 6 → j ≠ nm → j ≠ p → ∀ o, (h4.put p o).get j = h.get j := fun j hj h6 hjn hjp o =>
  (AH.get_put_ne hjp).trans ((hk4 j (by rw [hnx3]; omega) h6).trans ((AH.get_new_ne (by omega)).trans (ho2 j hjn)))
 have kk : ∀ j, j < h.nx → (if j = h.nx + 1 then 6 else K j) = K j := fun j hj => if_neg (by omega)
 refine ⟨trivial, fun j => if j = h.nx + 1 then 6 else K j, .sl (h.nx + 1) 0 (T.notes.length + 1) 1 none, ?_, ⟨?_, fun j hj hk => ⟨?_, ?_⟩⟩, kk⟩
 ·have hlk : ∀ {j}, K j ≠ 0 → j < h.nx := fun {j} hj => hT.lt hj
  have k5' : ∀ o, ∀ j, K j = 5 → (if j = h.nx + 1 then 6 else K j) = 5 ∧ (h4.put p o).get j = h.get j := fun o j hj => by
   have hjl := hlk (j := j) (by omega)
   refine ⟨by rw [kk j hjl]; exact hj, hlo j hjl (by omega) (fun hh => by rw [hh, hT.kn] at hj; cases hj) (fun hh => by rw [hh, hT.kp] at hj; cases hj) o⟩
  obtain ⟨bm, cm, hm2⟩ := hm2
  have hnml := hlk (j := nm) (by rw [hT.kn]; decide)
  refine ⟨AH.get_put_eq rfl, ⟨bm, cm, ?_⟩, ?_, .inr ⟨h.nx + 1, cs4 ++ [.func (.func fn) [] cs], by simp [noteT], ?_, ?_, if_pos rfl, by simp [noteT, hl4], by simp [ho4, oneA], fun i x hx => ?_⟩, fun i hi => ?_, hT.inj, ?_, ?_, ?_, fun j hj => ?_, hT.wf.note hn⟩
  ·exact (AH.get_put_ne hpn.symm).trans ((hk4 nm (by rw [hnx3]; omega) (by rw [hT.kn]; decide)).trans ((AH.get_new_ne (by omega)).trans hm2))
  ·obtain ⟨b3, c3, h3⟩ := hT.safe
   exact ⟨b3, c3, (hlo sm (hlk (by rw [hT.ks]; decide)) (by rw [hT.ks]; decide) (fun hh => by have := hT.ks; rw [hh, hT.kn] at this; cases this) (fun hh => by have := hT.ks; rw [hh, hT.kp] at this; cases this) _).trans h3⟩
  ·exact (AH.get_put_ne (by omega)).trans hg4
  ·show h.nx + 1 < h4.nx
   omega
  ·have hxl : i < T.notes.length + 1 := by
    have := (List.getElem?_eq_some_iff.1 hx).1
    simpa [noteT] using this
   by_cases hi : i < T.notes.length
   ·have hx' : T.notes[i]? = some x := by
     have : (T.notes ++ [n])[i]? = some x := hx
     rwa [List.getElem?_append_left hi] at this
    obtain ⟨c, e1, e2⟩ := hcl4 i x hx'
    refine ⟨c, by rw [List.getElem?_append_left (by omega)]; exact e1, Clo.mono (K := K) (h := h2.new (.cells [.func (.func fn) [] cs] true false)) (n := T.files.length) (fun j hj => ?_) (fun _ _ => rfl) (hT.wf.notes x (List.mem_iff_getElem?.2 ⟨i, hx'⟩)) e2⟩
    have hjl := hlk (j := j) (by omega)
    refine ⟨(k5' (.defs true) j hj).1, ?_⟩
    rw [(k5' _ j hj).2, AH.get_new, if_neg (by omega), (k5 j hj).2]
   ·have : i = T.notes.length := by omega
    subst this
    have hx' : x = n := by
     have : (T.notes ++ [n])[T.notes.length]? = some x := hx
     rw [List.getElem?_append_right (Nat.le_refl _)] at this
     simp at this
     exact this.symm
    subst hx'
    refine ⟨.func (.func fn) [] cs, by rw [List.getElem?_append_right (by omega)]; simp [hl4], Clo.mono (n := T.files.length) (k5' _) (fun _ _ => rfl) hn hc⟩
  ·obtain ⟨bv, sv, q1, q2, q3, q4⟩ := hT.fl i hi
   have hjl := hlk (j := ρ i) (by omega)
   exact ⟨bv, sv, (hlo _ hjl (by omega) (fun hh => by rw [hh, hT.kn] at q4; cases q4) (fun hh => by rw [hh, hT.kp] at q4; cases q4) _).trans q1, q2.mono (k5' _) (by show h.nx ≤ h4.nx; omega), q3.mono (k5' _) (by show h.nx ≤ h4.nx; omega), (kk _ hjl).trans q4⟩
  ·exact (kk p hpl).trans hT.kp
  ·exact (kk nm hnml).trans hT.kn
  ·exact (kk sm (hlk (by rw [hT.ks]; decide))).trans hT.ks
  ·have hj2 : h.nx + 2 ≤ j := by
    have : h4.nx ≤ j := hj
    omega
   show (if j = h.nx + 1 then 6 else K j) = 0
   rw [if_neg (by omega)]
   exact hT.top j (by omega)
 ·show h.nx ≤ h4.nx
  omega
 ·exact hlo j hj (by omega) (fun hh => by rw [hh, hT.kn] at hk; cases hk) (fun hh => by rw [hh, hT.kp] at hk; cases hk) _
 ·show (if j = h.nx + 1 then 6 else K j) = 0
  rw [if_neg (by omega)]
  exact hk
theorem doAll_take {l : List Nte} {i : Nat} {x : Nte} (hx : l[i]? = some x) (E : Ixs) : doAll (l.take (i + 1)) E = doN x (doAll (l.take i) E) := by
 have key : ∀ (l : List Nte) (E : Ixs) (y : Nte), doAll (l ++ [y]) E = doN y (doAll l E) := fun l => by
  induction l with
  | nil => intro E y; rfl
  | cons a r ih => intro E y; exact ih (doN a E) y
 have : l.take (i + 1) = l.take i ++ [x] := by rw [List.take_add_one, hx]; rfl
 rw [this, key]
/-- The tree with other files that are safe. -/
theorem Tr.setSafe {K p nm sm chv ρ h T} (hT : Tr K p nm sm chv ρ h T) {h' : AH} {E : Ixs} (hE : IxOK T.files.length E) (hm : ∃ bs ck, h'.get sm = some (.map (enS (mapS (fpt ρ) E)) bs ck)) (hn : h'.nx = h.nx) (ho : ∀ j, j ≠ sm → h'.get j = h.get j) :
  Tr K p nm sm chv ρ h' { T with safe := E } := by
 have ne : ∀ {j n}, K j = n → n ≠ 3 → h'.get j = h.get j := fun {j n} hj h0 => ho j (fun hh => by rw [hh, hT.ks] at hj; omega)
 have k5 : ∀ j, K j = 5 → K j = 5 ∧ h'.get j = h.get j := fun j hj => ⟨hj, ne hj (by omega)⟩
 have k6 : ∀ j, K j = 6 → K j = 6 ∧ h'.get j = h.get j := fun j hj => ⟨hj, ne hj (by omega)⟩
 obtain ⟨h1, ⟨b2, c2, h2⟩, h3, h4, h5, h6, h7, h8, h9, h10, w⟩ := hT
 refine ⟨(ne h7 (by omega)).trans h1, ⟨b2, c2, (ne h8 (by omega)).trans h2⟩, hm, h4.mono (n := T.files.length) k5 k6 (by omega) (fun _ _ => rfl) w.notes, fun i hi => ?_, h6, h7, h8, h9, fun j hj => h10 j (by omega), ⟨w.1, hE, w.3, w.4, w.5, w.6⟩⟩
 obtain ⟨bv, sv, q1, q2, q3, q4⟩ := h5 i hi
 exact ⟨bv, sv, (ne q4 (by omega)).trans q1, q2.mono k5 (by omega), q3.mono k5 (by omega), q4⟩
theorem Tr.clr {K p nm sm chv ρ h T} (hT : Tr K p nm sm chv ρ h T) : Tr K p nm sm .nilsl ρ (h.put p (.cells [.bool true, .int .i64 T.room, .map nm, .map sm, .nilsl, .int .u64 (T.clock : Nat), .bool T.off, .int .i64 T.fuse] true false)) { T with notes := [] } := by
 have ne : ∀ {j n} o, K j = n → n ≠ 1 → (h.put p o).get j = h.get j := fun {j n} o hj h0 => AH.get_put_ne (fun hh => by rw [hh, hT.kp] at hj; omega)
 obtain ⟨h1, ⟨b2, c2, h2⟩, ⟨b3, c3, h3⟩, h4, h5, h6, h7, h8, h9, h10, w⟩ := hT
 refine ⟨AH.get_put_eq rfl, ⟨b2, c2, (ne _ h8 (by omega)).trans h2⟩, ⟨b3, c3, (ne _ h9 (by omega)).trans h3⟩, .inl ⟨rfl, rfl⟩, fun i hi => ?_, h6, h7, h8, h9, h10, ⟨w.1, w.2, fun n hn => by simp at hn, w.4, w.5, w.6⟩⟩
 exact (h5 i hi).mono (fun j hj => ⟨hj, ne _ hj (by omega)⟩) (by obtain ⟨bv, sv, q1, q2, q3, q4⟩ := h5 i hi; exact ⟨q4, ne _ q4 (by omega)⟩) (Nat.le_refl _)
set_option maxHeartbeats 4000000 in
theorem keepC (hS : St S) {K p nm sm chv ρ h T} (hT : Tr K p nm sm chv ρ h T) {n : Nat} (hn : n ≤ T.notes.length) (hl : T.notes.length ≤ 1048576) :
  RnC Tryz.prog S 69 [.ptr p 0, .int .i64 (n : Nat)] h fun r h' => r = .tup [] ∧ Tr K p nm sm .nilsl ρ h' (keepT T n) ∧ h'.nx = h.nx ∧ ∀ j, K j = 0 → h'.get j = h.get j := by
 refine RnC.enter' Tryz.f69 _ 27 [] (hS.nt _ _ _ (by simp)) bd69 Tryz.func69 rfl rfl rfl ?_
 have hp := hT.pp
 obtain ⟨lc, _, oc⟩ := hT.ch.shape
 obtain ⟨w, hsl, lw, hw, ow⟩ : ∃ w, (∀ g, evSlice Tryz.prog g 97 chv none (some (.int .i64 (n : Nat))) none = some w) ∧ (∀ g, evLen Tryz.prog g #[97] w = some (.int .i64 (n : Nat))) ∧ (n = 0 ∨ ∃ id cs, w = .sl id 0 n 1 none ∧ h.get id = some (.cells cs true false) ∧ K id = 6 ∧ ∀ (i : Nat) t, T.notes[i]? = some t → ∃ c, cs[i]? = some c ∧ Clo K h ρ c t) ∧ oneA w = true := by
  rcases hT.ch with ⟨rfl, h0⟩ | ⟨id, cs, rfl, h2, h3, h4, h5, h6, h7⟩
  ·rw [h0] at hn
   obtain rfl : n = 0 := by simpa using hn
   exact ⟨.nilsl, fun g => by simp [evSlice, Tryz.underlying97, tz126, boundsA, boundA, upTo], fun g => by simp [evLen, Tryz.underlying97], .inl rfl, rfl⟩
  ·have hu : upTo ((n : Nat) : Int) T.notes.length = some n := by rw [upTo_of (by omega) (by omega)]; simp
   refine ⟨.sl id 0 n 1 none, fun g => ?_, fun g => by simp [evLen, Tryz.underlying97], .inr ⟨id, cs, rfl, h2, h4, h7⟩, rfl⟩
   simp [evSlice, Tryz.underlying97, tz126, boundsA, boundA, hu]
 simp (maxSteps := 1000000) -dsimp (disch := (repeat first | rw [nxn] | rw [nxp]); try omega) only [go_sem, hp, oc, hsl, lw]
 refine loopK_of (RnL.rounds (Q := fun ex u => ex = .exit 0 ∧ u.d = [] ∧ u.t.get 0 = some (.ptr p 0) ∧ u.h.nx = h.nx ∧ (∀ j, j ≠ sm → u.h.get j = h.get j) ∧ ∃ bs ck, u.h.get sm = some (.map (enS (mapS (fpt ρ) (doAll (T.notes.take n) T.safe))) bs ck))
  (fun m u => u.d = [] ∧ u.t.get 0 = some (.ptr p 0) ∧ u.t.get 11 = some w ∧ u.t.get 12 = some (.int .i64 (n : Nat)) ∧ u.h.nx = h.nx ∧ (∀ j, j ≠ sm → u.h.get j = h.get j) ∧ ∃ i : Nat, u.t.get 13 = some (.int .i64 (i : Nat)) ∧ i ≤ n ∧ (∃ bs ck, u.h.get sm = some (.map (enS (mapS (fpt ρ) (doAll (T.notes.take i) T.safe))) bs ck)) ∧ m = n - i) ?_ n ?_) ?_
 ·rintro m ⟨t, h1, d⟩ ⟨e2, g0, g11, g12, en, eo, i, g13, hi, hm, rfl⟩
  dsimp only at e2 g0 g11 g12 g13 en eo hm
  subst e2
  by_cases c4 : (i : Int) < (n : Nat)
  ·have hil : i < n := by omega
   obtain ⟨x, hx⟩ : ∃ x, T.notes[i]? = some x := ⟨_, List.getElem?_eq_getElem (by omega)⟩
   rcases hw with h0 | ⟨id, cs, rfl, hg, hk, hcl⟩
   ·omega
   obtain ⟨cv, hcv, hclo⟩ := hcl i x hx
   have hne : ∀ {j k}, K j = k → k ≠ 3 → h1.get j = h.get j := fun {j k} hj h0 => eo j (fun hh => by rw [hh, hT.ks] at hj; omega)
   have hg1 : h1.get id = some (.cells cs true false) := (hne hk (by omega)).trans hg
   have hp1 := (hne hT.kp (by omega)).trans hp
   have hclo1 : Clo K h1 ρ cv x := hclo.mono (n := T.files.length) (fun j hj => ⟨hj, hne hj (by omega)⟩) (fun _ _ => rfl) (hT.wf.notes x (List.mem_iff_getElem?.2 ⟨i, hx⟩))
   obtain ⟨fn, cs', rfl, hb, hr⟩ := cloE hS hm hclo1
   simp (maxSteps := 1000000) -dsimp (disch := (repeat first | rw [nxn] | rw [nxp]); try omega) only [go_sem, c4, hil, hg1, hcv, hp1, hb, Nat.mul_one, g0, g11, g12, g13]
   refine callK_of hr ?_
   rintro r h2 ⟨rfl, hm2, hn2, ho2⟩
   refine ⟨n - (i + 1), by omega, trivial, trivial, trivial, trivial, hn2.trans en, fun j hj => (ho2 j hj).trans (eo j hj), i + 1, rfl, by omega, ?_, rfl⟩
   rw [doAll_take hx]
   exact hm2
  ·have : i = n := by omega
   subst this
   simp (maxSteps := 1000000) -dsimp (disch := (repeat first | rw [nxn] | rw [nxp]); try omega) only [go_sem, c4, g0, g11, g12, g13]
   exact ⟨trivial, trivial, trivial, en, eo, hm⟩
 ·simp (maxSteps := 1000000) -dsimp (disch := (repeat first | rw [nxn] | rw [nxp]); try omega) only [go_sem, lw, ow]
  exact ⟨trivial, trivial, trivial, trivial, trivial, fun _ _ => trivial, 0, rfl, Nat.zero_le _, hT.safe, rfl⟩
 ·rintro ex ⟨t, h1, d⟩ ⟨rfl, rfl, g0, en, eo, hm⟩
  dsimp only at g0 en eo hm
  have hps : p ≠ sm := fun hh => by have := hT.kp; rw [hh, hT.ks] at this; cases this
  have hp1 := (eo p hps).trans hp
  simp (maxSteps := 1000000) -dsimp (disch := (repeat first | rw [nxn] | rw [nxp]); try omega) only [go_sem, hp1, g0]
  have hT1 := hT.setSafe (hT.wf.safe.doAll (l := T.notes.take n) fun t ht => hT.wf.notes t (List.mem_of_mem_take ht)) hm en eo
  exact ⟨trivial, hT1.clr, en, fun j hj => (AH.get_put_ne (fun hh => by rw [hh, hT.kp] at hj; cases hj)).trans (eo j (fun hh => by rw [hh, hT.ks] at hj; cases hj))⟩
end
end Go.Proofs.YthkdhdcbhpknnaaGreatDoor.tre
