/- The program's tree: bytes are changed. Conditions: those of its summaries. -/
import Derived.Test.YthkdhdcbhpknnaaGreatDoorTCe
namespace Go.Proofs.YthkdhdcbhpknnaaGreatDoor.tre
open Go Go.Abs Go.Proofs
set_option maxRecDepth 100000
set_option linter.unusedVariables false
set_option linter.unusedSimpArgs false

theorem mem_valS {α : Type} : ∀ {E : List (List Nat × α)}, onceS E → ∀ e ∈ E, valS E e.1 = some e.2
 | x :: r, ⟨h1, h2⟩, e, he => by
  unfold valS
  rcases List.mem_cons.1 he with rfl | hr
  ·rw [if_pos rfl]
  ·have := mem_valS h2 e hr
   rw [if_neg (fun hh => by rw [hh, this] at h1; cases h1)]
   exact this
theorem keysN {n : Nat} {ρ : Nat → Nat} {E : Ixs} (hE : IxOK n E) : keysA (enS (mapS (fpt ρ) E)) = some (E.map (·.1)) := by
 rw [keysA_enS]
 ·unfold mapS; rw [List.map_map]; rfl
 ·intro e he
  obtain ⟨x, hx, rfl⟩ := List.mem_map.1 he
  have := (hE.2 _ _ (mem_valS hE.1 x hx)).2
  show x.1.length ≤ _
  omega
theorem lensN {K p nm sm chv ρ h T} (hT : Tr K p nm sm chv ρ h T) : ∀ {E : Ixs}, (∀ e ∈ E, e.2 < T.files.length) → lensA h (enS (mapS (fpt ρ) E)) = some (lenE T.files E)
 | [], _ => rfl
 | e :: r, hE => by
  have ih := lensN hT (E := r) fun x hx => hE x (List.mem_cons_of_mem _ hx)
  obtain ⟨bv, sv, q1, q2, q3, q4⟩ := hT.fl e.2 (hE e (List.mem_cons_self ..))
  show lensA h ((.str e.1, .ptr (ρ e.2) 0) :: enS (mapS (fpt ρ) r)) = _
  unfold lensA lenE
  rw [q1]
  rcases q2 with ⟨rfl, q2⟩ | ⟨id, c, cs, tx, rfl, _⟩
  ·have : ((T.files[e.2]?).getD ⟨[], [], 0⟩).b.length = 0 := by
    show (T.fil e.2).b.length = 0
    rw [q2]; rfl
   simp only [List.getElem?_cons_zero]
   rw [ih, this, Nat.zero_add]
  ·simp only [List.getElem?_cons_zero]
   rw [ih]
   rfl
theorem used_le {T : TT} (h : Wf T) (hm : T.now.length ≤ 16384) : T.used ≤ 1099511627776 := by
 have h1 := lenE_le (fs := T.files) (n := 67108864) (fun f hf => (h.byt f hf).2.2.1) T.now
 have h2 : T.now.length * 67108864 ≤ 16384 * 67108864 := Nat.mul_le_mul_right _ hm
 exact Nat.le_trans h1 (Nat.le_trans h2 (by decide))
section
variable {S : Sums}
theorem usedC (hS : St S) {K p nm sm chv ρ h T} (hT : Tr K p nm sm chv ρ h T) (hm : T.now.length ≤ 16384) {Q : AV → AH → Prop} (hq : Q (.int .i64 (T.used : Nat)) h) : RnC Tryz.prog S 125 [.ptr p 0] h Q := by
 refine RnC.sum (v := .int .i64 (T.used : Nat)) (h' := h) ?_ hq
 rw [hS.used]
 unfold sumUsed
 obtain ⟨bs, ck, hn⟩ := hT.now
 have hk := keysN (ρ := ρ) hT.wf.now
 have hl := lensN hT (E := T.now) fun e he => (hT.wf.now.2 _ _ (mem_valS hT.wf.now.1 e he)).1
 have hu := used_le hT.wf hm
 simp only [hT.pp]
 simp only [Nat.zero_add, List.getElem?_cons_zero, List.getElem?_cons_succ, hn, hk, hl]
 have : (enS (mapS (fpt ρ) T.now)).length = T.now.length := by simp [enS, mapS]
 rw [if_pos]
 ·rfl
 ·have h2 : lenE T.files T.now ≤ 1099511627776 := hu
  simp [this, h2]
  omega
/-- Bytes of somebody else. -/
def Bp (p : Nat) (h : AH) (v : AV) (l : List Nat) : Prop := Bs h v l ∧ ∀ id off n z c, v = .sl id off n z c → id ≠ p
theorem Bp.step {p : Nat} {h h' : AH} {v : AV} {l : List Nat} (hb : Bp p h v l) (hn : h.nx ≤ h'.nx) (ho : ∀ j, j < h.nx → j ≠ p → h'.get j = h.get j) : Bp p h' v l := by
 obtain ⟨hb, hp⟩ := hb
 refine ⟨?_, hp⟩
 rcases hb with h1 | ⟨id, off, c, cs, o, t, h1, h2, h3, h4, h5, h6⟩
 ·exact .inl h1
 ·exact .inr ⟨id, off, c, cs, o, t, h1, (ho id h3 (hp _ _ _ _ _ h1)).trans h2, Nat.lt_of_lt_of_le h3 hn, h4, h5, h6⟩
/-- A function that makes bytes of bytes. -/
def Mk (S : Sums) (h : AH) (v : AV) (g : List Nat → List Nat) : Prop := ∃ fn cs, v = .func (.func fn) [] cs ∧ bodied Tryz.prog fn = true ∧ ∀ bv l, Bs h bv l → l.length ≤ 67108864 → RnC Tryz.prog S fn (bv :: cs) h fun r h' => Bn h.nx h' r (g l) ∧ Fr h h'
set_option maxHeartbeats 8000000 in
theorem putC (hS : St S) {K p nm sm chv ρ h T} (hT : Tr K p nm sm chv ρ h T) (hm : Sm T) (s : Pth) {v : AV} {g : List Nat → List Nat} (hg : ∀ l, (∀ b ∈ l, b < 256) → ∀ b ∈ g l, b < 256) (hgl : ∀ l : List Nat, l.length ≤ 67108864 → (g l).length ≤ 1073741824)
  (hv : ∀ h', h.nx ≤ h'.nx → (∀ j, j < h.nx → j ≠ p → h'.get j = h.get j) → Mk S h' v g) :
  RnC Tryz.prog S 101 [.ptr p 0, .str s, v] h fun r h' => r = .int .i64 ((putT T (okP s) s g).1 : Nat) ∧ Res K p h h' (putT T (okP s) s g).2 := by
 refine RnC.enter' Tryz.f101 _ 56 [.tmp 6] (hS.nt _ _ _ (by simp)) bd101 Tryz.func101 rfl rfl rfl ?_
 have hpl : p < h.nx := hT.lt (by rw [hT.kp]; decide)
 simp (maxSteps := 1000000) -dsimp (disch := (repeat first | rw [nxn] | rw [nxp]); try omega) only [go_sem, evLen]
 refine callK_of (opC hS (hT.fr (Fr.new h (.cells [.str s] true false))) (l := [s]) (avOne s (AH.get_new_eq rfl) (Nat.lt_succ_self _)) (by simp)) ?_
 have eall : [s].all okP = okP s := by simp
 rw [eall]
 rintro r h2 ⟨rfl, hT2, hn2, ho2⟩
 have hn2' : h.nx + 1 ≤ h2.nx := hn2
 have ho2' : ∀ j, j < h.nx → j ≠ p → h2.get j = h.get j := fun j hj hjp => (ho2 j (by simp; omega) hjp).trans (AH.get_new_ne (by omega))
 have gr2 : Gr K h K h2 := ⟨by omega, fun j hj hk => ⟨ho2' j hj (fun hh => by rw [hh, hT.kp] at hk; cases hk), hk⟩⟩
 have w2 := Wf.put hT.wf (okP s) s hg
 unfold putT at w2 ⊢
 dsimp only at w2 ⊢
 have e1 := (opT_eq T (okP s))
 by_cases c1 : (((opT T (okP s)).1 : Nat) : Int) = 0
 ·have c1' : (opT T (okP s)).1 = 0 := by omega
  have c1n : ¬ ((opT T (okP s)).1 ≠ 0) := by omega
  rw [if_neg c1n] at w2 ⊢
  have hp2 := hT2.pp
  have lk := lookN hT2.now s
  obtain ⟨fn, cs, rfl, hb, hr⟩ := hv h2 (by omega) ho2'
  cases hvs : valS (opT T (okP s)).2.now s with
  | none =>
   rw [hvs] at lk
   simp (maxSteps := 1000000) -dsimp (disch := (repeat first | rw [nxn] | rw [nxp]); try omega) only [go_sem, evLen, c1, hp2, lk, nilP]
   exact ⟨trivial, K, nm, sm, chv, ρ, hT2, gr2⟩
  | some i =>
   rw [hvs] at lk w2
   dsimp only at w2 ⊢
   have hi : i < (opT T (okP s)).2.files.length := (hT2.wf.now.2 s i hvs).1
   obtain ⟨bv, sv, q1, q2, q3, q4⟩ := hT2.fl i hi
   have fo := fil_ok hT2.wf i
   simp (maxSteps := 1000000) -dsimp (disch := (repeat first | rw [nxn] | rw [nxp]); try omega) only [go_sem, evLen, c1, hp2, lk, nilQ, q1, hb]
   refine callK_of (hr bv _ q2.bs fo.2.2.1) ?_
   rintro r h3 ⟨hbn, hf3⟩
   obtain ⟨lr, _, or_⟩ := bsLn hbn.bs
   obtain ⟨lb, _, ob⟩ := bsLn q2.bs
   have f3 : Fr h2 { tr := h3.tr, nx := h3.nx + 16 } := hf3.more _ (by omega)
   have hT3 := hT2.fr f3
   have hp3 : h3.get p = _ := hT3.pp
   have q1' : h3.get (ρ i) = _ := (hf3.get _ (hT2.lt (by omega))).trans q1
   have hu := used_le hT2.wf (by rw [e1.2.1]; exact hm.now)
   have l1 := fo.2.2.1
   have l2 := hgl _ l1
   refine syDraw.keep (fun id => id < h2.nx) (by kernel_rfl) (by kernel_rfl) ?_
   simp (maxSteps := 1000000) -dsimp (disch := (repeat first | rw [nxn] | rw [nxp]); try omega) only [go_sem, hp3, q1', true_and, implies_true, sv_int, sv_bool]
   refine callK_of (usedC (Q := fun r h' => r = .int .i64 (((opT T (okP s)).2.used : Nat) : Int) ∧ h' = { tr := h3.tr, nx := h3.nx + 16 }) hS hT3 (by rw [e1.2.1]; exact hm.now) ⟨rfl, rfl⟩) ?_
   rintro r2 h4 ⟨rfl, rfl⟩
   refine ⟨fun id _ => rfl, ?_⟩
   have hpi : p < h2.nx := by omega
   have hri : ρ i < h2.nx := hT2.lt (by omega)
   have sb := (bsLn q2.bs).2.1
   by_cases c2 : (opT T (okP s)).2.room < (((opT T (okP s)).2.used : Nat) : Int) - ((((opT T (okP s)).2.fil i).b.length : Nat) : Int) + (((g ((opT T (okP s)).2.fil i).b).length : Nat) : Int)
   ·have c2' : T.room < (((opT T (okP s)).2.used : Nat) : Int) - ((((opT T (okP s)).2.fil i).b.length : Nat) : Int) + (((g ((opT T (okP s)).2.fil i).b).length : Nat) : Int) := by rw [← e1.1]; exact c2
    rw [if_pos c2']
    simp (maxSteps := 1000000) -dsimp (disch := (repeat first | rw [nxn] | rw [nxp]); try omega) only [go_sem, c2, hp3, q1', lr, lb, ob, or_, hpi, hri, sb, true_and, implies_true, sv_int, sv_bool]
    exact ⟨K, nm, sm, chv, ρ, hT3, gr2.trans (frGr f3 K)⟩
   ·have c2' : ¬ T.room < (((opT T (okP s)).2.used : Nat) : Int) - ((((opT T (okP s)).2.fil i).b.length : Nat) : Int) + (((g ((opT T (okP s)).2.fil i).b).length : Nat) : Int) := by rw [← e1.1]; exact c2
    rw [if_neg c2'] at w2 ⊢
    simp (maxSteps := 1000000) -dsimp (disch := (repeat first | rw [nxn] | rw [nxp]); try omega) only [go_sem, c2, hp3, q1', lr, lb, ob, or_, hpi, hri, sb, true_and, implies_true, sv_int, sv_bool]
    refine callK_of (tickC hS hT3 (by rw [e1.2.2.2.2.1]; exact hm.clock)) ?_
    rintro r5 h5 ⟨rfl, hT5, hn5, ho5⟩
    have hn5' : h5.nx = h3.nx + 16 := hn5
    have kpi : ρ i ≠ p := fun hh => by rw [hh, hT.kp] at q4; cases q4
    have q5 : h5.get (ρ i) = _ := (ho5 _ kpi).trans q1'
    have hf5 : ∀ o o' j, j ≠ p → j ≠ ρ i → j < h3.nx → ((h5.put (ρ i) o).put (ρ i) o').get j = h3.get j := fun o o' j h1 h2 h3 => (AH.get_put_ne h2).trans ((AH.get_put_ne h2).trans (ho5 j h1))
    rcases hbn.shape with rfl | ⟨ra, rn, rc, rfl⟩
    all_goals
     simp (maxSteps := 1000000) -dsimp (disch := (repeat first | rw [nxn] | rw [nxp]); try omega) only [go_sem, q5]
     refine ⟨trivial, fun j => if h2.nx ≤ j ∧ j < h3.nx then 5 else K j, nm, sm, chv, ρ, hT5.file (i := i) (f := ⟨g ((opT T (okP s)).2.fil i).b, ((opT T (okP s)).2.fil i).s, (opT T (okP s)).2.clock + 1⟩) hi (fun j hj => ?_) ⟨_, sv, AH.get_put_eq rfl, (hbn.by (n0 := h2.nx) (K := fun j => if h2.nx ≤ j ∧ j < h3.nx then 5 else K j) (fun j h1 h2 => if_pos ⟨h1, h2⟩)).mono (fun j hj => ⟨hj, ?_⟩) (by show h3.nx ≤ h5.nx; omega), q3.mono (fun j hj => ⟨?_, ?_⟩) (by show h2.nx ≤ h5.nx; have := hf3.nx; omega), ?_⟩ (Nat.le_refl _) (fun j hj => ?_) w2, ?_, fun j hj hk => ⟨?_, ?_⟩⟩
     ·have := hT2.lt hj
      refine ⟨if_neg (by omega), fun hji => (AH.get_put_ne hji).trans (AH.get_put_ne hji)⟩
     ·try dsimp only at hj
      by_cases hh : h2.nx ≤ j ∧ j < h3.nx
      ·exact hf5 _ _ j (by omega) (by omega) hh.2
      ·rw [if_neg hh] at hj
       have hjl := hT2.lt (j := j) (by omega)
       exact hf5 _ _ j (fun h9 => by rw [h9, hT.kp] at hj; cases hj) (fun h9 => by rw [h9, q4] at hj; cases hj) (Nat.lt_of_lt_of_le hjl hf3.nx)
     ·have hjl := hT2.lt (j := j) (by omega)
      exact (if_neg (by omega)).trans hj
     ·have hjl := hT2.lt (j := j) (by omega)
      exact (hf5 _ _ j (fun h9 => by rw [h9, hT.kp] at hj; cases hj) (fun h9 => by rw [h9, q4] at hj; cases hj) (Nat.lt_of_lt_of_le hjl hf3.nx)).trans (hf3.get j hjl)
     ·exact (if_neg (by omega)).trans q4
     ·have : h5.nx ≤ j := hj
      show (if h2.nx ≤ j ∧ j < h3.nx then 5 else K j) = 0
      rw [if_neg (by omega)]
      exact hT2.top j (by have := hf3.nx; omega)
     ·show h.nx ≤ h5.nx
      have := hf3.nx
      omega
     ·exact (hf5 _ _ j (fun h9 => by rw [h9, hT.kp] at hk; cases hk) (fun h9 => by rw [h9, q4] at hk; cases hk) (by have := hf3.nx; omega)).trans ((hf3.get j (by omega)).trans (gr2.get j hj hk).1)
     ·show (if h2.nx ≤ j ∧ j < h3.nx then 5 else K j) = 0
      rw [if_neg (by omega)]
      exact hk
 ·have c1n : (opT T (okP s)).1 ≠ 0 := by omega
  rw [if_pos c1n]
  simp (maxSteps := 1000000) -dsimp (disch := (repeat first | rw [nxn] | rw [nxp]); try omega) only [go_sem, evLen, c1]
  exact ⟨trivial, K, nm, sm, chv, ρ, hT2, gr2⟩
theorem writeC (hS : St S) {K p nm sm chv ρ h T} (hT : Tr K p nm sm chv ρ h T) (hm : Sm T) (s : Pth) {b : AV} {l : List Nat} (hb : Bp p h b l) (hl : ∀ x ∈ l, x < 256) (hll : l.length ≤ 67108864) :
  RnC Tryz.prog S 57 [.ptr p 0, .str s, b] h fun r h' => r = .int .i64 ((putT T (okP s) s fun _ => l).1 : Nat) ∧ Res K p h h' (putT T (okP s) s fun _ => l).2 := by
 refine RnC.enter' Tryz.f57 _ 11 [.tmp 6] (hS.nt _ _ _ (by simp)) bd57 Tryz.func57 rfl rfl rfl ?_
 have ob := (bsLn hb.1).2.2
 have cb := bsCells hb.1
 simp (maxSteps := 1000000) -dsimp (disch := (repeat first | rw [nxn] | rw [nxp]); try omega) only [go_sem, evLen, ob, cb]
 refine callK_of (putC hS (hT.fr (Fr.new h (.cells [b] true false))) hm s (g := fun _ => l) (fun _ _ => hl) (fun _ _ => by omega) ?_) ?_
 ·intro h2 hn2 ho2
  refine ⟨102, _, rfl, bd102, fun bv m hbv hml => ?_⟩
  refine RnC.enter' Tryz.f102 _ 6 [.tmp 3] (hS.nt _ _ _ (by simp)) bd102 Tryz.func102 rfl rfl rfl ?_
  have hpl : p < h.nx := hT.lt (by rw [hT.kp]; decide)
  have hc : h2.get h.nx = some (.cells [b] true false) := (ho2 _ (Nat.lt_succ_self _) (by omega)).trans (AH.get_new_eq rfl)
  have hb2 : Bp p h2 b l := hb.step (by have : h.nx + 1 ≤ h2.nx := hn2; omega) fun j hj hjp => (ho2 j (by simp; omega) hjp).trans (AH.get_new_ne (by omega))
  simp (maxSteps := 1000000) -dsimp (disch := (repeat first | rw [nxn] | rw [nxp]); try omega) only [go_sem, evLen, hc]
  refine callK_of (cloneC hS hb2.1 (by omega)) ?_
  rintro r h3 ⟨hbn, hf3⟩
  exact ⟨hbn, hf3⟩
 ·rintro r h2 ⟨rfl, K', nm', sm', chv', ρ', hT', gr'⟩
  simp (maxSteps := 1000000) -dsimp (disch := (repeat first | rw [nxn] | rw [nxp]); try omega) only [go_sem, evLen]
  exact ⟨trivial, K', nm', sm', chv', ρ', hT', (frGr (Fr.new h _) K).trans gr'⟩
end
end Go.Proofs.YthkdhdcbhpknnaaGreatDoor.tre
