/- The program's tree: Make, Write, Append, Sync. Conditions: those of its summaries. -/
import Derived.Test.YthkdhdcbhpknnaaGreatDoorTCd
namespace Go.Proofs.YthkdhdcbhpknnaaGreatDoor.tre
open Go Go.Abs Go.Proofs
set_option maxRecDepth 100000
set_option linter.unusedVariables false
set_option linter.unusedSimpArgs false

theorem mapS_congr {n : Nat} {ρ ρ' : Nat → Nat} (hr : ∀ i, i < n → ρ' i = ρ i) : ∀ {E : Ixs}, IxOK n E → mapS (fpt ρ') E = mapS (fpt ρ) E
 | [], _ => rfl
 | e :: r, ⟨⟨h1, h2⟩, h3⟩ => by
  have e1 : e.2 < n := (h3 e.1 e.2 (by unfold valS; rw [if_pos rfl])).1
  have ih := mapS_congr hr (E := r) ⟨h2, fun k i hk => h3 k i (by
   unfold valS
   rw [if_neg (fun hh => by rw [← hh, h1] at hk; cases hk)]
   exact hk)⟩
  show (e.1, fpt ρ' e.2) :: mapS (fpt ρ') r = (e.1, fpt ρ e.2) :: mapS (fpt ρ) r
  rw [ih]
  unfold fpt
  rw [hr _ e1]
theorem fil_set {T T' : TT} {i j : Nat} {f : Fil} (e : T'.files = T.files.set i f) (hi : i < T.files.length) : T'.fil j = if j = i then f else T.fil j := by
 unfold TT.fil
 rw [e, List.getElem?_set]
 by_cases h : i = j
 ·subst h; simp [hi]
 ·rw [if_neg h, if_neg (fun hh => h hh.symm)]
theorem fil_add {T T' : TT} {j : Nat} {f : Fil} (e : T'.files = T.files ++ [f]) : T'.fil j = if j = T.files.length then f else T.fil j := by
 unfold TT.fil
 rw [e]
 by_cases h : j < T.files.length
 ·rw [List.getElem?_append_left h, if_neg (by omega)]
 ·by_cases h2 : j = T.files.length
  ·rw [if_pos h2, List.getElem?_append_right (by omega), h2]; simp
  ·rw [if_neg h2, List.getElem?_eq_none (by simp; omega), List.getElem?_eq_none (by omega)]
/-- One file has other bytes. -/
theorem Tr.file {K K' : Nat → Nat} {p nm sm chv ρ h T} (hT : Tr K p nm sm chv ρ h T) {i : Nat} (hi : i < T.files.length) {f : Fil} {h' : AH} (hk : ∀ j, K j ≠ 0 → K' j = K j ∧ (j ≠ ρ i → h'.get j = h.get j)) (hf : FilA K' h' (ρ i) f) (hn : h.nx ≤ h'.nx) (top : ∀ j, h'.nx ≤ j → K' j = 0)
  (w : Wf { T with files := T.files.set i f }) : Tr K' p nm sm chv ρ h' { T with files := T.files.set i f } := by
 have k4 : K (ρ i) = 4 := by obtain ⟨bv, sv, q1, q2, q3, q4⟩ := hT.fl i hi; exact q4
 have ne : ∀ {j n}, K j = n → n ≠ 0 → n ≠ 4 → K' j = n ∧ h'.get j = h.get j := fun {j n} hj h0 h4 => by
  obtain ⟨e1, e2⟩ := hk j (by omega)
  exact ⟨e1.trans hj, e2 (fun hh => by rw [hh, k4] at hj; omega)⟩
 have k5 : ∀ j, K j = 5 → K' j = 5 ∧ h'.get j = h.get j := fun j hj => ne hj (by omega) (by omega)
 have k6 : ∀ j, K j = 6 → K' j = 6 ∧ h'.get j = h.get j := fun j hj => ne hj (by omega) (by omega)
 obtain ⟨h1, ⟨b2, c2, h2⟩, ⟨b3, c3, h3⟩, h4, h5, h6, h7, h8, h9, h10, w0⟩ := hT
 have el : (T.files.set i f).length = T.files.length := by simp
 refine ⟨(ne h7 (by omega) (by omega)).2.trans h1, ⟨b2, c2, (ne h8 (by omega) (by omega)).2.trans h2⟩, ⟨b3, c3, (ne h9 (by omega) (by omega)).2.trans h3⟩, h4.mono (n := T.files.length) k5 k6 hn (fun _ _ => rfl) w0.notes, fun j hj => ?_, by rw [el]; exact h6, (ne h7 (by omega) (by omega)).1, (ne h8 (by omega) (by omega)).1, (ne h9 (by omega) (by omega)).1, top, w⟩
 have hj' : j < T.files.length := by simpa using hj
 have ef := fil_set (T := T) (T' := { T with files := T.files.set i f }) (j := j) rfl hi
 rw [ef]
 by_cases hji : j = i
 ·rw [if_pos hji, hji]; exact hf
 ·rw [if_neg hji]
  obtain ⟨bv, sv, q1, q2, q3, q4⟩ := h5 j hj'
  have hne : ρ j ≠ ρ i := fun hh => hji (h6 j i hj' hi hh)
  obtain ⟨e1, e2⟩ := hk (ρ j) (by omega)
  exact ⟨bv, sv, (e2 hne).trans q1, q2.mono k5 hn, q3.mono k5 hn, e1.trans q4⟩
/-- One file more. -/
theorem Tr.addF {K K' : Nat → Nat} {p nm sm chv ρ h T} (hT : Tr K p nm sm chv ρ h T) {id : Nat} {f : Fil} {h' : AH} (hk : ∀ j, K j ≠ 0 → K' j = K j ∧ h'.get j = h.get j) (hid : K id = 0) (hf : FilA K' h' id f) (hn : h.nx ≤ h'.nx) (top : ∀ j, h'.nx ≤ j → K' j = 0)
  (w : Wf { T with files := T.files ++ [f] }) : Tr K' p nm sm chv (fun j => if j = T.files.length then id else ρ j) h' { T with files := T.files ++ [f] } := by
 have ne : ∀ {j n}, K j = n → n ≠ 0 → K' j = n ∧ h'.get j = h.get j := fun {j n} hj h0 => by
  obtain ⟨e1, e2⟩ := hk j (by omega)
  exact ⟨e1.trans hj, e2⟩
 have k5 : ∀ j, K j = 5 → K' j = 5 ∧ h'.get j = h.get j := fun j hj => ne hj (by omega)
 have k6 : ∀ j, K j = 6 → K' j = 6 ∧ h'.get j = h.get j := fun j hj => ne hj (by omega)
 have hr : ∀ i, i < T.files.length → (if i = T.files.length then id else ρ i) = ρ i := fun i hi => if_neg (by omega)
 obtain ⟨h1, ⟨b2, c2, h2⟩, ⟨b3, c3, h3⟩, h4, h5, h6, h7, h8, h9, h10, w0⟩ := hT
 have kr : ∀ i, i < T.files.length → K (ρ i) = 4 := fun i hi => by obtain ⟨bv, sv, q1, q2, q3, q4⟩ := h5 i hi; exact q4
 refine ⟨(ne h7 (by omega)).2.trans h1, ⟨b2, c2, ?_⟩, ⟨b3, c3, ?_⟩, h4.mono (n := T.files.length) k5 k6 hn hr w0.notes, fun j hj => ?_, fun i j hi hj hij => ?_, (ne h7 (by omega)).1, (ne h8 (by omega)).1, (ne h9 (by omega)).1, top, w⟩
 ·rw [mapS_congr (n := T.files.length) hr w0.now]; exact (ne h8 (by omega)).2.trans h2
 ·rw [mapS_congr (n := T.files.length) hr w0.safe]; exact (ne h9 (by omega)).2.trans h3
 ·have ef := fil_add (T := T) (T' := { T with files := T.files ++ [f] }) (j := j) rfl
  rw [ef]
  by_cases hj2 : j = T.files.length
  ·simp only [hj2, if_true]; exact hf
  ·have hj' : j < T.files.length := by
    have : j < (T.files ++ [f]).length := hj
    simp at this; omega
   simp only [hj2, if_false]
   obtain ⟨bv, sv, q1, q2, q3, q4⟩ := h5 j hj'
   exact ⟨bv, sv, (ne q4 (by omega)).2.trans q1, q2.mono k5 hn, q3.mono k5 hn, (ne q4 (by omega)).1⟩
 ·have hi' : i < T.files.length + 1 := by simpa using hi
  have hj' : j < T.files.length + 1 := by simpa using hj
  by_cases c1 : i = T.files.length <;> by_cases c2 : j = T.files.length
  ·omega
  ·simp only [c1, if_true, c2, if_false] at hij
   have := kr j (by omega)
   rw [← hij, hid] at this; cases this
  ·simp only [c1, if_false, c2, if_true] at hij
   have := kr i (by omega)
   rw [hij, hid] at this; cases this
  ·simp only [c1, if_false, c2] at hij
   exact h6 i j (by omega) (by omega) hij
theorem okP_len {s : Pth} (h : okP s = true) : s.length ≤ 69 := by
 have key : ∀ x : List Nat, checkS x = 0 → x.length ≤ 64 := fun x hx => by
  unfold checkS at hx
  by_cases c : 64 < x.length
  ·rw [if_pos c] at hx; cases hx
  ·omega
 unfold okP tempedS at h
 simp only [Bool.or_eq_true, decide_eq_true_eq, Bool.and_eq_true] at h
 rcases h with h | ⟨_, h⟩
 ·have := key s h; omega
 ·have := key _ h
  rw [List.length_drop] at this
  omega
/-- What an operation leaves. -/
def Res (K : Nat → Nat) (p : Nat) (h h' : AH) (T' : TT) : Prop := ∃ K' nm sm chv ρ, Tr K' p nm sm chv ρ h' T' ∧ Gr K h K' h'
theorem bldF (n : Nat) : evBuild Tryz.prog 110 [(2, .int .u64 (n : Int))] = some (.agg [.nilsl, .nilsl, .int .u64 (n : Int)]) := by kernel_rfl
section
variable {S : Sums}
theorem avOne {h : AH} (s : Pth) {id : Nat} {c : Option Nat} {o t : Bool} (hg : h.get id = some (.cells [.str s] o t)) (hl : id < h.nx) : Av h (.sl id 0 1 1 c) [s] := .inr ⟨id, c, o, t, rfl, hg, hl⟩
set_option maxHeartbeats 8000000 in
theorem makeC (hS : St S) {K p nm sm chv ρ h T} (hT : Tr K p nm sm chv ρ h T) (hm : Sm T) (s : Pth) :
  RnC Tryz.prog S 26 [.ptr p 0, .str s] h fun r h' => r = .int .i64 ((makeT T (okP s) s).1 : Nat) ∧ Res K p h h' (makeT T (okP s) s).2 := by
 refine RnC.enter' Tryz.f26 _ 28 [.tmp 4] (hS.nt _ _ _ (by simp)) bd26 Tryz.func26 rfl rfl rfl ?_
 have hpl : p < h.nx := hT.lt (by rw [hT.kp]; decide)
 simp (maxSteps := 1000000) -dsimp (disch := (repeat first | rw [nxn] | rw [nxp]); try omega) only [go_sem, evLen]
 refine callK_of (opC hS (hT.fr ((Fr.new h (.cells [.str s] true false)).news (.cells [.str s] true false))) (l := [s]) (avOne s (AH.get_new_eq rfl) (Nat.lt_succ_self _)) (by simp)) ?_
 have eall : [s].all okP = okP s := by simp
 rw [eall]
 rintro r h2 ⟨rfl, hT2, hn2, ho2⟩
 have hn2' : h.nx + 2 ≤ h2.nx := hn2
 have hcell : h2.get h.nx = some (.cells [.str s] true false) := (ho2 h.nx (by simp; omega) (by omega)).trans ((AH.get_new_ne (by simp)).trans (AH.get_new_eq rfl))
 have gr2 : Gr K h K h2 := ⟨by omega, fun j hj hk => ⟨(ho2 j (by simp; omega) (fun hh => by rw [hh, hT.kp] at hk; cases hk)).trans ((AH.get_new_ne (by simp; omega)).trans (AH.get_new_ne (by omega))), hk⟩⟩
 unfold makeT
 dsimp only
 have e1 := (opT_eq T (okP s))
 by_cases c1 : (((opT T (okP s)).1 : Nat) : Int) = 0
 ·have c1' : (opT T (okP s)).1 = 0 := by omega
  have c1n : ¬ ((opT T (okP s)).1 ≠ 0) := by omega
  rw [if_neg c1n]
  have hp2 := hT2.pp
  have lk : ∀ n, _ := fun n => lookN (h := { tr := h2.tr, nx := n }) hT2.now s
  simp (maxSteps := 1000000) -dsimp (disch := (repeat first | rw [nxn] | rw [nxp]); try omega) only [go_sem, evLen, c1]
  refine syDraw.go0 (by kernel_rfl) ?_
  have f3 : Fr h2 { tr := h2.tr, nx := h2.nx + 7 } := (Fr.refl h2).more _ (by omega)
  cases hv : valS (opT T (okP s)).2.now s with
  | some i =>
   rw [hv] at lk
   simp (maxSteps := 1000000) -dsimp (disch := (repeat first | rw [nxn] | rw [nxp]); try omega) only [go_sem, evLen, hp2, hcell, lk, nilQ']
   exact ⟨trivial, K, nm, sm, chv, ρ, hT2.fr f3, gr2.trans (frGr f3 K)⟩
  | none =>
   rw [hv] at lk
   simp (maxSteps := 1000000) -dsimp (disch := (repeat first | rw [nxn] | rw [nxp]); try omega) only [go_sem, evLen, hp2, hcell, lk, nilP']
   refine callK_of (tickC hS (hT2.fr f3) (by rw [e1.2.2.2.2.1]; exact hm.clock)) ?_
   rintro r h3 ⟨rfl, hT3, hn3, ho3⟩
   have hn3' : h3.nx = h2.nx + 7 := hn3
   simp (maxSteps := 1000000) -dsimp (disch := (repeat first | rw [nxn] | rw [nxp]); try omega) only [go_sem, evLen, bldF]
   have hT4 := hT3.addF (K' := fun j => if j = h3.nx then 4 else if j = h3.nx + 1 then 5 else if j = h.nx then 5 else K j) (id := h3.nx) (f := ⟨[], [], (opT T (okP s)).2.clock + 1⟩)
    (h' := ((h3.new (.cells [.nilsl, .nilsl, .int .u64 (((opT T (okP s)).2.clock + 1 : Nat) : Int)] true false)).new (.cells [.nilptr] true false)).put (h3.nx + 1) (.cells [.ptr h3.nx 0] true false))
    (fun j hj => by
     have hjl := hT.lt hj
     refine ⟨by rw [if_neg (by omega), if_neg (by omega), if_neg (by omega)], ?_⟩
     rw [AH.get_put_ne (by omega), AH.get_new_ne (by simp; omega), AH.get_new_ne (by omega)])
    (hT3.top _ (Nat.le_refl _)) ⟨.nilsl, .nilsl, by rw [AH.get_put_ne (by omega), AH.get_new_ne (by simp), AH.get_new_eq rfl], .inl ⟨rfl, rfl⟩, .inl ⟨rfl, rfl⟩, if_pos rfl⟩ (by simp; omega)
    (fun j hj => by
     have hj' : h3.nx + 2 ≤ j := by simpa using hj
     rw [if_neg (by omega), if_neg (by omega), if_neg (by omega)]
     exact hT3.top j (by omega))
    (Wf.grow hT3.wf _ (FilOK.zero _) _)
   have hlen : (tickT (opT T (okP s)).2).files.length < ((tickT (opT T (okP s)).2).files ++ [(⟨[], [], (opT T (okP s)).2.clock + 1⟩ : Fil)]).length := by simp
   have hcl : Clo (fun j => if j = h3.nx then 4 else if j = h3.nx + 1 then 5 else if j = h.nx then 5 else K j) (((h3.new (.cells [.nilsl, .nilsl, .int .u64 (((opT T (okP s)).2.clock + 1 : Nat) : Int)] true false)).new (.cells [.nilptr] true false)).put (h3.nx + 1) (.cells [.ptr h3.nx 0] true false)) (fun j => if j = (tickT (opT T (okP s)).2).files.length then h3.nx else ρ j) (.func (.func 81) [] [.ptr (h3.nx + 1) 0, .ptr h.nx 0]) (.mk s (opT T (okP s)).2.files.length) := by
    refine ⟨h3.nx + 1, h.nx, rfl, ?_, ?_, ?_, ?_⟩
    ·rw [AH.get_put_eq rfl]
     show _ = some (AO.cells [.ptr (if (opT T (okP s)).2.files.length = (opT T (okP s)).2.files.length then h3.nx else _) 0] true false)
     rw [if_pos rfl]
    ·rw [AH.get_put_ne (by omega), AH.get_new_ne (by simp; omega), AH.get_new_ne (by omega), ho3 _ (by omega)]
     exact hcell
    ·simp only [if_neg (show ¬ h3.nx + 1 = h3.nx by omega), if_true]
    ·simp only [if_neg (show ¬ h.nx = h3.nx by omega), if_neg (show ¬ h.nx = h3.nx + 1 by omega), if_true]
   refine callK_of (changeC hS hT4 hcl ⟨hlen, okP_len (opT_ok c1n)⟩ (by show (opT T (okP s)).2.notes.length ≤ _; rw [e1.2.2.2.1]; exact hm.notes)) ?_
   rintro r h5 ⟨rfl, K5, chv5, hT5, gr5, _⟩
   refine ⟨trivial, K5, nm, sm, chv5, _, hT5, Gr.trans (K' := fun j => if j = h3.nx then 4 else if j = h3.nx + 1 then 5 else if j = h.nx then 5 else K j) ⟨?_, fun j hj hk => ⟨?_, ?_⟩⟩ gr5⟩
   ·show h.nx ≤ h3.nx + 1 + 1
    omega
   ·rw [AH.get_put_ne (by omega), AH.get_new_ne (by simp; omega), AH.get_new_ne (by omega), ho3 _ (fun hh => by rw [hh, hT.kp] at hk; cases hk)]
    exact (gr2.get j hj hk).1
   ·simp only [if_neg (show ¬ j = h3.nx by omega), if_neg (show ¬ j = h3.nx + 1 by omega), if_neg (show ¬ j = h.nx by omega), hk]
 ·have c1n : (opT T (okP s)).1 ≠ 0 := by omega
  rw [if_pos c1n]
  simp (maxSteps := 1000000) -dsimp (disch := (repeat first | rw [nxn] | rw [nxp]); try omega) only [go_sem, evLen, c1]
  exact ⟨trivial, K, nm, sm, chv, ρ, hT2, gr2⟩
end
end Go.Proofs.YthkdhdcbhpknnaaGreatDoor.tre
