/- The state of the program's tree: which objects it is made of, and what they hold. Conditions: none. -/
import Derived.Test.YthkdhdcbhpknnaaGreatDoorTCa
namespace Go.Proofs.YthkdhdcbhpknnaaGreatDoor.tre
open Go Go.Abs Go.Proofs
set_option maxRecDepth 100000
set_option linter.unusedVariables false
set_option linter.unusedSimpArgs false

/-- Bytes in an object of their own that nobody changes: kind 5. -/
def By (K : Nat → Nat) (h : AH) (v : AV) (l : List Nat) : Prop :=
 (v = .nilsl ∧ l = []) ∨ ∃ id c cs tx, v = .sl id 0 l.length 1 c ∧ h.get id = some (.cells cs true tx) ∧ id < h.nx ∧ K id = 5 ∧ cs.take l.length = byC l ∧ l.length ≤ cs.length ∧ (c = none ∨ c = some l.length)
theorem By.bs {K : Nat → Nat} {h : AH} {v : AV} {l : List Nat} (hb : By K h v l) : Bs h v l := by
 rcases hb with h1 | ⟨id, c, cs, tx, h1, h2, h3, h4, h5, h6, h7⟩
 ·exact .inl h1
 ·exact (show Bo 0 h v l from ⟨id, c, cs, tx, h1, h2, h3, Nat.zero_le _, h5, h6, h7⟩).bs
theorem By.mono {K K' : Nat → Nat} {h h' : AH} {v : AV} {l : List Nat} (hb : By K h v l) (hk : ∀ j, K j = 5 → K' j = 5 ∧ h'.get j = h.get j) (hn : h.nx ≤ h'.nx) : By K' h' v l := by
 rcases hb with h1 | ⟨id, c, cs, tx, h1, h2, h3, h4, h5⟩
 ·exact .inl h1
 ·exact .inr ⟨id, c, cs, tx, h1, (hk id h4).2.trans h2, Nat.lt_of_lt_of_le h3 hn, (hk id h4).1, h5⟩
theorem Bn.by {n0 : Nat} {K : Nat → Nat} {h : AH} {v : AV} {l : List Nat} (hb : Bn n0 h v l) (hk : ∀ j, n0 ≤ j → j < h.nx → K j = 5) : By K h v l := by
 rcases hb with h1 | ⟨id, c, cs, tx, h1, h2, h3, h4, h5⟩
 ·exact .inl h1
 ·exact .inr ⟨id, c, cs, tx, h1, h2, h3, hk id h4 h3, h5⟩
def fpt (ρ : Nat → Nat) (i : Nat) : AV := .ptr (ρ i) 0
/-- A change of paths that was noted: a function and what it holds. -/
def Clo (K : Nat → Nat) (h : AH) (ρ : Nat → Nat) (v : AV) : Nte → Prop
 | .mk p i => ∃ a b, v = .func (.func 81) [] [.ptr a 0, .ptr b 0] ∧ h.get a = some (.cells [.ptr (ρ i) 0] true false) ∧ h.get b = some (.cells [.str p] true false) ∧ K a = 5 ∧ K b = 5
 | .ren x y => False
 | .rm p => ∃ a, v = .func (.func 88) [] [.ptr a 0] ∧ h.get a = some (.cells [.str p] true false) ∧ K a = 5
theorem Clo.mono {K K' : Nat → Nat} {h h' : AH} {ρ ρ' : Nat → Nat} {n : Nat} {v : AV} (hk : ∀ j, K j = 5 → K' j = 5 ∧ h'.get j = h.get j) (hr : ∀ i, i < n → ρ' i = ρ i) : ∀ {t : Nte}, NteOK n t → Clo K h ρ v t → Clo K' h' ρ' v t
 | .mk p i, hn, ⟨a, b, h1, h2, h3, h4, h5⟩ => ⟨a, b, h1, by rw [hr i hn.1]; exact (hk a h4).2.trans h2, (hk b h5).2.trans h3, (hk a h4).1, (hk b h5).1⟩
 | .ren x y, hn, h => h.elim
 | .rm p, hn, ⟨a, h1, h2, h3⟩ => ⟨a, h1, (hk a h3).2.trans h2, (hk a h3).1⟩
/-- All changes that were noted. -/
def Chs (K : Nat → Nat) (h : AH) (ρ : Nat → Nat) (v : AV) (l : List Nte) : Prop :=
 (v = .nilsl ∧ l = []) ∨ ∃ id cs, v = .sl id 0 l.length 1 none ∧ h.get id = some (.cells cs true false) ∧ id < h.nx ∧ K id = 6 ∧ cs.length = l.length ∧ cs.all oneA = true ∧ ∀ (i : Nat) t, l[i]? = some t → ∃ c, cs[i]? = some c ∧ Clo K h ρ c t
theorem Chs.mono {K K' : Nat → Nat} {h h' : AH} {ρ ρ' : Nat → Nat} {n : Nat} {v : AV} {l : List Nte} (hk : ∀ j, K j = 5 → K' j = 5 ∧ h'.get j = h.get j) (hk6 : ∀ j, K j = 6 → K' j = 6 ∧ h'.get j = h.get j) (hn : h.nx ≤ h'.nx)
  (hr : ∀ i, i < n → ρ' i = ρ i) (hl : ∀ t ∈ l, NteOK n t) (hc : Chs K h ρ v l) : Chs K' h' ρ' v l := by
 rcases hc with h1 | ⟨id, cs, h1, h2, h3, h4, h5, h6, h7⟩
 ·exact .inl h1
 ·refine .inr ⟨id, cs, h1, (hk6 id h4).2.trans h2, Nat.lt_of_lt_of_le h3 hn, (hk6 id h4).1, h5, h6, fun i t ht => ?_⟩
  obtain ⟨c, e1, e2⟩ := h7 i t ht
  exact ⟨c, e1, Clo.mono hk hr (hl t (List.mem_iff_getElem?.2 ⟨i, ht⟩)) e2⟩
theorem Chs.shape {K : Nat → Nat} {h : AH} {ρ : Nat → Nat} {v : AV} {l : List Nte} (hc : Chs K h ρ v l) : (∀ g, evLen Tryz.prog g #[97] v = some (.int .i64 (l.length : Nat))) ∧ sameAV 20 v v = true ∧ oneA v = true := by
 rcases hc with ⟨rfl, rfl⟩ | ⟨id, cs, rfl, _⟩
 ·exact ⟨fun g => by simp [evLen, Tryz.underlying97], rfl, rfl⟩
 ·exact ⟨fun g => by simp [evLen, Tryz.underlying97], by simp [sameAV], rfl⟩
/-- A file. -/
def FilA (K : Nat → Nat) (h : AH) (id : Nat) (f : Fil) : Prop :=
 ∃ bv sv, h.get id = some (.cells [bv, sv, .int .u64 (f.st : Nat)] true false) ∧ By K h bv f.b ∧ By K h sv f.s ∧ K id = 4
theorem FilA.mono {K K' : Nat → Nat} {h h' : AH} {id : Nat} {f : Fil} (hk : ∀ j, K j = 5 → K' j = 5 ∧ h'.get j = h.get j) (hk4 : K' id = 4 ∧ h'.get id = h.get id) (hn : h.nx ≤ h'.nx) (hf : FilA K h id f) : FilA K' h' id f := by
 obtain ⟨bv, sv, h1, h2, h3, h4⟩ := hf
 exact ⟨bv, sv, hk4.2.trans h1, h2.mono hk hn, h3.mono hk hn, hk4.1⟩
/-- The tree at p, its maps, its changes. Kinds of objects: 0 not the tree's, 1 itself, 2 and 3 its maps, 4 files, 5 what nobody changes, 6 the changes' slice. -/
structure Tr (K : Nat → Nat) (p nm sm : Nat) (chv : AV) (ρ : Nat → Nat) (h : AH) (T : TT) : Prop where
 pp : h.get p = some (.cells [.bool true, .int .i64 T.room, .map nm, .map sm, chv, .int .u64 (T.clock : Nat), .bool T.off, .int .i64 T.fuse] true false)
 now : ∃ bs ck, h.get nm = some (.map (enS (mapS (fpt ρ) T.now)) bs ck)
 safe : ∃ bs ck, h.get sm = some (.map (enS (mapS (fpt ρ) T.safe)) bs ck)
 ch : Chs K h ρ chv T.notes
 fl : ∀ i, i < T.files.length → FilA K h (ρ i) (T.fil i)
 inj : ∀ i j, i < T.files.length → j < T.files.length → ρ i = ρ j → i = j
 kp : K p = 1
 kn : K nm = 2
 ks : K sm = 3
 top : ∀ j, h.nx ≤ j → K j = 0
 wf : Wf T
theorem Tr.lt {K p nm sm chv ρ h T} (hT : Tr K p nm sm chv ρ h T) {j : Nat} (hj : K j ≠ 0) : j < h.nx := by
 rcases Nat.lt_or_ge j h.nx with h1 | h1
 ·exact h1
 ·exact absurd (hT.top j h1) hj
/-- What stays of all but the tree's own. -/
structure Gr (K : Nat → Nat) (h : AH) (K' : Nat → Nat) (h' : AH) : Prop where
 nx : h.nx ≤ h'.nx
 get : ∀ j, j < h.nx → K j = 0 → h'.get j = h.get j ∧ K' j = 0
theorem Gr.refl (K : Nat → Nat) (h : AH) : Gr K h K h := ⟨Nat.le_refl _, fun j _ hk => ⟨rfl, hk⟩⟩
theorem Gr.trans {K K' K'' : Nat → Nat} {h h' h'' : AH} (h1 : Gr K h K' h') (h2 : Gr K' h' K'' h'') : Gr K h K'' h'' :=
 ⟨Nat.le_trans h1.nx h2.nx, fun j hj hk => by
  obtain ⟨e1, e2⟩ := h1.get j hj hk
  obtain ⟨e3, e4⟩ := h2.get j (Nat.lt_of_lt_of_le hj h1.nx) e2
  exact ⟨e3.trans e1, e4⟩⟩
theorem frGr {h h' : AH} (hf : Fr h h') (K : Nat → Nat) : Gr K h K h' := ⟨hf.nx, fun j hj hk => ⟨hf.get j hj, hk⟩⟩
/-- The same tree where the heap grows. -/
theorem Tr.mono {K p nm sm chv ρ h T} (hT : Tr K p nm sm chv ρ h T) {h' : AH} (hk : ∀ j, K j ≠ 0 → h'.get j = h.get j) (hn : h.nx ≤ h'.nx) : Tr K p nm sm chv ρ h' T := by
 have k5 : ∀ j, K j = 5 → K j = 5 ∧ h'.get j = h.get j := fun j hj => ⟨hj, hk j (by omega)⟩
 have k6 : ∀ j, K j = 6 → K j = 6 ∧ h'.get j = h.get j := fun j hj => ⟨hj, hk j (by omega)⟩
 obtain ⟨h1, ⟨b2, c2, h2⟩, ⟨b3, c3, h3⟩, h4, h5, h6, h7, h8, h9, h10, h11⟩ := hT
 refine ⟨(hk p (by omega)).trans h1, ⟨b2, c2, (hk nm (by omega)).trans h2⟩, ⟨b3, c3, (hk sm (by omega)).trans h3⟩, h4.mono k5 k6 hn (fun _ _ => rfl) h11.notes, fun i hi => ?_, h6, h7, h8, h9, fun j hj => h10 j (Nat.le_trans hn hj), h11⟩
 obtain ⟨bv, sv, e1, e2, e3, e4⟩ := h5 i hi
 exact ⟨bv, sv, (hk _ (by omega)).trans e1, e2.mono k5 hn, e3.mono k5 hn, e4⟩
theorem Tr.fr {K p nm sm chv ρ h T} (hT : Tr K p nm sm chv ρ h T) {h' : AH} (hf : Fr h h') : Tr K p nm sm chv ρ h' T := hT.mono (fun j hj => hf.get j (hT.lt hj)) hf.nx
/-- The tree's own object is written. -/
theorem Tr.setp {K p nm sm chv ρ h T} (hT : Tr K p nm sm chv ρ h T) {h' : AH} (hk : ∀ j, K j ≠ 0 → j ≠ p → h'.get j = h.get j) (hn : h.nx ≤ h'.nx) {T' : TT} (w : Wf T') (e1 : T'.now = T.now) (e2 : T'.safe = T.safe) (e3 : T'.notes = T.notes) (e4 : T'.files = T.files)
  (hp : h'.get p = some (.cells [.bool true, .int .i64 T'.room, .map nm, .map sm, chv, .int .u64 (T'.clock : Nat), .bool T'.off, .int .i64 T'.fuse] true false)) : Tr K p nm sm chv ρ h' T' := by
 obtain ⟨h1, ⟨b2, c2, h2⟩, ⟨b3, c3, h3⟩, h4, h5, h6, h7, h8, h9, h10, h11⟩ := hT
 have ne : ∀ {j n}, K j = n → n ≠ 0 → n ≠ 1 → h'.get j = h.get j := fun {j n} hj h0 h1 => hk j (by omega) (fun hh => by rw [hh] at hj; omega)
 have k5 : ∀ j, K j = 5 → K j = 5 ∧ h'.get j = h.get j := fun j hj => ⟨hj, ne hj (by omega) (by omega)⟩
 have k6 : ∀ j, K j = 6 → K j = 6 ∧ h'.get j = h.get j := fun j hj => ⟨hj, ne hj (by omega) (by omega)⟩
 refine ⟨hp, ⟨b2, c2, by rw [e1]; exact (ne h8 (by omega) (by omega)).trans h2⟩, ⟨b3, c3, by rw [e2]; exact (ne h9 (by omega) (by omega)).trans h3⟩, by rw [e3]; exact h4.mono k5 k6 hn (fun _ _ => rfl) h11.notes, fun i hi => ?_, by rw [e4]; exact h6, h7, h8, h9, fun j hj => h10 j (Nat.le_trans hn hj), w⟩
 rw [e4] at hi
 obtain ⟨bv, sv, q1, q2, q3, q4⟩ := h5 i hi
 have ef : T'.fil i = T.fil i := by unfold TT.fil; rw [e4]
 rw [ef]
 exact ⟨bv, sv, (ne q4 (by omega) (by omega)).trans q1, q2.mono k5 hn, q3.mono k5 hn, q4⟩
/-- Bounds of a tree that is gone through. -/
structure Sm (T : TT) : Prop where
 clock : T.clock < 1152921504606846976
 now : T.now.length ≤ 16384
 safe : T.safe.length ≤ 16384
 notes : T.notes.length ≤ 1048576
theorem sv_int (k : IntKind) (n : Int) : sameAV 20 (.int k n) (.int k n) = true := by simp [sameAV]
theorem sv_bool (b : Bool) : sameAV 20 (.bool b) (.bool b) = true := by simp [sameAV]
theorem z62 : (tzero Tryz.prog 108).map toAV = some .nilptr := by kernel_rfl
theorem nilP (h : AH) : binA Tryz.prog h .eql 108 .nilptr .nilptr = some (.bool true) := by kernel_rfl
theorem nilQ (h : AH) (a : Nat) : binA Tryz.prog h .eql 108 (.ptr a 0) .nilptr = some (.bool false) := by kernel_rfl
theorem nilP' (h : AH) : binA Tryz.prog h .neq 108 .nilptr .nilptr = some (.bool false) := by kernel_rfl
theorem nilQ' (h : AH) (a : Nat) : binA Tryz.prog h .neq 108 (.ptr a 0) .nilptr = some (.bool true) := by kernel_rfl
theorem neT (h : AH) (a : Nat) : binA Tryz.prog h .neq 46 (.ptr a 0) .nilptr = some (.bool true) := by kernel_rfl
/-- A path looked up. -/
theorem lookN {h : AH} {m : Nat} {ρ : Nat → Nat} {E : Ixs} (hm : ∃ bs ck, h.get m = some (.map (enS (mapS (fpt ρ) E)) bs ck)) (k : Pth) : evLookup Tryz.prog h 96 (.map m) (.str k) false = some (match valS E k with | some i => .ptr (ρ i) 0 | none => .nilptr) := by
 obtain ⟨bs, ck, hm⟩ := hm
 have := (lookS Tryz.underlying96 Tryz.underlying9 z62 hm k).1
 rw [mapS_val] at this
 rw [this]
 cases valS E k <;> rfl
theorem u64_id {n : Int} (h1 : 0 ≤ n) (h2 : n < 18446744073709551616) : IntKind.u64.wrap n = n := by
 have e : IntKind.u64.wrap n = n.emod 18446744073709551616 := rfl
 rw [e]
 exact Int.emod_eq_of_lt h1 h2
section
variable {S : Sums}
theorem madeC (hS : St S) {h : AH} {p : Nat} {cs : List AV} (hp : h.get p = some (.cells (.bool true :: cs) true false)) (hc : cs.length = 7) : RnC Tryz.prog S 67 [.ptr p 0] h fun r h' => r = .bool true ∧ h' = h := by
 obtain ⟨a, b, c, d, e, f, g, rfl⟩ : ∃ a b c d e f g, cs = [a, b, c, d, e, f, g] := by
  match cs, hc with
  | [a, b, c, d, e, f, g], _ => exact ⟨a, b, c, d, e, f, g, rfl⟩
 refine RnC.enter' Tryz.f67 _ 11 [.tmp 2] (hS.nt _ _ _ (by simp)) bd67 Tryz.func67 rfl rfl rfl ?_
 simp (maxSteps := 1000000) -dsimp (disch := (repeat first | rw [nxn] | rw [nxp]); try omega) only [go_sem, evLen, neT, hp]
 exact ⟨trivial, trivial⟩
theorem Tr.made {K p nm sm chv ρ h T} (hT : Tr K p nm sm chv ρ h T) (hS : St S) : RnC Tryz.prog S 67 [.ptr p 0] h fun r h' => r = .bool true ∧ h' = h := madeC hS hT.pp rfl
theorem tickC (hS : St S) {K p nm sm chv ρ h T} (hT : Tr K p nm sm chv ρ h T) (hm : T.clock < 1152921504606846976) : RnC Tryz.prog S 70 [.ptr p 0] h fun r h' => r = .int .u64 ((T.clock + 1 : Nat) : Int) ∧ Tr K p nm sm chv ρ h' (tickT T) ∧ h'.nx = h.nx ∧ ∀ j, j ≠ p → h'.get j = h.get j := by
 refine RnC.enter' Tryz.f70 _ 14 [.tmp 2] (hS.nt _ _ _ (by simp)) bd70 Tryz.func70 rfl rfl rfl ?_
 have hp := hT.pp
 have hw : IntKind.u64.wrap (((T.clock : Nat) : Int) + 1) = ((T.clock + 1 : Nat) : Int) := by rw [u64_id (by omega) (by omega)]; omega
 simp (maxSteps := 1000000) -dsimp (disch := (repeat first | rw [nxn] | rw [nxp]); try omega) only [go_sem, evLen, hp, hw]
 refine ⟨trivial, hT.setp (fun j _ hj => AH.get_put_ne hj) (Nat.le_refl _) hT.wf.tick rfl rfl rfl rfl (AH.get_put_eq rfl), trivial, fun j hj => AH.get_put_ne hj⟩
end
end Go.Proofs.YthkdhdcbhpknnaaGreatDoor.tre
