/- Temporary files of a tree: laid, told, cleaned. Conditions: those of its summaries. -/
import Derived.Test.YthkdhdcbhpknnaaGreatDoorTLa
import Derived.Test.YthkdhdcbhpknnaaGreatDoorAb7
namespace Go.Proofs.YthkdhdcbhpknnaaGreatDoor.tre
open Go Go.Abs Go.Abs.Wal Go.Proofs
set_option maxRecDepth 100000
set_option linter.unusedVariables false
set_option linter.unusedSimpArgs false

theorem Bm.sm {n c : Nat} {T : TT} (h : Bm n c T) (hn : n ≤ 16384) (hc : c < 1152921504606846976) : Sm T := by
 have := h.now; have := h.sn; have := h.clock
 exact ⟨by omega, by omega, by omega, by omega⟩
theorem resTr {K K' : Nat → Nat} {p : Nat} {h h' h'' : AH} {T : TT} (g : Gr K h K' h') (r : Res K' p h' h'' T) : Res K p h h'' T := by
 obtain ⟨K2, nm, sm, chv, ρ, hT, g2⟩ := r
 exact ⟨K2, nm, sm, chv, ρ, hT, g.trans g2⟩
theorem Bz.bp {K : Nat → Nat} {h : AH} {v : AV} {l : List Nat} {p : Nat} (hb : Bz K h v l) (hk : K p ≠ 0) : Bp p h v l := ⟨hb.1, fun id off n z c hh => fun he => hk (he ▸ hb.2 id off n z c hh)⟩
theorem okP_tmp {p : Pth} (h : checkS p = 0) : okP (tmpS ++ p) = true := by
 have : tempedS (tmpS ++ p) = true := by
  unfold tempedS preS
  have e1 : (tmpS ++ p).take tmpS.length = tmpS := by simp
  have e2 : (tmpS ++ p).drop 5 = p := by simp [tmpS]
  rw [e1, e2, h]
  rfl
 unfold okP
 rw [this, Bool.or_true]
theorem chk_len {p : Pth} (h : checkS p = 0) : p.length ≤ 64 := by
 unfold checkS at h
 split at h
 ·cases h
 ·omega
def layL (q : Pth) (b : List Nat) : List (TT → Nat × TT) := [fun T => makeT T true q, fun T => putT T true q fun _ => b, fun T => syncT T true q]
/-- A temporary file laid. -/
def layT (s : Pth) (b : List Nat) (T : TT) : (Pth × Nat) × TT :=
 if checkS s ≠ 0 then (([], checkS s), T) else
 if (remT (tmpS ++ s) T).1 ≠ 0 then (([], (remT (tmpS ++ s) T).1), (remT (tmpS ++ s) T).2) else
 if (stepsT (layL (tmpS ++ s) b) (remT (tmpS ++ s) T).2).1 ≠ 0 then (([], (stepsT (layL (tmpS ++ s) b) (remT (tmpS ++ s) T).2).1), (stepsT (layL (tmpS ++ s) b) (remT (tmpS ++ s) T).2).2) else
 ((tmpS ++ s, 0), (stepsT (layL (tmpS ++ s) b) (remT (tmpS ++ s) T).2).2)
theorem lay_bm (q : Pth) (b : List Nat) : ∀ f ∈ layL q b, ∀ n c T, Bm n c T → Bm (n + 1) (c + 1) (f T).2 := by
 intro f hf n c T h
 simp only [layL, List.mem_cons, List.not_mem_nil, or_false] at hf
 rcases hf with rfl | rfl | rfl
 ·exact h.make _ _
 ·exact (h.put _ _ _).mono (Nat.le_succ _) (Nat.le_refl _)
 ·exact (h.sync _ _).mono (Nat.le_succ _) (Nat.le_succ _)
/-- What a seat of temporary files asks. -/
structure Tw (S : Sums) : Prop extends St S where
 nx : ∀ f args h, f ∈ [16, 18, 20, 54, 55, 56, 58, 65, 52, 64, 105, 35] → S f args h = none
theorem eqTn (h : AH) (a : Nat) : binA Tryz.prog h .eql 46 (.ptr a 0) .nilptr = some (.bool false) := by kernel_rfl
section
variable {S : Sums}
theorem tempC (hS : Tw S) {h : AH} {s : Pth} : RnC Tryz.prog S 52 [.str s] h fun r h' => r = (if checkS s = 0 then .tup [.str (tmpS ++ s), .int .i64 0] else .tup [.str [], .int .i64 (checkS s : Nat)]) ∧ Fr h h' := by
 refine RnC.enter' Tryz.f52 _ 12 [.tmp 2, .tmp 3] (hS.nx _ _ _ (by simp)) bd52 Tryz.func52 rfl rfl rfl ?_
 simp (maxSteps := 1000000) -dsimp (disch := (repeat first | rw [nxn] | rw [nxp]); try omega) only [go_sem, evLen]
 refine callK_of (checkC hS.toSp) ?_
 rintro r h2 ⟨rfl, f2⟩
 by_cases c : ((checkS s : Nat) : Int) = 0
 ·have hs : checkS s = 0 := by omega
  have hl := chk_len hs
  rw [if_pos hs]
  have add : ∀ (g : AH) (x : List Nat), x = tmpS → binA Tryz.prog g .add 9 (.str x) (.str s) = some (.str (tmpS ++ s)) := fun g x hx => by
   subst hx
   have : ¬ (((tmpS.length + s.length : Nat) : Int) > IntKind.i64.max) := by
    have h5 : tmpS.length = 5 := rfl
    have hm : IntKind.i64.max = 9223372036854775807 := rfl
    rw [h5, hm]; omega
   simp only [binA, strA, if_neg this]
  have tm : bytesOf { data := #[46, 116, 109, 112, 47] } = tmpS := by decide +kernel
  have add2 := fun g => add g _ tm
  simp (maxSteps := 1000000) -dsimp (disch := (repeat first | rw [nxn] | rw [nxp]); try omega) only [go_sem, evLen, hs, add2]
  exact ⟨trivial, f2⟩
 ·rw [if_neg (by omega)]
  have b0 : bytesOf { data := #[] } = [] := rfl
  simp (maxSteps := 1000000) -dsimp (disch := (repeat first | rw [nxn] | rw [nxp]); try omega) only [go_sem, evLen, c, b0]
  exact ⟨trivial, f2⟩
/-- What the steps of laying hold. -/
structure La (K : Nat → Nat) (p : Nat) (h0 : AH) (a d e : Nat) (q : Pth) (bv : AV) (b : List Nat) : Prop where
 qa : h0.get a = some (.cells [.ptr p 0] true false)
 qd : h0.get d = some (.cells [.str q] true false)
 qe : h0.get e = some (.cells [bv] true false)
 ka : a < h0.nx ∧ K a = 0
 kd : d < h0.nx ∧ K d = 0
 ke : e < h0.nx ∧ K e = 0
 qb : Bz K h0 bv b
 qp : p < h0.nx ∧ K p = 1
theorem La.gr {K K' : Nat → Nat} {p : Nat} {h0 h : AH} {a d e : Nat} {q : Pth} {bv : AV} {b : List Nat} (H : La K p h0 a d e q bv b) (g : Gr K h0 K' h) (hp : K' p = 1) : La K' p h a d e q bv b :=
 ⟨(g.get _ H.ka.1 H.ka.2).1.trans H.qa, (g.get _ H.kd.1 H.kd.2).1.trans H.qd, (g.get _ H.ke.1 H.ke.2).1.trans H.qe, ⟨Nat.lt_of_lt_of_le H.ka.1 g.nx, (g.get _ H.ka.1 H.ka.2).2⟩, ⟨Nat.lt_of_lt_of_le H.kd.1 g.nx, (g.get _ H.kd.1 H.kd.2).2⟩, ⟨Nat.lt_of_lt_of_le H.ke.1 g.nx, (g.get _ H.ke.1 H.ke.2).2⟩, H.qb.gr g, ⟨Nat.lt_of_lt_of_le H.qp.1 g.nx, hp⟩⟩
section
variable {K : Nat → Nat} {p : Nat} {h0 h : AH} {a d e : Nat} {q : Pth} {bv : AV} {b : List Nat} {T : TT}
theorem lay1C (hS : Tw S) (H : La K p h0 a d e q bv b) (hq : okP q = true) (hr : Res K p h0 h T) (hm : Sm T) : RnC Tryz.prog S 55 [.ptr a 0, .ptr d 0] h fun r h' => r = .int .i64 ((makeT T true q).1 : Nat) ∧ Res K p h0 h' (makeT T true q).2 := by
 obtain ⟨K', nm, sm, chv, ρ, hT, gr⟩ := hr
 have H2 := H.gr gr hT.kp
 have ha := H2.qa; have hd := H2.qd
 refine RnC.enter' Tryz.f55 _ 6 [.tmp 2] (hS.nx _ _ _ (by simp)) bd55 Tryz.func55 rfl rfl rfl ?_
 simp (maxSteps := 1000000) -dsimp (disch := (repeat first | rw [nxn] | rw [nxp]); try omega) only [go_sem, evLen, ha, hd]
 refine callK_of (makeC hS.toSt hT hm q) ?_
 rw [hq]
 rintro r h4 ⟨rfl, hr4⟩
 simp (maxSteps := 1000000) -dsimp (disch := (repeat first | rw [nxn] | rw [nxp]); try omega) only [go_sem, evLen]
 exact ⟨trivial, resTr gr hr4⟩
theorem lay2C (hS : Tw S) (H : La K p h0 a d e q bv b) (hq : okP q = true) (hb : ∀ x ∈ b, x < 256) (hbl : b.length ≤ 67108864) (hr : Res K p h0 h T) (hm : Sm T) : RnC Tryz.prog S 56 [.ptr a 0, .ptr d 0, .ptr e 0] h fun r h' => r = .int .i64 ((putT T true q fun _ => b).1 : Nat) ∧ Res K p h0 h' (putT T true q fun _ => b).2 := by
 obtain ⟨K', nm, sm, chv, ρ, hT, gr⟩ := hr
 have H2 := H.gr gr hT.kp
 have ha := H2.qa; have hd := H2.qd; have he := H2.qe
 have ob := (bsLn H2.qb.1).2.2
 refine RnC.enter' Tryz.f56 _ 8 [.tmp 3] (hS.nx _ _ _ (by simp)) bd56 Tryz.func56 rfl rfl rfl ?_
 simp (maxSteps := 1000000) -dsimp (disch := (repeat first | rw [nxn] | rw [nxp]); try omega) only [go_sem, evLen, ha, hd, he, ob]
 refine callK_of (writeC hS.toSt hT hm q (H2.qb.bp (by rw [hT.kp]; decide)) hb hbl) ?_
 rw [hq]
 rintro r h4 ⟨rfl, hr4⟩
 simp (maxSteps := 1000000) -dsimp (disch := (repeat first | rw [nxn] | rw [nxp]); try omega) only [go_sem, evLen]
 exact ⟨trivial, resTr gr hr4⟩
theorem lay3C (hS : Tw S) (H : La K p h0 a d e q bv b) (hq : okP q = true) (hr : Res K p h0 h T) : RnC Tryz.prog S 58 [.ptr a 0, .ptr d 0] h fun r h' => r = .int .i64 ((syncT T true q).1 : Nat) ∧ Res K p h0 h' (syncT T true q).2 := by
 obtain ⟨K', nm, sm, chv, ρ, hT, gr⟩ := hr
 have H2 := H.gr gr hT.kp
 have ha := H2.qa; have hd := H2.qd
 refine RnC.enter' Tryz.f58 _ 6 [.tmp 2] (hS.nx _ _ _ (by simp)) bd58 Tryz.func58 rfl rfl rfl ?_
 simp (maxSteps := 1000000) -dsimp (disch := (repeat first | rw [nxn] | rw [nxp]); try omega) only [go_sem, evLen, ha, hd]
 refine callK_of (syncC hS.toSt hT q) ?_
 rw [hq]
 rintro r h4 ⟨rfl, hr4⟩
 simp (maxSteps := 1000000) -dsimp (disch := (repeat first | rw [nxn] | rw [nxp]); try omega) only [go_sem, evLen]
 exact ⟨trivial, resTr gr hr4⟩
end
set_option maxHeartbeats 4000000 in
theorem stepsC (hS : Tw S) {K : Nat → Nat} {p : Nat} {h0 : AH} {nb cb : Nat} {cl : List AV} {fs : List (TT → Nat × TT)} {id : Nat} {c : Option Nat} {o tx : Bool} (hg : h0.get id = some (.cells cl o tx)) (hid : id < h0.nx) (kid : K id = 0) (hlen : cl.length = fs.length) (hl : fs.length ≤ 16)
  (hbm : ∀ f ∈ fs, ∀ n c T, Bm n c T → Bm (n + 1) (c + 1) (f T).2)
  (hst : ∀ (i : Nat) f v, fs[i]? = some f → cl[i]? = some v → ∃ fn b cs, v = .func (.func fn) b cs ∧ bodied Tryz.prog fn = true ∧ ∀ h T, Res K p h0 h T → Bm (nb + fs.length) (cb + fs.length) T → RnC Tryz.prog S fn (b ++ cs) h fun r h' => r = .int .i64 ((f T).1 : Nat) ∧ Res K p h0 h' (f T).2)
  {T : TT} (hT : Res K p h0 h0 T) (hb : Bm nb cb T) :
  RnC Tryz.prog S 54 [.sl id 0 fs.length 1 c] h0 fun r h' => r = .int .i64 ((stepsT fs T).1 : Nat) ∧ Res K p h0 h' (stepsT fs T).2 := by
 refine RnC.enter' Tryz.f54 _ 18 [.tmp 2] (hS.nx _ _ _ (by simp)) bd54 Tryz.func54 rfl rfl rfl ?_
 simp (maxSteps := 1000000) -dsimp (disch := (repeat first | rw [nxn] | rw [nxp]); try omega) only [go_sem, evLen]
 refine loopK_of (RnL.rounds (Q := fun ex u => u.d = [] ∧ Res K p h0 u.h (stepsT fs T).2 ∧ (ex = .exit 0 ∧ (stepsT fs T).1 = 0 ∨ ex = .ret ∧ u.t.get 2 = some (.int .i64 ((stepsT fs T).1 : Nat))))
  (fun m u => u.d = [] ∧ u.t.get 6 = some (.sl id 0 fs.length 1 c) ∧ u.t.get 7 = some (.int .i64 (fs.length : Nat)) ∧ ∃ (i : Nat) (Ti : TT), u.t.get 8 = some (.int .i64 (i : Nat)) ∧ Res K p h0 u.h Ti ∧ Bm (nb + i) (cb + i) Ti ∧ stepsT fs T = stepsT (fs.drop i) Ti ∧ i ≤ fs.length ∧ m = fs.length - i) ?_ fs.length ?_) ?_
 ·rintro m ⟨t, g, d⟩ ⟨e2, g6, g7, i, Ti, g8, hr, hbi, he, hi, rfl⟩
  dsimp only at e2 g6 g7 g8 hr
  subst e2
  by_cases c1 : (i : Int) < (fs.length : Nat)
  ·have hil : i < fs.length := by omega
   obtain ⟨f, hf⟩ : ∃ f, fs[i]? = some f := ⟨_, List.getElem?_eq_getElem hil⟩
   obtain ⟨v, hv⟩ : ∃ v, cl[i]? = some v := ⟨_, List.getElem?_eq_getElem (by omega)⟩
   obtain ⟨fn, b, cs, rfl, hbd, hc⟩ := hst i f v hf hv
   have hdr : fs.drop i = f :: fs.drop (i + 1) := by rw [List.drop_eq_getElem_cons hil, (List.getElem?_eq_some_iff.1 hf).2]
   have hg2 : g.get id = some (.cells cl o tx) := by
    obtain ⟨K', nm, sm, chv, ρ, hT', gr⟩ := hr
    exact (gr.get id hid kid).1.trans hg
   simp (maxSteps := 1000000) -dsimp (disch := (repeat first | rw [nxn] | rw [nxp]); try omega) only [go_sem, evLen, c1, g6, g7, g8, hil, hg2, hv, hbd, Nat.mul_one]
   refine callK_of (hc g Ti hr (hbi.mono (by omega) (by omega))) ?_
   rintro r h2 ⟨rfl, hr2⟩
   have hb2 := hbm f (List.mem_of_getElem? hf) _ _ _ hbi
   have he2 : stepsT (f :: fs.drop (i + 1)) Ti = if (f Ti).1 ≠ 0 then f Ti else stepsT (fs.drop (i + 1)) (f Ti).2 := rfl
   rw [hdr, he2] at he
   by_cases c2 : (((f Ti).1 : Nat) : Int) = 0
   ·rw [if_neg (by omega)] at he
    simp (maxSteps := 1000000) -dsimp (disch := (repeat first | rw [nxn] | rw [nxp]); try omega) only [go_sem, evLen, c1, c2, g6, g7, g8]
    exact ⟨fs.length - (i + 1), by omega, trivial, trivial, trivial, i + 1, _, rfl, hr2, hb2.mono (by omega) (by omega), he, by omega, rfl⟩
   ·rw [if_pos (by omega)] at he
    simp (maxSteps := 1000000) -dsimp (disch := (repeat first | rw [nxn] | rw [nxp]); try omega) only [go_sem, evLen, c1, c2, g6, g7, g8]
    rw [he]
    exact ⟨trivial, hr2, .inr ⟨trivial, rfl⟩⟩
  ·have : i = fs.length := by omega
   subst this
   rw [List.drop_length] at he
   simp (maxSteps := 1000000) -dsimp (disch := (repeat first | rw [nxn] | rw [nxp]); try omega) only [go_sem, evLen, c1, g6, g7, g8]
   rw [he]
   exact ⟨trivial, hr, .inl ⟨trivial, rfl⟩⟩
 ·simp (maxSteps := 1000000) -dsimp (disch := (repeat first | rw [nxn] | rw [nxp]); try omega) only [go_sem, evLen]
  exact ⟨trivial, trivial, trivial, 0, T, rfl, hT, hb, rfl, Nat.zero_le _, rfl⟩
 ·rintro ex ⟨t, g, d⟩ ⟨rfl, hr, ⟨rfl, e0⟩ | ⟨rfl, g2⟩⟩
  ·dsimp only at hr
   simp (maxSteps := 1000000) -dsimp (disch := (repeat first | rw [nxn] | rw [nxp]); try omega) only [go_sem, evLen]
   exact ⟨by rw [e0]; rfl, hr⟩
  ·dsimp only at hr g2
   simp (maxSteps := 1000000) -dsimp (disch := (repeat first | rw [nxn] | rw [nxp]); try omega) only [go_sem, evLen, g2]
   exact ⟨trivial, hr⟩
set_option maxHeartbeats 8000000 in
theorem layC (hS : Tw S) {K p nm sm chv ρ h T} (hT : Tr K p nm sm chv ρ h T) {n c : Nat} (hb : Bm n c T) (hn : n ≤ 16000) (hc : c < 1152921504606000000) {s : Pth} {bv : AV} {b : List Nat} (hbz : Bz K h bv b) (hby : ∀ x ∈ b, x < 256) (hbl : b.length ≤ 67108864) :
  RnC Tryz.prog S 16 [.ptr p 0, .str s, bv] h fun r h' => r = .tup [.str (layT s b T).1.1, .int .i64 ((layT s b T).1.2 : Nat)] ∧ Res K p h h' (layT s b T).2 := by
 refine RnC.enter' Tryz.f16 _ 45 [.tmp 6, .tmp 7] (hS.nx _ _ _ (by simp)) bd16 Tryz.func16 rfl rfl rfl ?_
 have ob := (bsLn hbz.1).2.2
 have cb := bsCells hbz.1
 have hpl : p < h.nx := hT.lt (by rw [hT.kp]; decide)
 have b0 : bytesOf { data := #[] } = [] := rfl
 have ha1 : ∀ (o1 o2 : AO), ((h.new o1).new o2).get h.nx = some o1 := fun o1 o2 => (AH.get_new_ne (by simp)).trans (AH.get_new_eq rfl)
 simp (maxSteps := 1000000) -dsimp (disch := (repeat first | rw [nxn] | rw [nxp]); try omega) only [go_sem, ob, cb, ha1, eqTn, b0]
 have f1 : Fr h ((h.new (.cells [.ptr p 0] true false)).new (.cells [bv] true false)) := (Fr.new _ _).news _
 refine callK_of (tempC hS) ?_
 rintro r g ⟨hr, fg⟩
 have f2 := f1.trans fg
 have ag : g.get h.nx = some (.cells [.ptr p 0] true false) := (fg.get _ (by simp; omega)).trans (ha1 _ _)
 have eg : g.get (h.nx + 1) = some (.cells [bv] true false) := (fg.get _ (by simp)).trans (AH.get_new_eq rfl)
 have ng : h.nx + 2 ≤ g.nx := fg.nx
 unfold layT
 by_cases cs : checkS s = 0
 ·rw [if_pos cs] at hr
  subst hr
  rw [if_neg (by omega)]
  have oq := okP_tmp cs
  generalize tmpS ++ s = q at oq ⊢
  have agn : ∀ (o o' : AO), ((g.new o).put g.nx o').get h.nx = some (.cells [.ptr p 0] true false) := fun o o' => (AH.get_put_ne (by omega)).trans ((AH.get_new_ne (by omega)).trans ag)
  simp (maxSteps := 1000000) -dsimp (disch := (repeat first | rw [nxn] | rw [nxp]); try omega) only [go_sem, agn]
  generalize hg3 : ((g.new (.cells [.str []] true false)).put g.nx (.cells [.str q] true false)) = g3
  have n3 : g3.nx = g.nx + 1 := by rw [← hg3]; rfl
  have f3 : Fr h g3 := by
   rw [← hg3]
   exact ⟨by show h.nx ≤ g.nx + 1; omega, fun j hj => (AH.get_put_ne (by omega)).trans ((AH.get_new_ne (by omega)).trans (f2.get j hj))⟩
  have agl : g3.get h.nx = some (.cells [.ptr p 0] true false) := by rw [← hg3]; exact agn _ _
  have dgl : g3.get g.nx = some (.cells [.str q] true false) := by rw [← hg3]; exact AH.get_put_eq rfl
  have egl : g3.get (h.nx + 1) = some (.cells [bv] true false) := by rw [← hg3]; exact (AH.get_put_ne (by omega)).trans ((AH.get_new_ne (by omega)).trans eg)
  have H3 : La K p g3 h.nx g.nx (h.nx + 1) q bv b :=
   ⟨agl, dgl, egl, ⟨by omega, hT.top _ (Nat.le_refl _)⟩, ⟨by omega, hT.top _ (by omega)⟩, ⟨by omega, hT.top _ (by omega)⟩, hbz.gr (frGr f3 K), ⟨by omega, hT.kp⟩⟩
  have hT3 := hT.fr f3
  have smT := Bm.sm hb (by omega) (by omega)
  try simp (maxSteps := 1000000) -dsimp (disch := (repeat first | rw [nxn] | rw [nxp]); try omega) only [go_sem, agl, dgl]
  refine callK_of (statC hS.toSt hT3 q) ?_
  rintro r g4 ⟨rfl, f4⟩
  have H4 := H3.gr (frGr f4 K) hT.kp
  have hT4 := hT3.fr f4
  have a4 := H4.qa; have d4 := H4.qd
  have g04 : Gr K h K g4 := frGr (f3.trans f4) K
  have hbr := hb.rem q
  cases hst : (statT T q).2.2
  ·have er : remT q T = (0, T) := by unfold remT; rw [if_neg (by rw [hst]; decide)]
   have er1 : (remT q T).1 = 0 := by rw [er]
   have er2 : (remT q T).2 = T := by rw [er]
   rw [er1, er2, if_neg (fun hh => hh rfl)]
   have hb1 := hb.mono (Nat.le_succ n) (Nat.le_succ c)
   have c00 : True := trivial
   have ha5 := H4.qa
   have hd5 := H4.qd
   have n5 : g.nx < g4.nx := H4.kd.1
   simp (maxSteps := 1000000) -dsimp (disch := (repeat first | rw [nxn] | rw [nxp]); try omega) only [go_sem, ha5, hd5, c00]
   refine callK_of (stepsC hS (K := K) (p := p) (nb := n + 1) (cb := c + 1) (cl := [.func (.func 55) [] [.ptr h.nx 0, .ptr g.nx 0], .func (.func 56) [] [.ptr h.nx 0, .ptr g.nx 0, .ptr (h.nx + 1) 0], .func (.func 58) [] [.ptr h.nx 0, .ptr g.nx 0]]) (fs := layL q b) (AH.get_new_eq rfl) (Nat.lt_succ_self _) (hT4.top _ (Nat.le_refl _)) rfl (by simp [layL]) (lay_bm q b) ?_ (T := T) ⟨K, _, _, _, _, hT4.fr (Fr.new _ _), Gr.refl _ _⟩ hb1) ?_
   ·intro i f v hf hv
    have sm : ∀ {T : TT}, Bm (n + 1 + 3) (c + 1 + 3) T → Sm T := fun hh => Bm.sm hh (by omega) (by omega)
    match i, hf, hv with
    | 0, hf, hv => cases hf; cases hv; exact ⟨_, _, _, rfl, bd55, fun h T hr hb => lay1C hS (H4.gr (frGr (Fr.new _ _) K) hT4.kp) oq hr (sm hb)⟩
    | 1, hf, hv => cases hf; cases hv; exact ⟨_, _, _, rfl, bd56, fun h T hr hb => lay2C hS (H4.gr (frGr (Fr.new _ _) K) hT4.kp) oq hby hbl hr (sm hb)⟩
    | 2, hf, hv => cases hf; cases hv; exact ⟨_, _, _, rfl, bd58, fun h T hr hb => lay3C hS (H4.gr (frGr (Fr.new _ _) K) hT4.kp) oq hr⟩
    | i + 3, hf, hv => simp [layL] at hf
   rintro r h6 ⟨rfl, K6, nm6, sm6, ch6, ρ6, hT6, gr6⟩
   have d6 := ((H4.gr (frGr (Fr.new _ _) K) hT4.kp).gr gr6 hT6.kp).qd
   have gg6 := (g04.trans (frGr (Fr.new _ _) K)).trans gr6
   by_cases ce : (((stepsT (layL q b) T).1 : Nat) : Int) = 0
   ·rw [if_neg (by omega)]
    simp (maxSteps := 1000000) -dsimp (disch := (repeat first | rw [nxn] | rw [nxp]); try omega) only [go_sem, ce, d6]
    exact ⟨by first | trivial | rfl, K6, nm6, sm6, ch6, ρ6, hT6, gg6⟩
   ·rw [if_pos (by omega)]
    simp (maxSteps := 1000000) -dsimp (disch := (repeat first | rw [nxn] | rw [nxp]); try omega) only [go_sem, ce, b0]
    exact ⟨by first | trivial | rfl, K6, nm6, sm6, ch6, ρ6, hT6, gg6⟩
  ·have er : remT q T = rmT T true q := by unfold remT; rw [if_pos hst]
   rw [er]
   rw [er] at hbr
   simp (maxSteps := 1000000) -dsimp (disch := (repeat first | rw [nxn] | rw [nxp]); try omega) only [go_sem, a4, d4]
   refine callK_of (rmC hS.toSt hT4 smT q) ?_
   rw [oq]
   rintro r g5 ⟨rfl, K5, nm5, sm5, ch5, ρ5, hT5, gr5⟩
   generalize rmT T true q = R at hT5 hbr ⊢
   obtain ⟨e5, T5⟩ := R
   dsimp only at hT5 hbr ⊢
   have hb5 : Bm (n + 1) (c + 1) T5 := hbr
   have H5 := H4.gr gr5 hT5.kp
   have gg5 := g04.trans gr5
   by_cases c5 : ((e5 : Nat) : Int) = 0
   ·rw [if_neg (by omega)]
    have ha5 := H5.qa
    have hd5 := H5.qd
    have n5 : g.nx < g5.nx := H5.kd.1
    simp (maxSteps := 1000000) -dsimp (disch := (repeat first | rw [nxn] | rw [nxp]); try omega) only [go_sem, ha5, hd5, c5]
    refine callK_of (stepsC hS (K := K5) (p := p) (nb := n + 1) (cb := c + 1) (cl := [.func (.func 55) [] [.ptr h.nx 0, .ptr g.nx 0], .func (.func 56) [] [.ptr h.nx 0, .ptr g.nx 0, .ptr (h.nx + 1) 0], .func (.func 58) [] [.ptr h.nx 0, .ptr g.nx 0]]) (fs := layL q b) (AH.get_new_eq rfl) (Nat.lt_succ_self _) (hT5.top _ (Nat.le_refl _)) rfl (by simp [layL]) (lay_bm q b) ?_ (T := T5) ⟨K5, _, _, _, _, hT5.fr (Fr.new _ _), Gr.refl _ _⟩ hb5) ?_
    ·intro i f v hf hv
     have sm : ∀ {T : TT}, Bm (n + 1 + 3) (c + 1 + 3) T → Sm T := fun hh => Bm.sm hh (by omega) (by omega)
     match i, hf, hv with
     | 0, hf, hv => cases hf; cases hv; exact ⟨_, _, _, rfl, bd55, fun h T hr hb => lay1C hS (H5.gr (frGr (Fr.new _ _) K5) hT5.kp) oq hr (sm hb)⟩
     | 1, hf, hv => cases hf; cases hv; exact ⟨_, _, _, rfl, bd56, fun h T hr hb => lay2C hS (H5.gr (frGr (Fr.new _ _) K5) hT5.kp) oq hby hbl hr (sm hb)⟩
     | 2, hf, hv => cases hf; cases hv; exact ⟨_, _, _, rfl, bd58, fun h T hr hb => lay3C hS (H5.gr (frGr (Fr.new _ _) K5) hT5.kp) oq hr⟩
     | i + 3, hf, hv => simp [layL] at hf
    rintro r h6 ⟨rfl, K6, nm6, sm6, ch6, ρ6, hT6, gr6⟩
    have d6 := ((H5.gr (frGr (Fr.new _ _) K5) hT5.kp).gr gr6 hT6.kp).qd
    have gg6 := (gg5.trans (frGr (Fr.new _ _) K5)).trans gr6
    by_cases ce : (((stepsT (layL q b) T5).1 : Nat) : Int) = 0
    ·rw [if_neg (by omega)]
     simp (maxSteps := 1000000) -dsimp (disch := (repeat first | rw [nxn] | rw [nxp]); try omega) only [go_sem, ce, d6]
     exact ⟨by first | trivial | rfl, K6, nm6, sm6, ch6, ρ6, hT6, gg6⟩
    ·rw [if_pos (by omega)]
     simp (maxSteps := 1000000) -dsimp (disch := (repeat first | rw [nxn] | rw [nxp]); try omega) only [go_sem, ce, b0]
     exact ⟨by first | trivial | rfl, K6, nm6, sm6, ch6, ρ6, hT6, gg6⟩
   ·rw [if_pos (by omega)]
    simp (maxSteps := 1000000) -dsimp (disch := (repeat first | rw [nxn] | rw [nxp]); try omega) only [go_sem, c5, b0]
    exact ⟨by first | trivial | rfl, K5, nm5, sm5, ch5, ρ5, hT5, gg5⟩
 ·rw [if_neg cs] at hr
  subst hr
  rw [if_pos cs]
  have cs' : ¬ ((checkS s : Nat) : Int) = 0 := by omega
  simp (maxSteps := 1000000) -dsimp (disch := (repeat first | rw [nxn] | rw [nxp]); try omega) only [go_sem, cs', b0]
  exact ⟨trivial, K, nm, sm, chv, ρ, hT.fr (f2.trans ((Fr.new _ _).put _ (Nat.le_refl _))), frGr (f2.trans ((Fr.new _ _).put _ (Nat.le_refl _))) K⟩
end
end Go.Proofs.YthkdhdcbhpknnaaGreatDoor.tre
