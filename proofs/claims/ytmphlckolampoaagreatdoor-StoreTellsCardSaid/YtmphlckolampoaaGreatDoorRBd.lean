/- Pairs sorted in place: runs merged. Conditions: those of its summaries. -/
import Derived.Test.YtmphlckolampoaaGreatDoorRBc
namespace Go.Proofs.YtmphlckolampoaaGreatDoor.tbl
open Go Go.Abs Go.Abs.Rec Go.Abs.Stb Go.Proofs
set_option maxRecDepth 100000
set_option linter.unusedVariables false
set_option linter.unusedSimpArgs false
theorem cvU (h : AH) (n : Nat) (hn : n ≤ 4000000) : evConvert Tryz.prog h 3 121 (.int .i64 ((n : Nat) : Int)) = some (.val (.int .u64 ((n : Nat) : Int)) h) := by
 have e : IntKind.u64.wrap ((n : Nat) : Int) = ((n : Nat) : Int) := by unfold IntKind.wrap; simp [IntKind.bits, IntKind.signed]; omega
 simp [evConvert, Tryz.underlying3, Tryz.underlying121, val?, e]
theorem cvI (h : AH) (n : Nat) (hn : n ≤ 4000000) : evConvert Tryz.prog h 121 3 (.int .u64 ((n : Nat) : Int)) = some (.val (.int .i64 ((n : Nat) : Int)) h) := by
 have e : IntKind.i64.wrap ((n : Nat) : Int) = ((n : Nat) : Int) := by rw [wrap64_id (by omega) (by omega)]
 simp [evConvert, Tryz.underlying3, Tryz.underlying121, val?, e]
theorem shU (n : Nat) : Int.fdiv ((n : Nat) : Int) (2 ^ min 1 64) = ((n / 2 : Nat) : Int) := by
 have e : (2 : Int) ^ min 1 64 = 2 := rfl
 rw [e, Int.fdiv_eq_ediv_of_nonneg _ (by decide)]
 omega
/-- Where a run lies within another, by halves. -/
theorem srt_get {R : PL} (hs : srt ltK R) {i j : Nat} {u w : Pr} (hij : i ≤ j) (hu : R[i]? = some u) (hw : R[j]? = some w) : ltK w u = false := by
 by_cases he : i = j
 ·subst he; rw [hu] at hw; cases hw; exact woK.irr _
 ·have hi : i < R.length := (List.getElem?_eq_some_iff.1 hu).1
  have e : R = R.take j ++ R.drop j := (List.take_append_drop _ _).symm
  rw [e] at hs
  refine (srt_app.1 hs).2.2 u (List.mem_iff_getElem?.2 ⟨i, by rw [List.getElem?_take_of_lt (by omega)]; exact hu⟩) w (List.mem_iff_getElem?.2 ⟨0, by rw [List.getElem?_drop]; simpa using hw⟩)
theorem below_x {R : PL} (hs : srt ltK R) {n : Nat} {w x : Pr} (hw : R[n]? = some w) (hx : ltK w x = true) : ∀ u ∈ R.take (n + 1), ltK u x = true := fun u hu => by
 obtain ⟨i, hi⟩ := List.mem_iff_getElem?.1 hu
 have hi2 : i < n + 1 := by
  have := (List.getElem?_eq_some_iff.1 hi).1
  rw [List.length_take] at this; omega
 rw [List.getElem?_take_of_lt hi2] at hi
 have h1 := srt_get hs (show i ≤ n by omega) hi hw
 cases h2 : ltK u x
 ·rw [woK.ntr w u x h1 h2] at hx; cases hx
 ·rfl
theorem over_x {R : PL} (hs : srt ltK R) {n : Nat} {w x : Pr} (hw : R[n]? = some w) (hx : ltK w x = false) : ∀ u ∈ R.drop n, ltK u x = false := fun u hu => by
 obtain ⟨i, hi⟩ := List.mem_iff_getElem?.1 hu
 rw [List.getElem?_drop] at hi
 have h1 := srt_get hs (show n ≤ n + i by omega) hw hi
 exact woK.ntr u w x h1 hx
theorem below_y {L : PL} (hs : srt ltK L) {n : Nat} {w y : Pr} (hw : L[n]? = some w) (hy : ltK y w = false) : ∀ u ∈ L.take (n + 1), ltK y u = false := fun u hu => by
 obtain ⟨i, hi⟩ := List.mem_iff_getElem?.1 hu
 have hi2 : i < n + 1 := by
  have := (List.getElem?_eq_some_iff.1 hi).1
  rw [List.length_take] at this; omega
 rw [List.getElem?_take_of_lt hi2] at hi
 exact woK.ntr y w u hy (srt_get hs (show i ≤ n by omega) hi hw)
theorem over_y {L : PL} (hs : srt ltK L) {n : Nat} {w y : Pr} (hw : L[n]? = some w) (hy : ltK y w = true) : ∀ u ∈ L.drop n, ltK y u = true := fun u hu => by
 obtain ⟨i, hi⟩ := List.mem_iff_getElem?.1 hu
 rw [List.getElem?_drop] at hi
 have h1 := srt_get hs (show n ≤ n + i by omega) hw hi
 cases h2 : ltK y u
 ·rw [woK.ntr y u w h2 h1] at hy; cases hy
 ·rfl
theorem mg_one1 {x : Pr} {R1 R2 : PL} (hs : srt ltK (R1 ++ R2)) (h1 : ∀ u ∈ R1, ltK u x = true) (h2 : ∀ u ∈ R2, ltK u x = false) : mg ltK [x] (R1 ++ R2) = R1 ++ x :: R2 := by
 have h3 := mg_split (lt := ltK (α := List Nat × Bool)) woK _ (a1 := []) (a2 := [x]) (b1 := R1) (b2 := R2) (Nat.le_refl _) (by simp [srt]) hs (by simp) (by simpa using h1)
 rw [List.nil_append] at h3
 rw [h3]
 have e : mg ltK [] R1 = R1 := by rw [mg]
 rw [e]
 cases R2 with
 | nil => rw [mg_nil]
 | cons y R2 => rw [mg_cons, if_neg (by rw [h2 y (List.mem_cons_self ..)]; decide), mg]
theorem mg_one2 {y : Pr} {L1 L2 : PL} (hs : srt ltK (L1 ++ L2)) (h1 : ∀ u ∈ L1, ltK y u = false) (h2 : ∀ u ∈ L2, ltK y u = true) : mg ltK (L1 ++ L2) [y] = L1 ++ y :: L2 := by
 have h3 := mg_split (lt := ltK (α := List Nat × Bool)) woK _ (a1 := L1) (a2 := L2) (b1 := []) (b2 := [y]) (Nat.le_refl _) hs (by simp [srt]) (by simpa using h1) (by simp)
 rw [List.nil_append] at h3
 rw [h3, mg_nil]
 cases L2 with
 | nil => rw [mg]
 | cons x L2 => rw [mg_cons, if_pos (h2 x (List.mem_cons_self ..)), mg_nil]
/-- A pair at a place of a list. -/
theorem at2 {l X Z : PL} {u : Pr} (hl : l = X ++ u :: Z) {p : Nat} (hp : p = X.length) : ((l.flatMap pc).drop (p * 3)).take 3 = [.str u.1, .str u.2.1, .bool u.2.2] ∧ p * 3 + 3 ≤ (l.flatMap pc).length ∧ p < l.length := by
 have g1 : l[p]? = some u := by rw [hl, hp]; simp
 have hq : p < l.length := by rw [hl, hp]; simp
 exact ⟨pcAt g1, pcLe hq, hq⟩
theorem atR {l A R B : PL} (hl : l = A ++ R ++ B) {i p : Nat} {u : Pr} (hu : R[i]? = some u) (hp : p = A.length + i) : ((l.flatMap pc).drop (p * 3)).take 3 = [.str u.1, .str u.2.1, .bool u.2.2] ∧ p * 3 + 3 ≤ (l.flatMap pc).length ∧ p < l.length := by
 have hi := (List.getElem?_eq_some_iff.1 hu).1
 refine at2 (X := A ++ R.take i) (Z := R.drop (i + 1) ++ B) (u := u) ?_ (by rw [List.length_append, List.length_take]; omega)
 rw [hl]
 have : R = R.take i ++ u :: R.drop (i + 1) := by
  conv => lhs; rw [← List.take_append_drop i R, List.drop_eq_getElem_cons hi, (List.getElem?_eq_some_iff.1 hu).2]
 conv => lhs; rw [this]
 simp
section
variable {S : Sums}
set_option maxHeartbeats 16000000 in
/-- One is merged with a run behind it. -/
theorem symA (hS : Ts S) {h : AH} {id : Nat} {v : AV} {A R B : PL} {x : Pr} (hm : Mt id v h (A ++ [x] ++ R ++ B)) (hb : (A ++ [x] ++ R ++ B).length ≤ 1000000) (hsr : srt ltK R) {a m b : Nat} (ha : a = A.length) (hm' : m = A.length + 1) (hb' : b = A.length + 1 + R.length) :
  RnC Tryz.prog S 136 [v, .int .i64 (a : Nat), .int .i64 (m : Nat), .int .i64 (b : Nat), fK] h fun r h' => Mr id v h h' (A ++ mg ltK [x] R ++ B) := by
 refine RnC.enter' Tryz.f136 _ 220 [] (hS.ns _ _ _ (by simp)) bd136 Tryz.func136 rfl rfl rfl ?_
 subst ha hm' hb'
 have hlen : (A ++ [x] ++ R ++ B).length = A.length + 1 + R.length + B.length := by simp; omega
 have ov : oneA v = true := by obtain ⟨⟨c, hv, _⟩, _⟩ := hm; rw [hv]; rfl
 have hf : oneA fK = true := rfl
 have hTc := hS.tc
 have e0 : ((A.length + 1 : Nat) : Int) - ((A.length : Nat) : Int) = 1 := by omega
 simp (maxSteps := 1000000) -dsimp (disch := (repeat first | rw [nxn] | rw [nxp]); try omega) only [go_sem, ov, e0]
 refine loopK_of (RnL.rounds (Q := fun ex u => ex = .exit 0 ∧ u.d = [] ∧ u.t.get 0 = some v ∧ u.t.get 1 = some (.int .i64 (A.length : Nat)) ∧ Mr id v h u.h (A ++ [x] ++ R ++ B) ∧ ∃ i : Nat, i ≤ R.length ∧ u.t.get 10 = some (.int .i64 ((A.length + 1 + i : Nat) : Int)) ∧ (∀ u ∈ R.take i, ltK u x = true) ∧ (∀ u ∈ R.drop i, ltK u x = false))
  (fun k u => u.d = [] ∧ u.t.get 0 = some v ∧ u.t.get 1 = some (.int .i64 (A.length : Nat)) ∧ u.t.get 4 = some fK ∧ Mr id v h u.h (A ++ [x] ++ R ++ B) ∧ ∃ i j : Nat, i ≤ j ∧ j ≤ R.length ∧ u.t.get 10 = some (.int .i64 ((A.length + 1 + i : Nat) : Int)) ∧ u.t.get 11 = some (.int .i64 ((A.length + 1 + j : Nat) : Int)) ∧ (∀ u ∈ R.take i, ltK u x = true) ∧ (∀ u ∈ R.drop j, ltK u x = false) ∧ k = j - i) ?_ R.length ?_) ?_
 ·rintro k ⟨tt, g, d⟩ ⟨e2, g0, g1, g4, hmr, i, j, hij, hj, g10, g11, h1, h2, rfl⟩
  dsimp only at e2 g0 g1 g4 g10 g11 hmr
  subst e2
  by_cases c1 : i < j
  ·have c2 : ((A.length + 1 + i : Nat) : Int) < ((A.length + 1 + j : Nat) : Int) := by omega
   have e1 : ((A.length + 1 + i : Nat) : Int) + ((A.length + 1 + j : Nat) : Int) = ((A.length + 1 + i + (A.length + 1 + j) : Nat) : Int) := by omega
   obtain ⟨q, hq⟩ : ∃ q, q = (i + j) / 2 := ⟨_, rfl⟩
   have e3 : (A.length + 1 + i + (A.length + 1 + j)) / 2 = A.length + 1 + q := by omega
   have hqr : q < R.length := by omega
   obtain ⟨w, hw⟩ : ∃ w, R[q]? = some w := ⟨_, List.getElem?_eq_getElem hqr⟩
   have hle : A.length + 1 + i + (A.length + 1 + j) ≤ 4000000 := by omega
   have hle2 : A.length + 1 + q ≤ 4000000 := by omega
   have cv1 := fun h => cvU h _ hle
   have cv2 := fun h => cvI h _ hle2
   have sh := shU (A.length + 1 + i + (A.length + 1 + j))
   rw [e3] at sh
   have hmr2 := hmr
   obtain ⟨a1, b1, q1⟩ := atR (l := A ++ [x] ++ R ++ B) (A := A ++ [x]) (R := R) (B := B) (p := A.length + 1 + q) rfl hw (by simp)
   obtain ⟨a2, b2, q2⟩ := at2 (l := A ++ [x] ++ R ++ B) (X := A) (Z := R ++ B) (u := x) (p := A.length) (by simp) rfl
   generalize hlq : A ++ [x] ++ R ++ B = l at hmr a1 b1 q1 a2 b2 q2 hlen
   obtain ⟨nx1, ot1, ⟨⟨c', hv', hc'⟩, hg1, hlt1⟩⟩ := hmr
   have hv2 := hv'
   rw [hv'] at g0
   simp (maxSteps := 1000000) -dsimp (disch := (repeat first | rw [nxn] | rw [nxp]); try omega) only [go_sem, c2, g0, g1, g4, g10, g11, e1, cv1, sh, cv2]
   refine syDraw.keepN 0 (fun _ => True) (by kernel_rfl) (by kernel_rfl) rfl ?_
   simp (maxSteps := 1000000) -dsimp (disch := (repeat first | rw [nxn] | rw [nxp]); try omega) only [go_sem, g0, g1, g4, g10, g11, q1, q2, hg1, a1, a2, b1, b2, hf, fK]
   refine callK_of (keyC hTc _ w x) ?_
   rintro z g5 ⟨rfl, f5⟩
   have hmr5 := (hmr2.more (n := g.nx + 11) (by omega)).fr f5
   cases hlx : lessA w.1 x.1
   ·have c6 : ¬ cmpI w.1 x.1 < 0 := by rw [cmpI_neg, hlx]; decide
    simp (maxSteps := 1000000) -dsimp (disch := (repeat first | rw [nxn] | rw [nxp]); try omega) only [go_sem, c6, g0, g1, g4, g10, g11]
    exact ⟨q - i, by omega, trivial, hv2.symm, trivial, trivial, hmr5.eqL hlq, i, q, by omega, by omega, rfl, rfl, h1, over_x hsr hw hlx, rfl⟩
   ·have c6 : cmpI w.1 x.1 < 0 := by rw [cmpI_neg, hlx]
    have e7 : ((A.length + 1 + q : Nat) : Int) + 1 = ((A.length + 1 + (q + 1) : Nat) : Int) := by omega
    simp (maxSteps := 1000000) -dsimp (disch := (repeat first | rw [nxn] | rw [nxp]); try omega) only [go_sem, c6, e7, g0, g1, g4, g10, g11]
    exact ⟨j - (q + 1), by omega, trivial, hv2.symm, trivial, trivial, hmr5.eqL hlq, q + 1, j, by omega, by omega, rfl, rfl, below_x hsr hw hlx, h2, rfl⟩
  ·have c2 : ¬ ((A.length + 1 + i : Nat) : Int) < ((A.length + 1 + j : Nat) : Int) := by omega
   obtain rfl : i = j := by omega
   simp (maxSteps := 1000000) -dsimp (disch := (repeat first | rw [nxn] | rw [nxp]); try omega) only [go_sem, c2, g0, g1, g4, g10, g11]
   exact ⟨trivial, trivial, trivial, trivial, hmr, i, hj, rfl, h1, h2⟩
 ·simp (maxSteps := 1000000) -dsimp (disch := (repeat first | rw [nxn] | rw [nxp]); try omega) only [go_sem]
  exact ⟨trivial, trivial, trivial, trivial, Mr.refl hm, 0, R.length, Nat.zero_le _, Nat.le_refl _, rfl, rfl, by simp, by simp, rfl⟩
 ·rintro ex ⟨tt, g, d⟩ ⟨rfl, rfl, g0, g1, hmr, i, hi, g10, h1, h2⟩
  dsimp only at g0 g1 g10 hmr
  have hmg : mg ltK [x] R = R.take i ++ x :: R.drop i := by
   have := mg_one1 (x := x) (R1 := R.take i) (R2 := R.drop i) (by rw [List.take_append_drop]; exact hsr) h1 h2
   rw [List.take_append_drop] at this
   exact this
  have hRl : (R.take i).length = i := by rw [List.length_take]; omega
  have hRs : R.take i ++ R.drop i = R := List.take_append_drop _ _
  generalize R.take i = R1 at hmg hRl hRs
  generalize R.drop i = R2 at hmg hRs
  have e8 : ((A.length + 1 + i : Nat) : Int) - 1 = ((A.length + i : Nat) : Int) := by omega
  simp (maxSteps := 1000000) -dsimp (disch := (repeat first | rw [nxn] | rw [nxp]); try omega) only [go_sem, g0, g1, g10]
  refine loopK_of (RnL.rounds (Q := fun ex u => ex = .exit 2 ∧ u.d = [] ∧ Mr id v h u.h (A ++ mg ltK [x] R ++ B))
   (fun k u => u.d = [] ∧ u.t.get 0 = some v ∧ u.t.get 10 = some (.int .i64 ((A.length + 1 + i : Nat) : Int)) ∧ ∃ n : Nat, n ≤ i ∧ u.t.get 13 = some (.int .i64 ((A.length + n : Nat) : Int)) ∧ Mr id v h u.h (A ++ R1.take n ++ x :: R1.drop n ++ R2 ++ B) ∧ k = i - n) ?_ i ?_) ?_
  ·rintro k ⟨tt2, g', d2⟩ ⟨e2, g0, g10, n, hn, g13, hmr, rfl⟩
   dsimp only at e2 g0 g10 g13 hmr
   subst e2
   by_cases c1 : n < i
   ·have c2 : ((A.length + n : Nat) : Int) < ((A.length + i : Nat) : Int) := by omega
    obtain ⟨y, hy⟩ : ∃ y, R1[n]? = some y := ⟨_, List.getElem?_eq_getElem (by omega)⟩
    have dy : R1.drop n = y :: R1.drop (n + 1) := by rw [List.drop_eq_getElem_cons (by omega), (List.getElem?_eq_some_iff.1 hy).2]
    have ty : R1.take (n + 1) = R1.take n ++ [y] := by rw [List.take_add_one, hy]; rfl
    obtain ⟨p, hp⟩ : ∃ p, p = (A ++ R1.take n).length := ⟨_, rfl⟩
    have hp2 : A.length + n = p := by rw [hp, List.length_append, List.length_take]; omega
    rw [hp2] at c2 g13
    have e5 : ((p : Nat) : Int) + 1 = ((p + 1 : Nat) : Int) := by omega
    have eL : A ++ R1.take n ++ x :: R1.drop n ++ R2 ++ B = (A ++ R1.take n) ++ x :: y :: (R1.drop (n + 1) ++ R2 ++ B) := by rw [dy]; simp
    have hbl : (A ++ R1.take n ++ x :: R1.drop n ++ R2 ++ B).length = (A ++ [x] ++ R ++ B).length := by
     have := congrArg List.length hRs
     simp only [List.length_append] at this
     rw [hlen]; simp only [List.length_append, List.length_cons, List.length_take, List.length_drop]; omega
    generalize hlq : A ++ R1.take n ++ x :: R1.drop n ++ R2 ++ B = l at hmr hbl eL
    obtain ⟨⟨a1, a2, b1, b2, q1, q2, hll⟩, _, s1, s2, b3⟩ := nb eL hp
    have hmr2 := hmr
    obtain ⟨nx1, ot1, ⟨⟨c', hv', hc'⟩, hg1, hlt1⟩⟩ := hmr
    have hv2 := hv'
    rw [hv'] at g0
    simp (maxSteps := 1000000) -dsimp (disch := (repeat first | rw [nxn] | rw [nxp]); try omega) only [go_sem, c2, e8, g0, g10, g13]
    refine syDraw.keepN 0 (fun _ => True) (by kernel_rfl) (by kernel_rfl) rfl ?_
    simp (maxSteps := 1000000) -dsimp (disch := (repeat first | rw [nxn] | rw [nxp]); try omega) only [go_sem, g0, g10, g13, e5, q1, q2, hg1, a1, a2, b1, b2, b3, s1, s2]
    exact ⟨i - (n + 1), by omega, trivial, hv2.symm, trivial, n + 1, by omega, by rw [← hp2]; rfl, (hmr2.put2 hll (by omega)).eqL (by rw [ty]; simp), rfl⟩
   ·have c2 : ¬ ((A.length + n : Nat) : Int) < ((A.length + i : Nat) : Int) := by omega
    have : n = R1.length := by omega
    subst this
    rw [List.take_length, List.drop_length] at hmr
    simp (maxSteps := 1000000) -dsimp (disch := (repeat first | rw [nxn] | rw [nxp]); try omega) only [go_sem, c2, e8, g0, g10, g13]
    exact ⟨trivial, trivial, hmr.eqL (by rw [hmg]; simp)⟩
  ·simp (maxSteps := 1000000) -dsimp (disch := (repeat first | rw [nxn] | rw [nxp]); try omega) only [go_sem]
   exact ⟨trivial, g0, g10, 0, Nat.zero_le _, rfl, hmr.eqL (by rw [← hRs]; simp), rfl⟩
  ·rintro ex ⟨tt2, g', d2⟩ ⟨rfl, rfl, hmr⟩
   dsimp only at hmr
   simp (maxSteps := 1000000) -dsimp (disch := (repeat first | rw [nxn] | rw [nxp]); try omega) only [go_sem]
   exact hmr
end
end Go.Proofs.YtmphlckolampoaaGreatDoor.tbl
