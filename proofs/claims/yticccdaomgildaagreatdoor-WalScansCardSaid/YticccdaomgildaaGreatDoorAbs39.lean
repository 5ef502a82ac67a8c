/- The abstract layer, part 39: one call at one place of a run, over what it touches, as a summary. -/
import Derived.Test.YticccdaomgildaaGreatDoorAbs38
namespace Go.Abs
open Go
set_option linter.unusedVariables false

section
variable {P : Program} {S : Sums}

/-! ### The same value, the same object -/
def sameI : Int → Int → Bool
  | .ofNat a, .ofNat b => Nat.beq a b
  | .negSucc a, .negSucc b => Nat.beq a b
  | _, _ => false
theorem sameI_eq : ∀ {a b : Int}, sameI a b = true → a = b
  | .ofNat a, .ofNat b, h => by rw [Nat.eq_of_beq_eq_true h]
  | .negSucc a, .negSucc b, h => by rw [Nat.eq_of_beq_eq_true h]
  | .ofNat _, .negSucc _, h => by cases h
  | .negSucc _, .ofNat _, h => by cases h
def sameO : Option Nat → Option Nat → Bool
  | none, none => true
  | some a, some b => Nat.beq a b
  | _, _ => false
theorem sameO_eq : ∀ {a b : Option Nat}, sameO a b = true → a = b
  | none, none, _ => rfl
  | some a, some b, h => by rw [Nat.eq_of_beq_eq_true h]
  | none, some _, h => by cases h
  | some _, none, h => by cases h
def sameF : Fn → Fn → Bool
  | .func a, .func b => Nat.beq a b
  | _, _ => false
theorem sameF_eq : ∀ {a b : Fn}, sameF a b = true → a = b := by
  intro a b h
  cases a <;> cases b <;> first
    | (cases h; done)
    | (rw [Nat.eq_of_beq_eq_true h]; done)

def sameV : Nat → AV → AV → Bool
  | 0, _, _ => false
  | f + 1, a, b => match a, b with
    | .bool a, .bool b => cond a b (!b)
    | .int k a, .int k' b => cond (sameI a b) (decide (k = k')) false
    | .str a, .str b => eqL a b
    | .nilptr, .nilptr => true
    | .ptr i a, .ptr j b => cond (Nat.beq i j) (Nat.beq a b) false
    | .nilsl, .nilsl => true
    | .sl i a l s c, .sl j b l' s' c' => cond (Nat.beq i j) (cond (Nat.beq a b) (cond (Nat.beq l l') (cond (Nat.beq s s') (sameO c c') false) false) false) false
    | .nilmap, .nilmap => true
    | .map i, .map j => Nat.beq i j
    | .func a l m, .func b l' m' => cond (sameF a b) (cond (sameL (sameV f) l l') (sameL (sameV f) m m') false) false
    | .nilfunc, .nilfunc => true
    | .iface t v, .iface t' v' => cond (Nat.beq t t') (sameV f v v') false
    | .nilif, .nilif => true
    | .agg l, .agg m => sameL (sameV f) l m
    | .tup l, .tup m => sameL (sameV f) l m
    | _, _ => false

theorem cond3 {a b : Bool} (h : cond a b false = true) : a = true ∧ b = true := by
  cases a
  · cases h
  · exact ⟨rfl, h⟩

theorem sameV_eq : ∀ (f : Nat) (a b : AV), sameV f a b = true → a = b := by
  intro f
  induction f with
  | zero => intro a b h; cases h
  | succ f ih =>
    intro a b h
    cases a <;> cases b <;> first
      | (cases h; done)
      | rfl
      | skip
    · rename_i a b
      cases a <;> cases b <;> first | rfl | cases h
    · obtain ⟨h1, h2⟩ := cond3 h
      rw [sameI_eq h1, of_decide_eq_true h2]
    · rw [eqL_same h]
    · obtain ⟨h1, h2⟩ := cond3 h
      rw [Nat.eq_of_beq_eq_true h1, Nat.eq_of_beq_eq_true h2]
    · obtain ⟨h1, h2⟩ := cond3 h
      obtain ⟨h2, h3⟩ := cond3 h2
      obtain ⟨h3, h4⟩ := cond3 h3
      obtain ⟨h4, h5⟩ := cond3 h4
      rw [Nat.eq_of_beq_eq_true h1, Nat.eq_of_beq_eq_true h2, Nat.eq_of_beq_eq_true h3, Nat.eq_of_beq_eq_true h4, sameO_eq h5]
    · rw [Nat.eq_of_beq_eq_true h]
    · obtain ⟨h1, h2⟩ := cond3 h
      obtain ⟨h2, h3⟩ := cond3 h2
      rw [sameF_eq h1, sameL_eq ih h2, sameL_eq ih h3]
    · obtain ⟨h1, h2⟩ := cond3 h
      rw [Nat.eq_of_beq_eq_true h1, ih _ _ h2]
    · rw [sameL_eq ih h]
    · rw [sameL_eq ih h]

def sameE : List (AV × AV) → List (AV × AV) → Bool
  | [], [] => true
  | a :: l, b :: m => cond (sameV 20 a.1 b.1) (cond (sameV 20 a.2 b.2) (sameE l m) false) false
  | _, _ => false
theorem sameE_eq : ∀ {l m : List (AV × AV)}, sameE l m = true → l = m
  | [], [], _ => rfl
  | (a, b) :: l, (c, d) :: m, h => by
    obtain ⟨h1, h2⟩ := cond3 h
    obtain ⟨h2, h3⟩ := cond3 h2
    rw [show a = c from sameV_eq _ _ _ h1, show b = d from sameV_eq _ _ _ h2, sameE_eq h3]
  | [], _ :: _, h => by cases h
  | _ :: _, [], h => by cases h
def sameB (a b : Bool) : Bool := cond a b (!b)
theorem sameB_eq : ∀ {a b : Bool}, sameB a b = true → a = b := by intro a b h; cases a <;> cases b <;> first | rfl | cases h

def sameAO : AO → AO → Bool
  | .cells l o t, .cells m o' t' => cond (sameB o o') (cond (sameB t t') (sameL (sameV 20) l m) false) false
  | .map es bs ck, .map fs cs ck' => cond (Nat.beq ck ck') (cond (eqL bs cs) (sameE es fs) false) false
  | .defs a, .defs b => sameB a b
  | .sit s p, .sit s' p' => cond (Nat.beq p p') (eqL s s') false
  | _, _ => false
theorem sameAO_eq {a b : AO} (h : sameAO a b = true) : a = b := by
  cases a <;> cases b <;> first
    | (cases h; done)
    | skip
  · obtain ⟨h1, h2⟩ := cond3 h
    obtain ⟨h2, h3⟩ := cond3 h2
    rw [sameB_eq h1, sameB_eq h2, sameL_eq (sameV_eq 20) h3]
  · obtain ⟨h1, h2⟩ := cond3 h
    obtain ⟨h2, h3⟩ := cond3 h2
    rw [Nat.eq_of_beq_eq_true h1, eqL_same h2, sameE_eq h3]
  · rw [sameB_eq h]
  · obtain ⟨h1, h2⟩ := cond3 h
    rw [Nat.eq_of_beq_eq_true h1, eqL_same h2]

/-! ### Parts of a heap -/
noncomputable def objsIn : List (Nat × AO) → AH → Bool
  | [], _ => true
  | e :: r, h => cond (match h.get e.1 with | some o => sameAO o e.2 | none => false) (objsIn r h) false
theorem objsIn_get : ∀ {l : List (Nat × AO)} {h : AH}, objsIn l h = true → ∀ e ∈ l, h.get e.1 = some e.2
  | [], _, _, _, he => by cases he
  | x :: r, h, hh, e, he => by
    obtain ⟨h1, h2⟩ := cond3 hh
    rcases List.mem_cons.1 he with rfl | he
    · split at h1
      · rename_i o ho
        rw [ho, sameAO_eq h1]
      · cases h1
    · exact objsIn_get h2 e he
noncomputable def dropAll : List (Nat × AO) → AH → AH
  | [], h => h
  | e :: r, h => dropAll r (h.del e.1)
theorem absorb_get : ∀ (l : List (Nat × AO)) (h : AH) (i : Nat) (o : AO), (absorb l h).get i = some o → (i, o) ∈ l ∨ ((∀ e ∈ l, e.1 ≠ i) ∧ h.get i = some o)
  | [], _, _, _, hg => .inr ⟨(fun _ he => by cases he), hg⟩
  | (j, x) :: r, h, i, o, hg => by
    rcases absorb_get r (h.put j x) i o hg with h1 | ⟨h1, h2⟩
    · exact .inl (List.mem_cons_of_mem _ h1)
    · rw [AH.get_put] at h2
      by_cases he : i = j
      · rw [if_pos he] at h2
        cases h2
        subst he
        exact .inl (List.mem_cons_self ..)
      · rw [if_neg he] at h2
        refine .inr ⟨fun e hm => ?_, h2⟩
        rcases List.mem_cons.1 hm with rfl | hm
        · exact fun e => he e.symm
        · exact h1 e hm
theorem dropAll_get : ∀ (l : List (Nat × AO)) (h : AH) (i : Nat) (o : AO), (dropAll l h).get i = some o → (∀ e ∈ l, e.1 ≠ i) ∧ h.get i = some o
  | [], _, _, _, hg => ⟨(fun _ he => by cases he), hg⟩
  | x :: r, h, i, o, hg => by
    obtain ⟨h1, h2⟩ := dropAll_get r (h.del x.1) i o hg
    rw [AH.get_del] at h2
    by_cases he : i = x.1
    · rw [if_pos he] at h2; cases h2
    · rw [if_neg he] at h2
      refine ⟨fun e hm => ?_, h2⟩
      rcases List.mem_cons.1 hm with rfl | hm
      · exact fun e => he e.symm
      · exact h1 e hm
theorem dropAll_nx : ∀ (l : List (Nat × AO)) (h : AH), (dropAll l h).nx = h.nx
  | [], _ => rfl
  | x :: r, h => dropAll_nx r (h.del x.1)

/-- One call: the function, its arguments, the next number, what it only reads, what it changes; what it returns, the next number behind it, what is there then. -/
structure Ck where
  g : FuncId
  args : List AV
  nx : Nat
  keep : List (Nat × AO)
  chg : List (Nat × AO)
  v : AV
  nx' : Nat
  out : List (Nat × AO)
noncomputable def Ck.mini (c : Ck) : AH := absorb c.chg (absorb c.keep { tr := .nil, nx := c.nx })
noncomputable def sumCk (c : Ck) : Sums := fun f args h =>
  cond (Nat.beq f c.g) (cond (Nat.beq h.nx c.nx) (cond (sameL (sameV 20) args c.args) (cond (objsIn c.keep h) (cond (objsIn c.chg h)
    (some (c.v, { tr := (absorb c.out (dropAll c.chg h)).tr, nx := c.nx' })) none) none) none) none) none
noncomputable def okCk (P : Program) (S : Sums) (k : Nat) (c : Ck) : Bool :=
  @Option.rec (AV × AH) (fun _ => Bool) false (fun r => cond (sameV 20 r.1 c.v) (cond (Nat.beq r.2.nx c.nx') (cond (objsIn c.keep r.2) (objsIn c.out r.2) false) false) false) ((fN P S k).call c.g c.args c.mini)
/-- A row of bytes. -/
noncomputable def u8s (l : List Nat) : List AV := @List.rec Nat (fun _ => List AV) [] (fun n _ ih => AV.int .u8 (.ofNat n) :: ih) l

theorem or_some {ρ : Pm} {p : Pl} {o : AO} {x : Option Obj} (h : OR ρ p o x) : ∃ y, x = some y := by
  cases x with
  | some y => exact ⟨y, rfl⟩
  | none => exact (or_none h).elim

/-- Where what may be written, and is not touched, lies. -/
def aside (h : AH) (ρ : Pm) (ids : List (Nat × AO)) (b : Nat) : Prop := ∃ i o p, h.get i = some o ∧ o.own = true ∧ (∀ e ∈ ids, e.1 ≠ i) ∧ ρ i = some p ∧ p.b = b

open Classical in
noncomputable def keepMore (K : Kp) (h : AH) (ρ : Pm) (ids : List (Nat × AO)) (w : World) (hk : ∀ b o, K.at_ b = some o → w.heap[b]? = some o) : Kp :=
  { os := K.os, tape := K.tape, output := K.output, size := K.size, at_ := fun b => if aside h ρ ids b then w.heap[b]? else K.at_ b, ro := K.ro,
    roAt := fun b hb => by
      have h1 := K.roAt b hb
      split
      · obtain ⟨o, ho⟩ := Option.isSome_iff_exists.1 h1
        rw [hk b o ho]; rfl
      · exact h1 }

theorem sumCk_ok (hS : SumsOK P S) {k : Nat} {c : Ck} (hc : okCk P S k c = true) : SumsOK P (sumCk c) := by
  intro K ρ h w f args cargs u h' hR ha hs
  unfold sumCk at hs
  have hs1 : Nat.beq f c.g = true ∧ Nat.beq h.nx c.nx = true ∧ sameL (sameV 20) args c.args = true ∧ objsIn c.keep h = true ∧ objsIn c.chg h = true ∧ c.v = u ∧ ({ tr := (absorb c.out (dropAll c.chg h)).tr, nx := c.nx' } : AH) = h' := by
    cases h1 : Nat.beq f c.g <;> rw [h1] at hs
    · cases hs
    cases h2 : Nat.beq h.nx c.nx <;> rw [h2] at hs
    · cases hs
    cases h3 : sameL (sameV 20) args c.args <;> rw [h3] at hs
    · cases hs
    cases h4 : objsIn c.keep h <;> rw [h4] at hs
    · cases hs
    cases h5 : objsIn c.chg h <;> rw [h5] at hs
    · cases hs
    simp only [cond_true, Option.some.injEq, Prod.mk.injEq] at hs
    exact ⟨rfl, rfl, rfl, rfl, rfl, hs.1, hs.2⟩
  obtain ⟨h1, h2, h3, h4, h5, rfl, rfl⟩ := hs1
  have h1 := Nat.eq_of_beq_eq_true h1
  have h2 := Nat.eq_of_beq_eq_true h2
  have h3 := sameL_eq (sameV_eq 20) h3
  have h4 := objsIn_get h4
  have h5 := objsIn_get h5
  subst h1 h3
  have hrun : ∃ h1, (evN P S k).call c.g c.args c.mini = some (c.v, h1) ∧ h1.nx = c.nx' ∧ objsIn c.keep h1 = true ∧ objsIn c.out h1 = true := by
    unfold okCk at hc
    rw [fN_eq] at hc
    cases hr : (evN P S k).call c.g c.args c.mini with
    | none => rw [hr] at hc; cases hc
    | some r =>
      rw [hr] at hc
      obtain ⟨e1, e2⟩ := cond3 hc
      obtain ⟨e2, e3⟩ := cond3 e2
      obtain ⟨e3, e4⟩ := cond3 e3
      exact ⟨r.2, by rw [← sameV_eq _ _ _ e1], Nat.eq_of_beq_eq_true e2, e3, e4⟩
  obtain ⟨h1, hrun, hnx, hkp, hout⟩ := hrun
  have hkp := objsIn_get hkp
  have hout := objsIn_get hout
  have hmini : ∀ i o, c.mini.get i = some o → h.get i = some o ∧ ∃ e ∈ c.keep ++ c.chg, e.1 = i := fun i o hg => by
    rcases absorb_get _ _ _ _ hg with h6 | ⟨-, h6⟩
    · exact ⟨h5 _ h6, _, List.mem_append_right _ h6, rfl⟩
    · rcases absorb_get _ _ _ _ h6 with h7 | ⟨-, h7⟩
      · exact ⟨h4 _ h7, _, List.mem_append_left _ h7, rfl⟩
      · simp [AH.get] at h7
  let K' := keepMore K h ρ (c.keep ++ c.chg) w hR.keep
  have hat : ∀ b, aside h ρ (c.keep ++ c.chg) b → K'.at_ b = w.heap[b]? := fun b hb => if_pos hb
  have hat' : ∀ b, ¬ aside h ρ (c.keep ++ c.chg) b → K'.at_ b = K.at_ b := fun b hb => if_neg hb
  have hatK : ∀ b o, K.at_ b = some o → K'.at_ b = some o := fun b o ho => by
    by_cases hb : aside h ρ (c.keep ++ c.chg) b
    · rw [hat b hb]; exact hR.keep b o ho
    · rw [hat' b hb]; exact ho
  have hatN : ∀ b, K'.at_ b = none → K.at_ b = none := fun b hb => by
    cases hk : K.at_ b with
    | none => rfl
    | some o => rw [hatK b o hk] at hb; cases hb
  have hR0 : Rel K' ρ c.mini w := by
    refine ⟨hR.os, hR.tape, hR.output, hR.size, fun b o hb => ?_, fun id hid => hR.fresh id ?_, fun id o hg => ?_, fun i j oi oj pi pj hi hj => hR.inj i j oi oj pi pj (hmini i oi hi).1 (hmini j oj hj).1⟩
    · by_cases hbb : aside h ρ (c.keep ++ c.chg) b
      · rw [hat b hbb] at hb; exact hb
      · rw [hat' b hbb] at hb; exact hR.keep b o hb
    · rw [h2]
      have h6 : c.mini.nx = c.nx := (absorb_nx _ _).trans (absorb_nx _ _)
      rw [← h6]; exact hid
    · obtain ⟨hg', e, he, hei⟩ := hmini id o hg
      obtain ⟨p, hp, hor, how, hro⟩ := hR.obj id o hg'
      refine ⟨p, hp, hor, fun ho => ⟨?_, (how ho).2⟩, hro⟩
      rw [hat' _ ?_]
      · exact (how ho).1
      · rintro ⟨i, o', q, hi, hoo, hni, hq, hqb⟩
        exact hni e he (hei.trans (hR.inj id i o o' p q hg' hi ho hoo hp hq hqb.symm))
  refine ((evN_sound hS k).call K' ρ c.mini w c.g c.args cargs c.v h1 hR0 ha hrun).mono fun cv w' hp => ?_
  obtain ⟨ρ', hext, hvr, hR'⟩ := hp
  have hmnx : c.mini.nx = h.nx := ((absorb_nx _ _).trans (absorb_nx _ _)).trans h2.symm
  have hget : ∀ i o, (absorb c.out (dropAll c.chg h)).get i = some o → h1.get i = some o ∨ (h.get i = some o ∧ ∀ e ∈ c.keep ++ c.chg, e.1 ≠ i) := fun i o hg => by
    rcases absorb_get _ _ _ _ hg with h6 | ⟨-, h6⟩
    · exact .inl (hout _ h6)
    · obtain ⟨h7, h8⟩ := dropAll_get _ _ _ _ h6
      by_cases hk : ∃ e ∈ c.keep, e.1 = i
      · obtain ⟨e, he, rfl⟩ := hk
        have h9 := (h4 e he).symm.trans h8
        cases h9
        exact .inl (hkp e he)
      · refine .inr ⟨h8, fun e he => ?_⟩
        rcases List.mem_append.1 he with he | he
        · exact fun hi => hk ⟨e, he, hi⟩
        · exact h7 e he
  have hsame : ∀ i o p, h.get i = some o → (∀ e ∈ c.keep ++ c.chg, e.1 ≠ i) → ρ i = some p → OR ρ p o w.heap[p.b]? → (o.own = false → K.ro p.b = true) → w'.heap[p.b]? = w.heap[p.b]? := fun i o p hg hn hp hor hro => by
    obtain ⟨y, hy⟩ := or_some hor
    cases how : o.own with
    | true =>
      have hb : aside h ρ (c.keep ++ c.chg) p.b := ⟨i, o, p, hg, how, hn, hp, rfl⟩
      rw [hy]
      exact hR'.keep p.b y ((hat _ hb).trans hy)
    | false =>
      have h5 := K.roAt _ (hro how)
      obtain ⟨z, hz⟩ := Option.isSome_iff_exists.1 h5
      rw [hR.keep _ _ hz]
      exact hR'.keep p.b z (hatK _ _ hz)
  have hapart : ∀ i j oi oj pi pj, h1.get i = some oi → h.get j = some oj → (∀ e ∈ c.keep ++ c.chg, e.1 ≠ j) → oi.own = true → oj.own = true → ρ' i = some pi → ρ' j = some pj → pi.b ≠ pj.b := fun i j oi oj pi pj hi hj hn hoi hoj hpi hpj he => by
    obtain ⟨p, hp, -, how, -⟩ := hR'.obj i oi hi
    rw [hpi] at hp
    cases hp
    obtain ⟨q, hq, hor, -, -⟩ := hR.obj j oj hj
    have := hext.le _ _ hq
    rw [hpj] at this
    cases this
    obtain ⟨y, hy⟩ := or_some hor
    have hb : aside h ρ (c.keep ++ c.chg) pj.b := ⟨j, oj, pj, hj, hoj, hn, hq, rfl⟩
    have h6 := (how hoi).1
    rw [he, hat _ hb, hy] at h6
    cases h6
  refine ⟨ρ', ⟨hext.le, ?_, fun id hid => hext.old id (by rw [hmnx]; exact hid)⟩, hvr, ⟨hR'.os, hR'.tape, hR'.output, hR'.size, fun b o hb => hR'.keep b o (hatK b o hb), fun id hid => hR'.fresh id (by rw [hnx]; exact hid), fun id o hg => ?_, fun i j oi oj pi pj hi hj hoi hoj hpi hpj hb => ?_⟩⟩
  · show h.nx ≤ c.nx'
    rw [← hnx, ← hmnx]; exact hext.nx
  · rcases hget id o hg with h5 | ⟨h5, h6⟩
    · obtain ⟨p, hp, hor, how, hro⟩ := hR'.obj id o h5
      exact ⟨p, hp, hor, fun ho => ⟨hatN _ (how ho).1, (how ho).2⟩, hro⟩
    · obtain ⟨p, hp, hor, how, hro⟩ := hR.obj id o h5
      refine ⟨p, hext.le _ _ hp, ?_, how, hro⟩
      rw [hsame id o p h5 h6 hp hor hro]
      exact hor.mono hext.le
  · have hold : ∀ i o q, h.get i = some o → ρ' i = some q → ρ i = some q := fun i o q hi hq => by
      obtain ⟨p, hp, -⟩ := hR.obj i o hi
      have := hext.le _ _ hp
      rw [hq] at this
      cases this
      exact hp
    rcases hget i oi hi with h5 | ⟨h5, h6⟩
    · rcases hget j oj hj with h7 | ⟨h7, h8⟩
      · exact hR'.inj i j oi oj pi pj h5 h7 hoi hoj hpi hpj hb
      · exact absurd hb (hapart i j oi oj pi pj h5 h7 h8 hoi hoj hpi hpj)
    · rcases hget j oj hj with h7 | ⟨h7, h8⟩
      · exact absurd hb.symm (hapart j i oj oi pj pi h7 h5 h6 hoj hoi hpj hpi)
      · exact hR.inj i j oi oj pi pj h5 h7 hoi hoj (hold i oi pi h5 hpi) (hold j oj pj h7 hpj) hb

/-- All calls of a list. -/
noncomputable def sumCks : List Ck → Sums
  | [] => fun _ _ _ => none
  | c :: r => orS (sumCk c) (sumCks r)
theorem sumCks_nil : SumsOK P (sumCks []) := fun _ _ _ _ _ _ _ _ _ _ _ hs => by cases hs
theorem sumCks_cons {c : Ck} {r : List Ck} (hc : SumsOK P (sumCk c)) (hr : SumsOK P (sumCks r)) : SumsOK P (sumCks (c :: r)) := orS_ok hc hr

end
end Go.Abs
