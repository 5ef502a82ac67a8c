/- The abstract layer, parts 48 to 49. Conditions: none. -/
import Derived.Test.YtjcidnbgbdibaaaDoorAb6

section
namespace Go.Abs
open Go
set_option linter.unusedVariables false

section
variable {P : Program}
abbrev Ent := List (List Nat × AV)
/-- Entries of a map whose keys are texts. -/
def enS (E : Ent) : List (AV × AV) := E.map fun e => (.str e.1, e.2)
def valS {α : Type} : List (List Nat × α) → List Nat → Option α
  | [], _ => none
  | e :: r, k => if e.1 = k then some e.2 else valS r k
def fndS {α : Type} : List (List Nat × α) → List Nat → Nat → Option (Nat × α)
  | [], _, _ => none
  | e :: r, k, i => if e.1 = k then some (i, e.2) else fndS r k (i + 1)
def updS {α : Type} : List (List Nat × α) → List Nat → α → List (List Nat × α)
  | [], k, v => [(k, v)]
  | e :: r, k, v => if e.1 = k then (k, v) :: r else e :: updS r k v
def delS {α : Type} : List (List Nat × α) → List Nat → List (List Nat × α)
  | [], _ => []
  | e :: r, k => if e.1 = k then r else e :: delS r k
/-- Every key once. -/
def onceS {α : Type} : List (List Nat × α) → Prop
  | [] => True
  | e :: r => valS r e.1 = none ∧ onceS r
theorem fndS_val {α : Type} : ∀ (E : List (List Nat × α)) (k : List Nat) (i : Nat), (fndS E k i).map (·.2) = valS E k
  | [], _, _ => rfl
  | e :: r, k, i => by
    unfold fndS valS
    by_cases h : e.1 = k
    · rw [if_pos h, if_pos h]; rfl
    · rw [if_neg h, if_neg h]; exact fndS_val r k (i + 1)
theorem valS_upd {α : Type} : ∀ (E : List (List Nat × α)) (k j : List Nat) (v : α), valS (updS E k v) j = if j = k then some v else valS E j
  | [], k, j, v => by
    unfold updS valS valS
    by_cases h : j = k
    · simp [h]
    · simp [h, Ne.symm h]
  | e :: r, k, j, v => by
    unfold updS
    by_cases h : e.1 = k
    · rw [if_pos h]
      unfold valS
      by_cases hj : j = k
      · simp [hj]
      · have : ¬ k = j := fun hh => hj hh.symm
        have h2 : ¬ e.1 = j := fun hh => hj (hh.symm.trans h)
        rw [if_neg this, if_neg hj, if_neg h2]
    · rw [if_neg h]
      unfold valS
      rw [valS_upd r k j v]
      by_cases hj : j = k
      · subst hj; simp [h]
      · rw [if_neg hj, if_neg hj]
theorem valS_del {α : Type} : ∀ (E : List (List Nat × α)), onceS E → ∀ (k j : List Nat), valS (delS E k) j = if j = k then none else valS E j
  | [], _, k, j => by
    unfold delS valS
    simp
  | e :: r, ho, k, j => by
    obtain ⟨h1, h2⟩ := ho
    unfold delS
    by_cases h : e.1 = k
    · rw [if_pos h]
      by_cases hj : j = k
      · rw [if_pos hj, hj, ← h, h1]
      · rw [if_neg hj]
        have h3 : ¬ e.1 = j := fun hh => hj (hh.symm.trans h)
        conv => rhs; unfold valS
        rw [if_neg h3]
    · rw [if_neg h]
      unfold valS
      rw [valS_del r h2 k j]
      by_cases hj : j = k
      · subst hj; simp [h]
      · rw [if_neg hj, if_neg hj]
theorem onceS_upd {α : Type} : ∀ (E : List (List Nat × α)) (k : List Nat) (v : α), onceS E → onceS (updS E k v)
  | [], k, v, _ => ⟨rfl, trivial⟩
  | e :: r, k, v, ⟨h1, h2⟩ => by
    unfold updS
    by_cases h : e.1 = k
    · rw [if_pos h]
      exact ⟨by rw [← h]; exact h1, h2⟩
    · rw [if_neg h]
      exact ⟨by rw [valS_upd, if_neg h]; exact h1, onceS_upd r k v h2⟩
theorem onceS_del {α : Type} : ∀ (E : List (List Nat × α)) (k : List Nat), onceS E → onceS (delS E k)
  | [], k, _ => trivial
  | e :: r, k, ⟨h1, h2⟩ => by
    unfold delS
    by_cases h : e.1 = k
    · rw [if_pos h]; exact h2
    · rw [if_neg h]
      refine ⟨?_, onceS_del r k h2⟩
      rw [valS_del r h2]
      split
      · rfl
      · exact h1
theorem eqSs {kt : TypeId} (hk : P.underlying kt = some .string) (h : AH) (a b : List Nat) : eqA P h 12 kt (.str a) (.str b) = some (decide (a = b)) := by
  show eqA P h (11 + 1) kt _ _ = _
  unfold eqA
  rw [hk]
  simp only [eqL_eq]
theorem find_enS {kt : TypeId} (hk : P.underlying kt = some .string) (h : AH) (k : List Nat) : ∀ (E : Ent) (i : Nat), findA P h kt (.str k) (enS E) i = some ((fndS E k i).map fun x => (x.1, .str k, x.2))
  | [], _ => rfl
  | e :: r, i => by
    show findA P h kt (.str k) ((.str e.1, e.2) :: enS r) i = _
    unfold findA fndS
    simp only [eqSs hk, Option.bind_eq_bind, Option.bind_some]
    by_cases hx : e.1 = k
    · rw [if_pos hx, if_pos (by simp [hx]), hx]; rfl
    · rw [if_neg hx, if_neg (by simpa using fun hh => hx hh.symm)]
      exact find_enS hk h k r (i + 1)
theorem fndS_some : ∀ (E : Ent) (k : List Nat) (i p : Nat) (w v : AV), fndS E k i = some (p, w) → i ≤ p ∧ setNth (.str k, v) (enS E) (p - i) = enS (updS E k v) ∧ eraseNth (enS E) (p - i) = enS (delS E k)
  | [], _, _, _, _, _, h => by cases h
  | e :: r, k, i, p, w, v, h => by
    unfold fndS at h
    by_cases hk : e.1 = k
    · rw [if_pos hk] at h
      cases h
      refine ⟨Nat.le_refl _, ?_, ?_⟩
      · unfold updS
        rw [if_pos hk, Nat.sub_self]
        rfl
      · unfold delS
        rw [if_pos hk, Nat.sub_self]
        rfl
    · rw [if_neg hk] at h
      obtain ⟨h1, h2, h3⟩ := fndS_some r k (i + 1) p w v h
      obtain ⟨q, hq⟩ : ∃ q, p - i = q + 1 := ⟨p - i - 1, by omega⟩
      have hq2 : p - (i + 1) = q := by omega
      rw [hq]
      rw [hq2] at h2 h3
      refine ⟨by omega, ?_, ?_⟩
      · unfold updS
        rw [if_neg hk]
        show (_ :: setNth (.str k, v) (enS r) q) = _ :: _
        rw [h2]
        rfl
      · unfold delS
        rw [if_neg hk]
        show (_ :: eraseNth (enS r) q) = _ :: _
        rw [h3]
        rfl
theorem fndS_none : ∀ (E : Ent) (k : List Nat) (i : Nat) (v : AV), fndS E k i = none → enS E ++ [(.str k, v)] = enS (updS E k v) ∧ diffAll (.str k) (enS E) = true ∧ delS E k = E
  | [], _, _, _, _ => ⟨rfl, rfl, rfl⟩
  | e :: r, k, i, v, h => by
    unfold fndS at h
    by_cases hk : e.1 = k
    · rw [if_pos hk] at h; cases h
    · rw [if_neg hk] at h
      obtain ⟨h1, h2, h3⟩ := fndS_none r k (i + 1) v h
      unfold updS delS
      rw [if_neg hk, if_neg hk]
      refine ⟨?_, ?_, by rw [h3]⟩
      · show _ :: (enS r ++ _) = _ :: _
        rw [h1]; rfl
      · show (diffSimple (.str e.1) (.str k) && diffAll (.str k) (enS r)) = true
        rw [h2]
        simp [diffSimple, diffScalar, eqL_eq, hk]
theorem chkS {kt : TypeId} (hk : P.underlying kt = some .string) (k : List Nat) : checkA P 12 kt (.str k) = true := by
  show checkA P (11 + 1) kt _ = true
  unfold checkA
  rw [hk]
theorem lookS {t kt et : TypeId} (ht : P.underlying t = some (.map kt et)) (hk : P.underlying kt = some .string) {z : AV} (hz : (tzero P et).map toAV = some z) {h : AH} {m : Nat} {E : Ent} {bs : List Nat} {ck : Nat} (hm : h.get m = some (.map (enS E) bs ck)) (k : List Nat) :
    evLookup P h t (.map m) (.str k) false = some ((valS E k).getD z) ∧ evLookup P h t (.map m) (.str k) true = some (.tup [(valS E k).getD z, .bool (valS E k).isSome]) := by
  rw [← fndS_val E k 0]
  obtain ⟨y, hy, hy2⟩ : ∃ y, tzero P et = some y ∧ toAV y = z := by
    cases hh : tzero P et with
    | none => rw [hh] at hz; cases hz
    | some y => rw [hh] at hz; exact ⟨y, rfl, Option.some.inj hz⟩
  unfold evLookup
  simp only [ht, chkS hk, Bool.not_true, hm, Option.bind_eq_bind, Option.bind_some, find_enS hk]
  cases hf : fndS E k 0 with
  | none => simp [lookRes, hy, hy2]
  | some x => simp [lookRes]
theorem setS {t kt et : TypeId} (ht : P.underlying t = some (.map kt et)) (hk : P.underlying kt = some .string) {h : AH} {m : Nat} {E : Ent} {bs : List Nat} {ck : Nat} (hm : h.get m = some (.map (enS E) bs ck)) (k : List Nat) (v : AV) :
    ∃ bs' ck', evMapUpdate P h t (.map m) (.str k) v = some (.skip (h.put m (.map (enS (updS E k v)) bs' ck'))) := by
  unfold evMapUpdate
  have hs : simpleA (.str k) = true := rfl
  have hss : sameSimple (.str k) (.str k) = true := by simp [sameSimple, sameScalar, eqL_eq]
  simp only [ht, chkS hk, hs, Bool.not_true, Bool.or_false, hm, Option.bind_eq_bind, Option.bind_some, find_enS hk]
  cases hf : fndS E k 0 with
  | none =>
    obtain ⟨h1, h2, _⟩ := fndS_none E k 0 v hf
    exact ⟨bs ++ [ck], ck + 1, by simp [h1, h2]⟩
  | some x =>
    obtain ⟨p, w⟩ := x
    obtain ⟨h1, h2, _⟩ := fndS_some E k 0 p w v hf
    rw [Nat.sub_zero] at h2
    exact ⟨bs, ck, by simp [hs, hss, h2]⟩
theorem rmS {t kt et : TypeId} {ats : Array TypeId} (ha : ats[0]? = some t) (ht : P.underlying t = some (.map kt et)) (hk : P.underlying kt = some .string) {h : AH} {m : Nat} {E : Ent} {bs : List Nat} {ck : Nat} (hm : h.get m = some (.map (enS E) bs ck)) (k : List Nat) :
    ∃ bs' h', evDelete P h ats (.map m) (.str k) = some (.val (.tup []) h') ∧ h'.nx = h.nx ∧ h'.get m = some (.map (enS (delS E k)) bs' ck) ∧ ∀ j, j ≠ m → h'.get j = h.get j := by
  unfold evDelete
  simp only [ha, ht, chkS hk, Bool.not_true, hm, Option.bind_eq_bind, Option.bind_some, find_enS hk]
  cases hf : fndS E k 0 with
  | none =>
    obtain ⟨_, _, h3⟩ := fndS_none E k 0 .junk hf
    exact ⟨bs, h, by simp, rfl, by rw [h3]; exact hm, fun _ _ => rfl⟩
  | some x =>
    obtain ⟨p, w⟩ := x
    obtain ⟨h1, _, h2⟩ := fndS_some E k 0 p w .junk hf
    rw [Nat.sub_zero] at h2
    exact ⟨bs.eraseIdx p, h.put m (.map (enS (delS E k)) (bs.eraseIdx p) ck), by simp [h2], rfl, AH.get_put_eq rfl, fun j hj => AH.get_put_ne hj⟩
/-- Values that are turned. -/
def mapS {α β : Type} (f : α → β) (E : List (List Nat × α)) : List (List Nat × β) := E.map fun e => (e.1, f e.2)
theorem mapS_val {α β : Type} (f : α → β) : ∀ (E : List (List Nat × α)) (k : List Nat), valS (mapS f E) k = (valS E k).map f
  | [], _ => rfl
  | e :: r, k => by
    show valS ((e.1, f e.2) :: mapS f r) k = _
    unfold valS
    by_cases h : e.1 = k
    · rw [if_pos h, if_pos h]; rfl
    · rw [if_neg h, if_neg h]; exact mapS_val f r k
theorem mapS_upd {α β : Type} (f : α → β) : ∀ (E : List (List Nat × α)) (k : List Nat) (v : α), updS (mapS f E) k (f v) = mapS f (updS E k v)
  | [], _, _ => rfl
  | e :: r, k, v => by
    show updS ((e.1, f e.2) :: mapS f r) k (f v) = _
    unfold updS
    by_cases h : e.1 = k
    · rw [if_pos h, if_pos h]; rfl
    · rw [if_neg h, if_neg h, mapS_upd f r k v]
      try rfl
theorem mapS_del {α β : Type} (f : α → β) : ∀ (E : List (List Nat × α)) (k : List Nat), delS (mapS f E) k = mapS f (delS E k)
  | [], _ => rfl
  | e :: r, k => by
    show delS ((e.1, f e.2) :: mapS f r) k = _
    unfold delS
    by_cases h : e.1 = k
    · rw [if_pos h, if_pos h]
    · rw [if_neg h, if_neg h, mapS_del f r k]
      rfl
theorem valS_mem {α : Type} : ∀ (E : List (List Nat × α)) (k : List Nat) (v : α), valS E k = some v → (k, v) ∈ E
  | e :: r, k, v, h => by
    unfold valS at h
    by_cases hk : e.1 = k
    · rw [if_pos hk] at h
      cases h
      rw [← hk]
      exact List.mem_cons_self ..
    · rw [if_neg hk] at h
      exact List.mem_cons_of_mem _ (valS_mem r k v h)
/-- The keys of entries. -/
theorem keysA_enS : ∀ (E : Ent), (∀ e ∈ E, e.1.length ≤ 1099511627776) → keysA (enS E) = some (E.map (·.1))
  | [], _ => rfl
  | e :: r, h => by
    show keysA ((.str e.1, e.2) :: enS r) = _
    unfold keysA
    rw [keysA_enS r fun x hx => h x (List.mem_cons_of_mem _ hx)]
    simp only
    rw [if_pos (h e (List.mem_cons_self ..))]
    rfl
end
end Go.Abs
end

section
namespace Go.Abs
open Go
set_option linter.unusedVariables false

abbrev Pth := List Nat
structure Fil where
  b : List Nat
  s : List Nat
  st : Nat
inductive Nte where
  | mk (p : Pth) (i : Nat)
  | ren (a b : Pth)
  | rm (p : Pth)
abbrev Ixs := List (Pth × Nat)
/-- A change of paths. -/
def doN : Nte → Ixs → Ixs
  | .mk p i, E => updS E p i
  | .ren a b, E => match valS E a with
    | some i => delS (updS E b i) a
    | none => E
  | .rm p, E => delS E p
def doAll : List Nte → Ixs → Ixs
  | [], E => E
  | n :: r, E => doAll r (doN n E)
/-- A tree: the files are counted in the order in which they were made. -/
structure TT where
  room : Int
  now : Ixs
  safe : Ixs
  notes : List Nte
  clock : Nat
  off : Bool
  fuse : Int
  files : List Fil
def newT (room : Int) : TT := ⟨room, [], [], [], 0, false, -1, []⟩
def TT.fil (T : TT) (i : Nat) : Fil := (T.files[i]?).getD ⟨[], [], 0⟩
def lenE (fs : List Fil) : Ixs → Nat
  | [] => 0
  | e :: r => ((fs[e.2]?).getD ⟨[], [], 0⟩).b.length + lenE fs r
def TT.used (T : TT) : Nat := lenE T.files T.now
def opT (T : TT) (ok : Bool) : Nat × TT :=
  if ok = false then (2, T) else if T.off = true then (11, T) else if T.fuse = 0 then (11, { T with off := true, fuse := -1 }) else if 0 < T.fuse then (0, { T with fuse := T.fuse - 1 }) else (0, T)
def noteT (T : TT) (n : Nte) : TT := { T with now := doN n T.now, notes := T.notes ++ [n] }
def tickT (T : TT) : TT := { T with clock := T.clock + 1 }
def makeT (T : TT) (ok : Bool) (p : Pth) : Nat × TT :=
  let r := opT T ok
  if r.1 ≠ 0 then r else match valS r.2.now p with
    | some _ => (7, r.2)
    | none => (0, noteT { r.2 with clock := r.2.clock + 1, files := r.2.files ++ [⟨[], [], r.2.clock + 1⟩] } (.mk p r.2.files.length))
def putT (T : TT) (ok : Bool) (p : Pth) (g : List Nat → List Nat) : Nat × TT :=
  let r := opT T ok
  if r.1 ≠ 0 then r else match valS r.2.now p with
    | none => (6, r.2)
    | some i => if T.room < (r.2.used : Int) - (r.2.fil i).b.length + (g (r.2.fil i).b).length then (10, r.2)
      else (0, { r.2 with clock := r.2.clock + 1, files := r.2.files.set i ⟨g (r.2.fil i).b, (r.2.fil i).s, r.2.clock + 1⟩ })
def syncT (T : TT) (ok : Bool) (p : Pth) : Nat × TT :=
  let r := opT T ok
  if r.1 ≠ 0 then r else match valS r.2.now p with
    | none => (6, r.2)
    | some i => (0, { r.2 with files := r.2.files.set i ⟨(r.2.fil i).b, (r.2.fil i).b, (r.2.fil i).st⟩ })
def keepT (T : TT) (n : Nat) : TT := { T with safe := doAll (T.notes.take n) T.safe, notes := [] }
def syncPT (T : TT) : Nat × TT :=
  let r := opT T true
  if r.1 ≠ 0 then r else (0, keepT r.2 r.2.notes.length)
def renT (T : TT) (ok : Bool) (a b : Pth) : Nat × TT :=
  let r := opT T ok
  if r.1 ≠ 0 then r else match valS r.2.now a with
    | none => (6, r.2)
    | some _ => if a = b then (0, r.2) else (0, noteT (tickT r.2) (.ren a b))
def rmT (T : TT) (ok : Bool) (p : Pth) : Nat × TT :=
  let r := opT T ok
  if r.1 ≠ 0 then r else match valS r.2.now p with
    | none => (6, r.2)
    | some _ => (0, noteT (tickT r.2) (.rm p))
def readT (T : TT) (ok : Bool) (p : Pth) : List Nat × Nat × TT :=
  let r := opT T ok
  if r.1 ≠ 0 then ([], r) else match valS r.2.now p with
    | none => ([], 6, r.2)
    | some i => ((r.2.fil i).b, 0, r.2)
def statT (T : TT) (p : Pth) : Nat × Nat × Bool := match valS T.now p with
  | none => (0, 0, false)
  | some i => ((T.fil i).b.length, (T.fil i).st, true)
def leftF (f : Fil) (part : Int) : List Nat :=
  if f.b.take f.s.length = f.s then f.b.take (f.s.length + (max 0 part).toNat % (f.b.length - f.s.length + 1)) else f.s
def hd0 : List Int → Int
  | [] => 0
  | a :: _ => a
/-- One file after a crash. -/
def crash1 (was : Ixs) (T : TT) (s : Pth) (part : Int) : TT := match valS T.safe s with
  | none => T
  | some i =>
    let b := leftF (T.fil i) part
    if valS was s = some i ∧ b = (T.fil i).b then { T with now := updS T.now s T.files.length, files := T.files ++ [⟨b, b, (T.fil i).st⟩] }
    else { T with clock := T.clock + 1, now := updS T.now s T.files.length, files := T.files ++ [⟨b, b, T.clock + 1⟩] }
def crashL (was : Ixs) : TT → List Pth → List Int → TT
  | T, [], _ => T
  | T, s :: r, ps => crashL was (crash1 was T s (hd0 ps)) r ps.tail
def crashT (T : TT) (keep : Int) (parts : List Int) : TT :=
  let T1 := keepT T ((max 0 keep).toNat % (T.notes.length + 1))
  let T2 := crashL T.now { T1 with clock := T1.clock + 1, now := [] } (sortS (T1.safe.map (·.1))) parts
  { T2 with safe := T2.now, off := false, fuse := -1 }

/-! ### What is right of every tree -/
def NteOK (n : Nat) : Nte → Prop
  | .mk p i => i < n ∧ p.length ≤ 69
  | .ren a b => b.length ≤ 69
  | .rm _ => True
def IxOK (n : Nat) (E : Ixs) : Prop := onceS E ∧ ∀ k i, valS E k = some i → i < n ∧ k.length ≤ 69
def FilOK (f : Fil) : Prop := (∀ b ∈ f.b, b < 256) ∧ (∀ b ∈ f.s, b < 256) ∧ f.b.length ≤ 67108864 ∧ f.s.length ≤ 67108864
theorem FilOK.zero (n : Nat) : FilOK ⟨[], [], n⟩ := ⟨fun b hb => by simp at hb, fun b hb => by simp at hb, Nat.zero_le _, Nat.zero_le _⟩
structure Wf (T : TT) : Prop where
  now : IxOK T.files.length T.now
  safe : IxOK T.files.length T.safe
  notes : ∀ n ∈ T.notes, NteOK T.files.length n
  fuse : -1 ≤ T.fuse ∧ T.fuse ≤ 9223372036854775807
  room : 0 ≤ T.room ∧ T.room ≤ 67108864
  byt : ∀ f ∈ T.files, FilOK f
theorem IxOK.mono {n m : Nat} {E : Ixs} (h : IxOK n E) (hm : n ≤ m) : IxOK m E := ⟨h.1, fun k i hk => ⟨Nat.lt_of_lt_of_le (h.2 k i hk).1 hm, (h.2 k i hk).2⟩⟩
theorem NteOK.mono {n m : Nat} : ∀ {t : Nte}, NteOK n t → n ≤ m → NteOK m t
  | .mk _ _, h, hm => ⟨Nat.lt_of_lt_of_le h.1 hm, h.2⟩
  | .ren _ _, h, _ => h
  | .rm _, _, _ => trivial
theorem IxOK.upd {n : Nat} {E : Ixs} (h : IxOK n E) (p : Pth) {i : Nat} (hi : i < n) (hp : p.length ≤ 69) : IxOK n (updS E p i) := by
  refine ⟨onceS_upd _ _ _ h.1, fun k j hk => ?_⟩
  rw [valS_upd] at hk
  split at hk
  · rename_i hh
    cases hk; exact ⟨hi, by rw [hh]; exact hp⟩
  · exact h.2 k j hk
theorem IxOK.del {n : Nat} {E : Ixs} (h : IxOK n E) (p : Pth) : IxOK n (delS E p) := by
  refine ⟨onceS_del _ _ h.1, fun k j hk => ?_⟩
  rw [valS_del _ h.1] at hk
  split at hk
  · cases hk
  · exact h.2 k j hk
theorem IxOK.nil (n : Nat) : IxOK n [] := ⟨trivial, fun k i h => by cases h⟩
theorem IxOK.doN {n : Nat} {E : Ixs} (h : IxOK n E) : ∀ {t : Nte}, NteOK n t → IxOK n (doN t E)
  | .mk p i, ht => h.upd p ht.1 ht.2
  | .ren a b, ht => by
    show IxOK n (match valS E a with | some i => delS (updS E b i) a | none => E)
    cases hv : valS E a with
    | none => exact h
    | some i => exact (h.upd b (h.2 a i hv).1 ht).del a
  | .rm p, _ => h.del p
theorem IxOK.doAll {n : Nat} : ∀ {l : List Nte} {E : Ixs}, IxOK n E → (∀ t ∈ l, NteOK n t) → IxOK n (doAll l E)
  | [], _, h, _ => h
  | t :: r, E, h, hl => IxOK.doAll (l := r) (h.doN (hl t (List.mem_cons_self ..))) fun x hx => hl x (List.mem_cons_of_mem _ hx)
theorem Wf.new {room : Int} (h : 0 ≤ room ∧ room ≤ 67108864) : Wf (newT room) :=
  ⟨IxOK.nil _, IxOK.nil _, fun n hn => by simp [newT] at hn, ⟨Int.le_refl _, show (-1 : Int) ≤ 9223372036854775807 by decide⟩, h, fun f hf => by simp [newT] at hf⟩
theorem opT_eq (T : TT) (ok : Bool) : (opT T ok).2.room = T.room ∧ (opT T ok).2.now = T.now ∧ (opT T ok).2.safe = T.safe ∧ (opT T ok).2.notes = T.notes ∧ (opT T ok).2.clock = T.clock ∧ (opT T ok).2.files = T.files := by
  unfold opT
  repeat' split
  all_goals exact ⟨rfl, rfl, rfl, rfl, rfl, rfl⟩
theorem Wf.op {T : TT} (h : Wf T) (ok : Bool) : Wf (opT T ok).2 := by
  obtain ⟨h1, h2, h3, h4, h5, h6⟩ := h
  unfold opT
  repeat' split
  all_goals first
    | exact ⟨h1, h2, h3, h4, h5, h6⟩
    | exact ⟨h1, h2, h3, ⟨by decide, by decide⟩, h5, h6⟩
    | (refine ⟨h1, h2, h3, ⟨?_, ?_⟩, h5, h6⟩ <;> simp only <;> omega)
theorem Wf.tick {T : TT} (h : Wf T) : Wf (tickT T) := ⟨h.1, h.2, h.3, h.4, h.5, h.6⟩
theorem Wf.note {T : TT} (h : Wf T) {n : Nte} (hn : NteOK T.files.length n) : Wf (noteT T n) := by
  refine ⟨h.1.doN hn, h.2, fun t ht => ?_, h.4, h.5, h.6⟩
  rcases List.mem_append.1 ht with h1 | h1
  · exact h.3 t h1
  · rw [List.mem_singleton.1 h1]; exact hn
theorem Wf.grow {T : TT} (h : Wf T) (f : Fil) (hf : FilOK f) (c : Nat) : Wf { T with clock := c, files := T.files ++ [f] } := by
  have hle : T.files.length ≤ (T.files ++ [f]).length := by simp
  refine ⟨h.1.mono hle, h.2.mono hle, fun t ht => (h.3 t ht).mono hle, h.4, h.5, fun x hx => ?_⟩
  rcases List.mem_append.1 hx with h1 | h1
  · exact h.6 x h1
  · rw [List.mem_singleton.1 h1]; exact hf
theorem opT_ok {T : TT} {ok : Bool} (h : ¬ (opT T ok).1 ≠ 0) : ok = true := by
  cases ok
  · exact absurd (show (opT T false).1 ≠ 0 by simp [opT]) h
  · rfl
theorem Wf.make {T : TT} (h : Wf T) (ok : Bool) (p : Pth) (hp : ok = true → p.length ≤ 69) : Wf (makeT T ok p).2 := by
  unfold makeT
  dsimp only
  split
  · exact h.op ok
  · rename_i hh
    split
    · exact h.op ok
    · refine Wf.note (Wf.grow (h.op ok) _ (FilOK.zero _) _) ⟨?_, hp (opT_ok hh)⟩
      show (opT T ok).2.files.length < ((opT T ok).2.files ++ [_]).length
      simp
theorem fil_ok {T : TT} (h : Wf T) (i : Nat) : FilOK (T.fil i) := by
  unfold TT.fil
  cases hf : T.files[i]? with
  | none => exact FilOK.zero _
  | some f => exact h.6 f (List.mem_iff_getElem?.2 ⟨i, hf⟩)
theorem Wf.set {T : TT} (h : Wf T) (i : Nat) {f : Fil} (hf : FilOK f) (c : Nat) : Wf { T with clock := c, files := T.files.set i f } := by
  have e : (T.files.set i f).length = T.files.length := by simp
  refine ⟨by rw [e]; exact h.1, by rw [e]; exact h.2, by rw [e]; exact h.3, h.4, h.5, fun x hx => ?_⟩
  rcases List.mem_or_eq_of_mem_set hx with h1 | rfl
  · exact h.6 x h1
  · exact hf
theorem lenE_ge {fs : List Fil} : ∀ {E : Ixs} {p : Pth} {i : Nat}, valS E p = some i → ((fs[i]?).getD ⟨[], [], 0⟩).b.length ≤ lenE fs E
  | e :: r, p, i, h => by
    unfold valS at h
    unfold lenE
    by_cases hk : e.1 = p
    · rw [if_pos hk] at h
      cases h
      omega
    · rw [if_neg hk] at h
      have := lenE_ge (fs := fs) h
      omega
theorem lenE_le {fs : List Fil} {n : Nat} (hn : ∀ f ∈ fs, f.b.length ≤ n) : ∀ (E : Ixs), lenE fs E ≤ E.length * n
  | [] => by simp [lenE]
  | e :: r => by
    have ih := lenE_le hn r
    have h1 : ((fs[e.2]?).getD ⟨[], [], 0⟩).b.length ≤ n := by
      cases hf : fs[e.2]? with
      | none => exact Nat.zero_le _
      | some f => exact hn f (List.mem_iff_getElem?.2 ⟨_, hf⟩)
    unfold lenE
    rw [List.length_cons, Nat.succ_mul]
    omega
theorem Wf.put {T : TT} (h : Wf T) (ok : Bool) (p : Pth) {g : List Nat → List Nat} (hg : ∀ l, (∀ b ∈ l, b < 256) → ∀ b ∈ g l, b < 256) : Wf (putT T ok p g).2 := by
  have hw := h.op ok
  have hr := (opT_eq T ok).1
  unfold putT
  dsimp only
  split
  · exact hw
  · split
    · exact hw
    · rename_i i hv
      split
      · exact hw
      · rename_i hu
        have hge : ((opT T ok).2.fil i).b.length ≤ (opT T ok).2.used := lenE_ge hv
        have hl := h.room
        obtain ⟨q1, q2, q3, q4⟩ := fil_ok hw i
        refine Wf.set hw _ ?_ _
        refine ⟨hg _ q1, q2, ?_, q4⟩
        show (g ((opT T ok).2.fil i).b).length ≤ 67108864
        omega
theorem Wf.sync {T : TT} (h : Wf T) (ok : Bool) (p : Pth) : Wf (syncT T ok p).2 := by
  unfold syncT
  dsimp only
  split
  · exact h.op ok
  · split
    · exact h.op ok
    · rename_i i hv
      obtain ⟨q1, q2, q3, q4⟩ := fil_ok (h.op ok) i
      refine Wf.set (h.op ok) _ ?_ _
      exact ⟨q1, q1, q3, q3⟩
theorem Wf.keep {T : TT} (h : Wf T) (n : Nat) : Wf (keepT T n) :=
  ⟨h.1, h.2.doAll fun t ht => h.3 t (List.mem_of_mem_take ht), fun t ht => by simp [keepT] at ht, h.4, h.5, h.6⟩
theorem Wf.syncP {T : TT} (h : Wf T) : Wf (syncPT T).2 := by
  unfold syncPT
  dsimp only
  split
  · exact h.op true
  · exact (h.op true).keep _
theorem Wf.ren {T : TT} (h : Wf T) (ok : Bool) (a b : Pth) (hb : ok = true → b.length ≤ 69) : Wf (renT T ok a b).2 := by
  unfold renT
  dsimp only
  split
  · exact h.op ok
  · rename_i hh
    split
    · exact h.op ok
    · split
      · exact h.op ok
      · exact Wf.note (h.op ok).tick (hb (opT_ok hh))
theorem Wf.rm {T : TT} (h : Wf T) (ok : Bool) (p : Pth) : Wf (rmT T ok p).2 := by
  unfold rmT
  dsimp only
  split
  · exact h.op ok
  · split
    · exact h.op ok
    · exact Wf.note (h.op ok).tick trivial
theorem Wf.read {T : TT} (h : Wf T) (ok : Bool) (p : Pth) : Wf (readT T ok p).2.2 := by
  unfold readT
  dsimp only
  split
  · exact h.op ok
  · split <;> exact h.op ok
theorem leftF_ok {f : Fil} (h : FilOK f) (part : Int) (n : Nat) : FilOK ⟨leftF f part, leftF f part, n⟩ := by
  have key : (∀ b ∈ leftF f part, b < 256) ∧ (leftF f part).length ≤ 67108864 := by
    unfold leftF
    split
    · refine ⟨fun b hb => h.1 b (List.mem_of_mem_take hb), ?_⟩
      have := h.2.2.1
      rw [List.length_take]
      omega
    · exact ⟨h.2.1, h.2.2.2⟩
  exact ⟨key.1, key.1, key.2, key.2⟩
theorem Wf.crash1 {was : Ixs} {T : TT} (h : Wf T) (s : Pth) (part : Int) : Wf (crash1 was T s part) := by
  unfold Abs.crash1
  split
  · exact h
  · rename_i i hi
    have hs := (h.2.2 s i hi).2
    dsimp only
    split
    · have h2 := Wf.grow h _ (leftF_ok (fil_ok h i) part (T.fil i).st) T.clock
      exact ⟨h2.1.upd _ (by simp) hs, h2.2, h2.3, h2.4, h2.5, h2.6⟩
    · have h2 := Wf.grow h _ (leftF_ok (fil_ok h i) part (T.clock + 1)) (T.clock + 1)
      exact ⟨h2.1.upd _ (by simp) hs, h2.2, h2.3, h2.4, h2.5, h2.6⟩
theorem Wf.crashL {was : Ixs} : ∀ {l : List Pth} {T : TT} {ps : List Int}, Wf T → Wf (crashL was T l ps)
  | [], _, _, h => h
  | s :: r, T, ps, h => Wf.crashL (l := r) (h.crash1 s (hd0 ps))
theorem Wf.crash {T : TT} (h : Wf T) (keep : Int) (parts : List Int) : Wf (crashT T keep parts) := by
  unfold crashT
  dsimp only
  have h1 := h.keep ((max 0 keep).toNat % (T.notes.length + 1))
  have h2 : Wf { keepT T ((max 0 keep).toNat % (T.notes.length + 1)) with clock := (keepT T ((max 0 keep).toNat % (T.notes.length + 1))).clock + 1, now := [] } := ⟨IxOK.nil _, h1.2, h1.3, h1.4, h1.5, h1.6⟩
  have h3 := Wf.crashL (was := T.now) (l := sortS ((keepT T ((max 0 keep).toNat % (T.notes.length + 1))).safe.map (·.1))) (ps := parts) h2
  exact ⟨h3.1, h3.1, h3.3, ⟨Int.le_refl _, show (-1 : Int) ≤ 9223372036854775807 by decide⟩, h3.5, h3.6⟩
end Go.Abs
end
