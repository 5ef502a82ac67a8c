/- The abstract layer, part 5: operators. -/
import Derived.Test.YticccdaomgildaaGreatDoorAbs4
import Derived.Lib.Strings
import Derived.Lib.SmallJoins
import Derived.Laws.Strings
import Derived.Laws.Append
import Derived.Laws.StructEq
namespace Go.Abs
open Go

section
variable {P : Program} {ρ : Pm} {w : World} {K : Kp} {h : AH}

theorem nbeq (a b : Nat) : Nat.beq a b = decide (a = b) := by
  by_cases e : a = b
  · subst e; simp
  · cases hh : Nat.beq a b with
    | false => simp [e]
    | true => exact absurd (Nat.eq_of_beq_eq_true hh) e

theorem eqL_eq : ∀ (x y : List Nat), eqL x y = decide (x = y)
  | [], [] => rfl
  | a :: x, b :: y => by
    simp only [eqL, nbeq, eqL_eq x y, List.cons.injEq]
    by_cases h1 : a = b <;> by_cases h2 : x = y <;> simp [h1, h2]
  | [], _ :: _ => by simp [eqL]
  | _ :: _, [] => by simp [eqL]

theorem eqL_bytes (x y : ByteArray) : eqL (bytesOf x) (bytesOf y) = (x.toList == y.toList) := by
  rw [eqL_eq, ByteArray.toList_eq, ByteArray.toList_eq]
  unfold bytesOf
  have : (x.data.toList.map UInt8.toNat = y.data.toList.map UInt8.toNat) ↔ x.data.toList = y.data.toList :=
    List.map_inj_right (fun a b hab => UInt8.toNat_inj.1 hab)
  rw [Bool.eq_iff_iff]
  simp [this]

theorem eqL_bytes' (x y : ByteArray) : eqL (bytesOf x) (bytesOf y) = (x == y) := by rw [eqL_bytes, beq_toListBytes]

theorem lessA_map : ∀ (x y : List UInt8), lessA (x.map UInt8.toNat) (y.map UInt8.toNat) = Op.bytesLess x y
  | _, [] => by simp [lessA, Op.bytesLess]
  | [], _ :: _ => by simp [lessA, Op.bytesLess]
  | a :: x, b :: y => by
    simp only [List.map_cons, lessA, Op.bytesLess, lessA_map x y, nbeq]
    have h1 : Nat.blt a.toNat b.toNat = decide (a < b) := by
      rw [Bool.eq_iff_iff]; simp [Nat.blt_eq, UInt8.lt_iff_toNat_lt]
    have h2 : decide (a.toNat = b.toNat) = (a == b) := by
      rw [Bool.eq_iff_iff]; simp [UInt8.toNat_inj]
    rw [h1, h2]

theorem lessA_bytes (x y : ByteArray) : lessA (bytesOf x) (bytesOf y) = Op.bytesLess x.toList y.toList := by
  rw [ByteArray.toList_eq, ByteArray.toList_eq]; exact lessA_map _ _

theorem bytesOf_length (s : ByteArray) : (bytesOf s).length = s.size := by simp [bytesOf]
theorem bytesOf_append (x y : ByteArray) : bytesOf (x ++ y) = bytesOf x ++ bytesOf y := by
  simp [bytesOf]
theorem bytesOf_extract (s : ByteArray) (a b : Nat) : bytesOf (s.extract a b) = ((bytesOf s).drop a).take (b - a) := by
  simp [bytesOf, List.map_drop, List.map_take]

theorem intA_sound {op : BinOp} {k : IntKind} {x y : Int} {a : AV} (ha : intA op k x y = some a) :
    ∃ cv, (match op with
      | .add | .sub | .mul => Op.intArith op k x y
      | .quo | .rem => Op.intDiv op k x y
      | .and | .or | .xor | .andNot => Op.intBits op k x y
      | _ => Op.intCmp op x y).run P w = .ok cv w ∧ VR ρ a cv := by
  cases op <;> simp only [intA, Option.some.injEq, reduceCtorEq] at ha
  all_goals first
    | (subst ha; refine ⟨_, rfl, by constructor⟩)
    | (split at ha
       · simp at ha
       · rename_i hy
         simp only [Option.some.injEq] at ha
         subst ha
         refine ⟨_, by simp only [Op.intDiv, if_neg hy]; rfl, by constructor⟩)

theorem shiftA_sound {op : BinOp} {k : IntKind} {x y : Int} {a : AV} (ha : shiftA op k x y = some a) :
    ∃ cv, (∀ yk, (Op.shift op k x yk y).run P w = .ok cv w) ∧ VR ρ a cv := by
  unfold shiftA at ha
  split at ha
  · simp at ha
  · rename_i hy
    unfold Op.shift
    simp only [if_neg hy]
    cases op <;> simp only [Option.some.injEq, reduceCtorEq] at ha
    · subst ha; exact ⟨_, fun _ => rfl, by constructor⟩
    · subst ha; exact ⟨_, fun _ => rfl, by constructor⟩

theorem strA_sound {op : BinOp} {x y : ByteArray} {a : AV} (ha : strA op (bytesOf x) (bytesOf y) = some a) :
    ∃ cv, (Op.stringOp op x y).run P w = .ok cv w ∧ VR ρ a cv := by
  unfold strA at ha
  unfold Op.stringOp
  simp only [bytesOf_length, eqL_bytes, lessA_bytes, ← bytesOf_append] at ha
  cases op <;> simp only [Option.some.injEq, reduceCtorEq] at ha
  all_goals first
    | (subst ha; exact ⟨_, rfl, by constructor⟩)
    | (split at ha
       · simp at ha
       · rename_i hc
         simp only [Option.some.injEq] at ha
         subst ha
         exact ⟨_, by simp only [if_neg hc]; rfl, .str _⟩)

/-! ### Equality -/
theorem plain_cells {id : Nat} (hp : plainBlock h id = true) : ∃ cs, h.get id = some (.cells cs true false) := by
  unfold plainBlock at hp
  split at hp
  · rename_i cs hg; exact ⟨cs, hg⟩
  · simp at hp

theorem sameAddr_apart {a b : Addr} {ca cb : Array Value} {ea eb : TypeId} (ha : w.heap[a.block]? = some (.cells ca ea (0, 0))) (hb : w.heap[b.block]? = some (.cells cb eb (0, 0)))
    (hab : a.block ≠ b.block) : (sameAddr a b).run P w = .ok false w := by
  have fa : ∀ o s, w.frozen? ⟨a.block, o, s⟩ = false := fun o s => by simp [World.frozen?, ha]
  have fb : ∀ o s, w.frozen? ⟨b.block, o, s⟩ = false := fun o s => by simp [World.frozen?, hb]
  have fa' : w.frozen? a = false := fa _ _
  have fb' : w.frozen? b = false := fb _ _
  have sa : w.shape? a.block = some (ea, ca.size) := by simp [World.shape?, ha]
  have sb : w.shape? b.block = some (eb, cb.size) := by simp [World.shape?, hb]
  have hne : (a.block == b.block) = false := by simpa using hab
  simp [sameAddr, hne, fa', fb', noView, viewAt, sa, sb, mayBeOne, stringish, fa, fb]

theorem eqFs_sound {d : Nat} {D : Nat} {xs ys : List AV} {cxs cys : Array Value} (hxs : VRs ρ xs cxs.toList) (hys : VRs ρ ys cys.toList)
    (ih : ∀ (t : TypeId) (x y : AV) (cx cy : Value) (b : Bool), VR ρ x cx → VR ρ y cy → eqA P h d t x y = some b → (Op.equalIn D t cx cy).run P w = .ok b w) :
    ∀ (l : List Field) (b : Bool), eqFs P (eqA P h d) xs ys l = some b → (Op.eqFields D cxs cys l).run P w = .ok b w
  | [], b, he => by simp [eqFs] at he; subst he; rfl
  | f :: r, b, he => by
    simp only [eqFs] at he
    by_cases hn : f.name = "_"
    · rw [if_pos hn] at he
      simp only [Op.eqFields, ne_eq, hn, not_true, if_false]
      exact eqFs_sound hxs hys ih r b he
    · rw [if_neg hn] at he
      simp only [Op.eqFields, ne_eq, hn, not_false_iff, if_true]
      cases ha : partA P f.type xs f.offset with
      | none => simp [ha] at he
      | some a =>
        cases hb : partA P f.type ys f.offset with
        | none => simp [ha, hb] at he
        | some a' =>
          cases hq : eqA P h d f.type a a' with
          | none => simp [ha, hb, hq] at he
          | some e =>
            simp only [ha, hb, hq, Option.bind_eq_bind, Option.bind_some] at he
            obtain ⟨ca, r1, v1⟩ := partA_sound (P := P) (w := w) hxs ha
            obtain ⟨cb, r2, v2⟩ := partA_sound (P := P) (w := w) hys hb
            have r3 := ih _ _ _ _ _ _ v1 v2 hq
            simp only [Sem.run_bind, r1, r2, r3, Result.andThen_ok]
            cases e with
            | false => simp at he; subst he; rfl
            | true =>
              simp only [if_true] at he
              simp only [Bool.not_true, Bool.false_eq_true, if_false]
              exact eqFs_sound hxs hys ih r b he

theorem eqA_sound (hR : Rel K ρ h w) : ∀ (d D : Nat) (t : TypeId) (x y : AV) (cx cy : Value) (b : Bool), d ≤ D → VR ρ x cx → VR ρ y cy → eqA P h d t x y = some b →
    (Op.equalIn D t cx cy).run P w = .ok b w := by
  intro d
  induction d with
  | zero => intro D t x y cx cy b _ _ _ he; simp [eqA] at he
  | succ d ih =>
    intro D t x y cx cy b hD hx hy he
    obtain ⟨D, rfl⟩ : ∃ D', D = D' + 1 := ⟨D - 1, by omega⟩
    unfold eqA at he
    split at he <;> (first | (cases he; done) | skip) <;> (try (cases hx; cases hy)) <;> (try simp only [Option.some.injEq] at he)
    all_goals (first | (subst he; simp [Op.equalIn, run_underlying' ‹P.underlying t = some _›]; done) | skip)
    · -- integers
      split at he
      · rename_i hk
        simp only [Option.some.injEq] at he
        subst he
        simp [Op.equalIn, run_underlying' ‹P.underlying t = some _›, hk]
      · simp at he
    · subst he
      simp only [Op.equalIn, run_underlying' ‹P.underlying t = some _›, Sem.run_bind, Result.andThen_ok, Sem.run_pure, eqL_bytes']
    · -- pointers
      rename_i e i a j b' hd p hp q hq
      split at he
      · simp at he
      · rename_i hsz
        simp only [Bool.or_eq_true, not_or, Bool.not_eq_true, Option.isNone_eq_false_iff, beq_eq_false_iff_ne, ne_eq] at hsz
        obtain ⟨hi, hz⟩ := hsz
        have hs : ∃ n, tsize P e = some n ∧ n ≠ 0 := by
          unfold tsize at hz ⊢
          cases hinfo : P.info? e with
          | none => simp [hinfo] at hi
          | some i => simp [hinfo] at hz ⊢; exact hz
        obtain ⟨n, hn, hn0⟩ := hs
        split at he
        · rename_i hij
          subst hij
          rw [hp] at hq; cases hq
          simp only [Option.some.injEq, nbeq] at he
          subst he
          have hb : ((⟨p.b, p.o + a, none⟩ : Addr) == ⟨p.b, p.o + b', none⟩) = decide (a = b') := by
            rw [Bool.eq_iff_iff]; simp
          simp [Op.equalIn, run_underlying' hd, run_sizeOf' hn, hn0, sameAddr, hb]
        · rename_i hij
          split at he
          · rename_i hpl
            simp only [Bool.and_eq_true] at hpl
            simp only [Option.some.injEq] at he
            subst he
            obtain ⟨c1, g1⟩ := plain_cells hpl.1
            obtain ⟨c2, g2⟩ := plain_cells hpl.2
            obtain ⟨p1, cc1, e1, f1, hp1, hb1, _, _, _, _, t1, _⟩ := hR.cells g1
            obtain ⟨p2, cc2, e2, f2, hp2, hb2, _, _, _, _, t2, _⟩ := hR.cells g2
            rw [hp] at hp1; cases hp1
            rw [hq] at hp2; cases hp2
            have hne : p.b ≠ q.b := fun eb => hij (hR.inj i j _ _ p q g1 g2 rfl rfl hp hq eb)
            rw [(t1 rfl rfl).1] at hb1
            rw [(t2 rfl rfl).1] at hb2
            have := sameAddr_apart (P := P) (a := ⟨p.b, p.o + a, none⟩) (b := ⟨q.b, q.o + b', none⟩) hb1 hb2 hne
            simp only [Op.equalIn, run_underlying' hd, run_sizeOf' hn, Sem.run_bind, Result.andThen_ok, ne_eq, hn0, not_false_iff, if_true]
            exact this
          · simp at he
    · -- structs
      rename_i fs xs ys hd cxs hxs cys hys
      split at he
      · simp at he
      · rename_i hst
        have hf : P.fieldsOf t = fs := by unfold Program.fieldsOf; rw [hd]
        have hd' : P.underlying t = some (.struct (P.fieldsOf t)) := by rw [hf, hd]
        rw [run_equalIn_struct w D t _ _ hd' (by simpa using hst), hf]
        exact eqFs_sound hxs hys (fun t x y cx cy b hx hy he => ih D t x y cx cy b (by omega) hx hy he) _ _ he
    · -- arrays
      rename_i n e xs ys hd cxs hxs cys hys
      cases hsz : tsize P e with
      | none => simp [hsz] at he
      | some sz =>
        simp only [hsz, Option.bind_eq_bind, Option.bind_some] at he
        simp only [Op.equalIn, Sem.run_bind, run_underlying' hd, run_sizeOf' hsz, Result.andThen_ok, Std.Legacy.Range.forIn_eq_forIn_range', Std.Legacy.Range.size, Nat.sub_zero, Nat.add_sub_cancel, Nat.div_one]
        have key : ∀ (n i : Nat) (b : Bool), eqEs P (eqA P h d) e sz xs ys n i = some b →
            (forIn (m := Sem) (List.range' i n) ((none, ()) : Option Bool × Unit) fun i _ => do
              let a ← part e cxs (i * sz)
              let b ← part e cys (i * sz)
              let r ← Op.equalIn D e a b
              if (!r) = true then pure (ForInStep.done (some false, ())) else pure (ForInStep.yield (none, ()))).run P w = .ok (if b then none else some false, ()) w := by
          intro n
          induction n with
          | zero => intro i b he; simp [eqEs] at he; subst he; simp
          | succ n ihn =>
            intro i b he
            simp only [eqEs] at he
            cases ha : partA P e xs (i * sz) with
            | none => simp [ha] at he
            | some a =>
              cases hb : partA P e ys (i * sz) with
              | none => simp [ha, hb] at he
              | some a' =>
                cases hq : eqA P h d e a a' with
                | none => simp [ha, hb, hq] at he
                | some q =>
                  simp only [ha, hb, hq, Option.bind_eq_bind, Option.bind_some] at he
                  obtain ⟨ca, r1, v1⟩ := partA_sound (P := P) (w := w) hxs ha
                  obtain ⟨cb, r2, v2⟩ := partA_sound (P := P) (w := w) hys hb
                  have r3 := ih D _ _ _ _ _ _ (by omega) v1 v2 hq
                  rw [List.range'_succ, List.forIn_cons]
                  simp only [Sem.run_bind, r1, r2, r3, Result.andThen_ok]
                  cases q with
                  | false => simp at he; subst he; simp
                  | true =>
                    simp only [if_true] at he
                    simp only [Bool.not_true, Bool.false_eq_true, if_false, Sem.run_pure, Result.andThen_ok]
                    exact ihn (i + 1) b he
        rw [key n 0 b he]
        cases b <;> rfl

theorem eqGuard_none {op : BinOp} {t : TypeId} {cx cy : Value} {ox oy : Operand} (h1 : ¬ (cx = .nilIface ∧ cy = .nilIface)) (h2 : ¬ ∃ a b, cx = .agg a ∧ cy = .agg b) :
    (eqGuard op t ox oy cx cy).run P w = .ok () w := by
  have key : ∀ (op : BinOp), op = .eql ∨ op = .neq → (eqGuard op t ox oy cx cy).run P w = .ok () w := by
    intro op ho
    rcases ho with rfl | rfl
    all_goals
      cases cx <;> cases cy <;> first
        | rfl
        | exact absurd ⟨rfl, rfl⟩ h1
        | exact absurd ⟨_, _, rfl, rfl⟩ h2
  cases op <;> first | rfl | exact key _ (.inl rfl) | exact key _ (.inr rfl)

theorem eqGuard_other {op : BinOp} {t : TypeId} {cx cy : Value} {ox oy : Operand} (h1 : cx ≠ .nilIface) (h2 : ∀ a, cx ≠ .agg a) : (eqGuard op t ox oy cx cy).run P w = .ok () w :=
  eqGuard_none (fun hh => h1 hh.1) (fun ⟨a, _, ha, _⟩ => h2 a ha)

theorem eqOk_sound {op : BinOp} {t : TypeId} {x y : AV} {cx cy : Value} {ox oy : Operand} (hx : VR ρ x cx) (hy : VR ρ y cy) (ho : eqOk P t x y = true) :
    (eqGuard op t ox oy cx cy).run P w = .ok () w := by
  by_cases hag : (∃ a b, cx = .agg a ∧ cy = .agg b)
  · obtain ⟨a, b, rfl, rfl⟩ := hag
    refine run_eqGuard_agg w op t ox oy a b ?_
    cases hx <;> cases hy <;> simp [eqOk] at ho
    exact ho
  · by_cases hni : cx = .nilIface ∧ cy = .nilIface
    · obtain ⟨rfl, rfl⟩ := hni
      cases hx <;> cases hy <;> simp [eqOk] at ho
    · exact eqGuard_none hni hag

theorem binOp_eql {t : TypeId} {cx cy : Value} (h1 : ∀ k n k' m, cx = .int k n → cy = .int k' m → False) (h2 : ∀ a b, cx = .string a → cy = .string b → False)
    (h3 : ∀ k b k' c, cx = .float k b → cy = .float k' c → False) (h4 : ∀ k a b k' c d, cx = .complex k a b → cy = .complex k' c d → False) :
    binOp .eql t cx cy = (do pure (.bool (← Op.equal t cx cy)) : Sem Value) ∧ binOp .neq t cx cy = (do pure (.bool (!(← Op.equal t cx cy))) : Sem Value) := by
  cases cx <;> cases cy <;> first
    | exact ⟨rfl, rfl⟩
    | exact (h1 _ _ _ _ rfl rfl).elim
    | exact (h2 _ _ rfl rfl).elim
    | exact (h3 _ _ _ _ rfl rfl).elim
    | exact (h4 _ _ _ _ _ _ rfl rfl).elim

theorem eqOk_junk {t : TypeId} {x y : AV} (ho : eqOk P t x y = true) : x ≠ .junk ∧ y ≠ .junk := by
  refine ⟨?_, ?_⟩
  · rintro rfl; cases y <;> simp [eqOk] at ho
  · rintro rfl; cases x <;> simp [eqOk] at ho

theorem eql_facts {t : TypeId} {x y : AV} {cx cy : Value} (hx : VR ρ x cx) (hy : VR ρ y cy) (ho : eqOk P t x y = true)
    (h1 : ∀ (k : IntKind) (n : Int) (k' : IntKind) (m : Int), x = .int k n → y = .int k' m → False) (h2 : ∀ (a b : List Nat), x = .str a → y = .str b → False) :
    binOp .eql t cx cy = (do pure (.bool (← Op.equal t cx cy)) : Sem Value) ∧ binOp .neq t cx cy = (do pure (.bool (!(← Op.equal t cx cy))) : Sem Value) := by
  obtain ⟨j1, j2⟩ := eqOk_junk ho
  refine binOp_eql ?_ ?_ ?_ ?_
  · rintro k n k' m rfl rfl
    cases hx <;> cases hy <;> first | exact j1 rfl | exact j2 rfl | exact h1 _ _ _ _ rfl rfl
  · rintro a b rfl rfl
    cases hx <;> cases hy <;> first | exact j1 rfl | exact j2 rfl | exact h2 _ _ rfl rfl
  · rintro k n k' m rfl rfl
    cases hx; exact j1 rfl
  · rintro k n a k' m b rfl rfl
    cases hx; exact j1 rfl

theorem binA_sound (hR : Rel K ρ h w) {op : BinOp} {t : TypeId} {x y a : AV} {cx cy : Value} {ox oy : Operand} (hx : VR ρ x cx) (hy : VR ρ y cy) (hb : binA P h op t x y = some a) :
    ∃ cv, (do eqGuard op t ox oy cx cy; binOp op t cx cy : Sem Value).run P w = .ok cv w ∧ VR ρ a cv := by
  unfold binA at hb
  split at hb
  · -- shl
    cases hx; cases hy
    obtain ⟨cv, r, v⟩ := shiftA_sound (P := P) (w := w) (ρ := ρ) hb
    refine ⟨cv, ?_, v⟩
    rw [Sem.run_bind, eqGuard_other (by simp) (by simp)]
    simp only [Result.andThen_ok, binOp]
    exact r _
  · cases hx; cases hy
    obtain ⟨cv, r, v⟩ := shiftA_sound (P := P) (w := w) (ρ := ρ) hb
    refine ⟨cv, ?_, v⟩
    rw [Sem.run_bind, eqGuard_other (by simp) (by simp)]
    simp only [Result.andThen_ok, binOp]
    exact r _
  · -- integers
    cases hx; cases hy
    rename_i k n k' m hs1 hs2
    split at hb
    · rename_i hk
      subst hk
      obtain ⟨cv, r, v⟩ := intA_sound (P := P) (w := w) (ρ := ρ) hb
      refine ⟨cv, ?_, v⟩
      rw [Sem.run_bind, eqGuard_other (by simp) (by simp)]
      cases op <;> first | (simp only [Result.andThen_ok, binOp, ne_eq, not_true, if_false]; exact r) | simp [intA] at hb
    · simp at hb
  · cases hx; cases hy
    obtain ⟨cv, r, v⟩ := strA_sound (P := P) (w := w) (ρ := ρ) hb
    refine ⟨cv, ?_, v⟩
    rw [Sem.run_bind, eqGuard_other (by simp) (by simp)]
    cases op <;> first | (simp only [Result.andThen_ok, binOp]; exact r) | exact r | simp [strA] at hb
  · -- eql
    rename_i hni hns
    split at hb
    · rename_i hok
      cases he : eqA P h 12 t x y with
      | none => simp [he] at hb
      | some e =>
        simp only [he, Option.map_some, Option.some.injEq] at hb
        subst hb
        have r := eqA_sound hR 12 10000 t x y cx cy e (by omega) hx hy he
        refine ⟨.bool e, ?_, .bool e⟩
        rw [Sem.run_bind, eqOk_sound hx hy hok]
        simp only [Result.andThen_ok]
        rw [(eql_facts hx hy hok (fun k n k' m h1 h2 => hni k n k' m h1 h2) (fun a b h1 h2 => hns a b h1 h2)).1]
        simp only [Op.equal, Op.maxDepth, Sem.run_bind, r, Result.andThen_ok, Sem.run_pure]
    · simp at hb
  · -- neq
    rename_i hni hns
    split at hb
    · rename_i hok
      cases he : eqA P h 12 t x y with
      | none => simp [he] at hb
      | some e =>
        simp only [he, Option.map_some, Option.some.injEq] at hb
        subst hb
        have r := eqA_sound hR 12 10000 t x y cx cy e (by omega) hx hy he
        refine ⟨.bool !e, ?_, .bool _⟩
        rw [Sem.run_bind, eqOk_sound hx hy hok]
        simp only [Result.andThen_ok]
        rw [(eql_facts hx hy hok (fun k n k' m h1 h2 => hni k n k' m h1 h2) (fun a b h1 h2 => hns a b h1 h2)).2]
        simp only [Op.equal, Op.maxDepth, Sem.run_bind, r, Result.andThen_ok, Sem.run_pure]
    · simp at hb
  · simp at hb

theorem unA_sound {op : UnOp} {x a : AV} {cx : Value} (hx : VR ρ x cx) (hb : unA op x = some a) : ∃ cv, (Op.unary op cx).run P w = .ok cv w ∧ VR ρ a cv := by
  unfold unA at hb
  split at hb <;> (try cases hx) <;> simp only [Option.some.injEq, reduceCtorEq] at hb <;> subst hb
  · exact ⟨_, rfl, .int _ _⟩
  · exact ⟨_, rfl, .int _ _⟩
  · exact ⟨_, rfl, .bool _⟩

end
end Go.Abs
