/- The abstract layer, part 28: more fuel answers the same. -/
import Derived.Test.YticccdaomgildaaGreatDoorAbs27
namespace Go.Abs
open Go

structure Rec.le (R R' : Rec) : Prop where
  call : ∀ f a h r, R.call f a h = some r → R'.call f a h = some r
  round : ∀ i a h r, R.round i a h = some r → R'.round i a h = some r
  loop : ∀ r fn n c s x, R.loop r fn n c s = some x → R'.loop r fn n c s = some x

theorem Rec.le_refl (R : Rec) : R.le R := ⟨fun _ _ _ _ h => h, fun _ _ _ _ h => h, fun _ _ _ _ _ _ h => h⟩

theorem evOp1_mono {P : Program} {R R' : Rec} (hle : R.le R') {n : Nat} {ops : Array Oper} {o : Oper} {t : Env} {h : AH} {x : Env × AH} (hx : evOp1 P R n ops o t h = some x) : evOp1 P R' n ops o t h = some x := by
  unfold evOp1 at hx ⊢
  cases hw : wantedA ops t o with
  | none => rw [hw] at hx; cases hx
  | some b =>
    rw [hw] at hx
    cases b with
    | false => exact hx
    | true =>
      simp only at hx ⊢
      cases he : evOper P (opnd t) o h with
      | none => rw [he] at hx; cases hx
      | some r =>
        rw [he] at hx
        cases r with
        | val v h' => exact hx
        | skip h' => exact hx
        | call f args =>
          simp only at hx ⊢
          cases hc : R.call f args h with
          | none => rw [hc] at hx; cases hx
          | some y => rw [hc] at hx; rw [hle.call _ _ _ _ hc]; exact hx
        | yield id args =>
          simp only at hx ⊢
          cases hc : R.round id args h with
          | none => rw [hc] at hx; cases hx
          | some y => rw [hc] at hx; rw [hle.round _ _ _ _ hc]; exact hx

theorem evOps_mono {P : Program} {R R' : Rec} (hle : R.le R') {n : Nat} {ops : Array Oper} : ∀ {l : List Oper} {t : Env} {h : AH} {x : Env × AH}, evOps P R n ops l t h = some x → evOps P R' n ops l t h = some x
  | [], _, _, _, hx => hx
  | o :: r, t, h, x, hx => by
    unfold evOps at hx ⊢
    cases h1 : evOp1 P R n ops o t h with
    | none => rw [h1] at hx; cases hx
    | some y => rw [h1] at hx; rw [evOp1_mono hle h1]; exact evOps_mono hle hx

theorem drawStep_mono {P : Program} {R R' : Rec} (hle : R.le R') {n : Nat} {ops : Array Oper} {base i : Nat} {o : Oper} {s x : DS} (hx : drawStep P R n ops base i o s = some x) : drawStep P R' n ops base i o s = some x := by
  unfold drawStep at hx ⊢
  split at hx
  · exact hx
  · cases h1 : evOp1 P R n ops o (restr s.t (o.looksAt ops) .nil) (absorb s.pend s.h) with
    | none => rw [h1] at hx; cases hx
    | some y => rw [h1] at hx; rw [evOp1_mono hle h1]; exact hx
  · cases h1 : evOp1 P R n ops o (restr s.t (o.looksAt ops) .nil) s.h with
    | none => rw [h1] at hx; cases hx
    | some y => rw [h1] at hx; rw [evOp1_mono hle h1]; exact hx

theorem drawGo_mono {P : Program} {R R' : Rec} (hle : R.le R') {n : Nat} {ops : Array Oper} {base : Nat} : ∀ {l : List Oper} {i : Nat} {s : DS} {x : List DS}, drawGo P R n ops base l i s = some x → drawGo P R' n ops base l i s = some x
  | [], _, _, _, hx => hx
  | o :: r, i, s, x, hx => by
    unfold drawGo at hx ⊢
    cases h1 : drawStep P R n ops base i o s with
    | none => rw [h1] at hx; cases hx
    | some y =>
      rw [h1] at hx; rw [drawStep_mono hle h1]
      simp only at hx ⊢
      cases h2 : drawGo P R n ops base r (i + 1) y with
      | none => rw [h2] at hx; cases hx
      | some z => rw [h2] at hx; rw [drawGo_mono hle h2]; exact hx

theorem sameAt_mono {P : Program} {R R' : Rec} (hle : R.le R') {n : Nat} {ops : Array Oper} {i : Nat} {t t' : Env} {h : AH} (hx : sameAt P R n ops i t t' h = true) : sameAt P R' n ops i t t' h = true := by
  unfold sameAt at hx ⊢
  cases ho : ops[i]? with
  | none => rw [ho] at hx; cases hx
  | some o =>
    rw [ho] at hx
    simp only at hx ⊢
    cases h1 : evOp1 P R n ops o (restr t (o.looksAt ops) .nil) h with
    | none => rw [h1] at hx; cases hx
    | some y => rw [h1] at hx; rw [evOp1_mono hle h1]; exact hx

theorem sameAll_mono {P : Program} {R R' : Rec} (hle : R.le R') {n : Nat} {ops : Array Oper} {ss : List DS} : ∀ {l : List (Nat × Nat)}, sameAll P R n ops ss l = true → sameAll P R' n ops ss l = true
  | [], _ => rfl
  | (j, i) :: r, hx => by
    unfold sameAll at hx ⊢
    rw [Bool.and_eq_true] at hx ⊢
    refine ⟨?_, sameAll_mono hle hx.2⟩
    have h1 := hx.1
    split at h1
    · split
      · rename_i hc; rw [if_pos hc] at h1; exact sameAt_mono hle h1
      · rename_i hc; rw [if_neg hc] at h1; exact sameAt_mono hle h1
    · cases h1

theorem evDraw_mono {P : Program} {R R' : Rec} (hle : R.le R') {n : Nat} {ops : Array Oper} {t : Env} {h : AH} {x : Env × AH} (hx : evDraw P R n ops t h = some x) : evDraw P R' n ops t h = some x := by
  unfold evDraw at hx ⊢
  split at hx
  · rename_i hf
    rw [if_pos hf]
    cases h1 : statGo P ops ops.toList 0 [] [] [] with
    | none => rw [h1] at hx; cases hx
    | some prs =>
      rw [h1] at hx
      simp only at hx ⊢
      cases h2 : drawGo P R n ops h.nx ops.toList 0 { t, h := { h with nx := h.nx + ops.size }, pend := [] } with
      | none => rw [h2] at hx; cases hx
      | some ss =>
        rw [h2] at hx; rw [drawGo_mono hle h2]
        simp only at hx ⊢
        split at hx
        · rename_i hs; rw [if_pos (sameAll_mono hle hs)]; exact hx
        · cases hx
  · cases hx

theorem evCode_mono {P : Program} {R R' : Rec} (hle : R.le R') {r : Option Nat} {fn : FuncId} {n : Nat} : ∀ {c : Code} {s : St} {x : Ex × St}, evCode P R r fn n c s = some x → evCode P R' r fn n c s = some x := by
  intro c
  induction c with
  | skip => intro s x hx; exact hx
  | label l => intro s x hx; exact hx
  | region id ops d =>
    intro s x hx
    cases d with
    | false =>
      unfold evCode at hx ⊢
      cases h1 : evOps P R n ops ops.toList s.t s.h with
      | none => rw [h1] at hx; cases hx
      | some y => rw [h1] at hx; rw [evOps_mono hle h1]; exact hx
    | true =>
      unfold evCode at hx ⊢
      cases h1 : evDraw P R n ops s.t s.h with
      | none => rw [h1] at hx; cases hx
      | some y => rw [h1] at hx; rw [evDraw_mono hle h1]; exact hx
  | seq a b iha ihb =>
    intro s x hx
    unfold evCode at hx ⊢
    cases h1 : evCode P R r fn n a s with
    | none => rw [h1] at hx; cases hx
    | some y =>
      rw [h1] at hx; rw [iha h1]
      obtain ⟨ex, s'⟩ := y
      cases ex with
      | normal => exact ihb hx
      | exit _ => exact hx
      | ret => exact hx
  | cond c a b iha ihb =>
    intro s x hx
    unfold evCode at hx ⊢
    split at hx
    · rename_i t ht
      cases t with
      | true => exact iha hx
      | false => exact ihb hx
    · cases hx
  | block id c ih =>
    intro s x hx
    unfold evCode at hx ⊢
    cases h1 : evCode P R r fn n c s with
    | none => rw [h1] at hx; cases hx
    | some y => rw [h1] at hx; rw [ih h1]; exact hx
  | loop c ih => intro s x hx; exact hle.loop _ _ _ _ _ _ hx
  | rangeFunc g ps a b iha ihb =>
    intro s x hx
    unfold evCode at hx ⊢
    cases h1 : loopHead r s with
    | none => rw [h1] at hx; cases hx
    | some y =>
      obtain ⟨d, h1', ds⟩ := y
      rw [h1] at hx
      simp only at hx ⊢
      split at hx
      · rename_i f first captured hg
        split at hx
        · rename_i hb
          rw [if_pos hb]
          split at hx
          · rename_i v h3 hc
            rw [hle.call _ _ _ _ hc]
            exact hx
          · cases hx
        · cases hx
      · cases hx
  | exit id => intro s x hx; exact hx
  | scope c ih => intro s x hx; unfold evCode at hx ⊢; exact ih hx
  | goto l => intro s x hx; exact hx
  | ret => intro s x hx; exact hx
  | refuse w => intro s x hx; exact hx

theorem evFn_mono {P : Program} {S : Sums} {R R' : Rec} (hle : R.le R') {f : FuncId} {args : List AV} {h : AH} {x : AV × AH} (hx : evFn P S R f args h = some x) : evFn P S R' f args h = some x := by
  unfold evFn at hx ⊢
  cases hs : S f args h with
  | some r => rw [hs] at hx; exact hx
  | none =>
    rw [hs] at hx
    simp only at hx ⊢
    split at hx
    · cases hx
    · rename_i hb
      rw [if_neg hb]
      cases hf : P.funcs[f]? with
      | none => rw [hf] at hx; cases hx
      | some fn =>
        rw [hf] at hx
        simp only at hx ⊢
        cases hc : fn.body with
        | none => rw [hc] at hx; cases hx
        | some c =>
          rw [hc] at hx
          simp only at hx ⊢
          cases h1 : evCode P R none f (nTmps fn args) c { t := argsEnv args 0 .nil, h, d := [] } with
          | none => rw [h1] at hx; cases hx
          | some y => rw [h1] at hx; rw [evCode_mono hle h1]; exact hx

theorem evRound_mono {P : Program} {R R' : Rec} (hle : R.le R') {l : Nat} {args : List AV} {h : AH} {x : AV × AH} (hx : evRound P R l args h = some x) : evRound P R' l args h = some x := by
  unfold evRound at hx ⊢
  split at hx
  · rename_i st pend fn t n ps a b d hg
    cases hs : setArgs ps.toList args n t with
    | none => rw [hs] at hx; cases hx
    | some t' =>
      rw [hs] at hx
      simp only at hx ⊢
      cases h1 : evCode P R (some l) fn n a { t := t', h, d := [] } with
      | none => rw [h1] at hx; cases hx
      | some y =>
        rw [h1] at hx; rw [evCode_mono hle h1]
        obtain ⟨ex1, s1⟩ := y
        cases ex1 with
        | normal =>
          simp only at hx ⊢
          split at hx
          · rename_i pend fn1 t1 n1 ps1 a1 b1 d1 h2
            cases h3 : evCode P R (some l) fn n b { s1 with h := s1.h.put l (.loop .busy pend fn1 t1 n1 ps1 a1 b1 d1) } with
            | none => rw [h3] at hx; cases hx
            | some z => rw [h3] at hx; rw [evCode_mono hle h3]; exact hx
          · cases hx
        | exit _ => exact hx
        | ret => exact hx
  · cases hx

theorem evN_mono1 (P : Program) (S : Sums) : ∀ k, (evN P S k).le (evN P S (k + 1))
  | 0 => ⟨(fun _ _ _ _ h => by cases h), (fun _ _ _ _ h => by cases h), (fun _ _ _ _ _ _ h => by cases h)⟩
  | k + 1 => by
    have ih := evN_mono1 P S k
    refine ⟨fun f a h r hx => evFn_mono ih hx, fun i a h r hx => evRound_mono ih hx, fun r fn n c s x hx => ?_⟩
    have hx' : (match evCode P (evN P S k) r fn n c s with | some (.normal, s') => (evN P S k).loop r fn n c s' | x => x) = some x := hx
    show (match evCode P (evN P S (k + 1)) r fn n c s with | some (.normal, s') => (evN P S (k + 1)).loop r fn n c s' | x => x) = some x
    cases h1 : evCode P (evN P S k) r fn n c s with
    | none => rw [h1] at hx'; cases hx'
    | some y =>
      rw [h1] at hx'; rw [evCode_mono ih h1]
      obtain ⟨ex, s'⟩ := y
      cases ex with
      | normal => exact ih.loop _ _ _ _ _ _ hx'
      | exit _ => exact hx'
      | ret => exact hx'

theorem Rec.le_trans {a b c : Rec} (h : a.le b) (k : b.le c) : a.le c := ⟨fun _ _ _ _ x => k.call _ _ _ _ (h.call _ _ _ _ x), fun _ _ _ _ x => k.round _ _ _ _ (h.round _ _ _ _ x), fun _ _ _ _ _ _ x => k.loop _ _ _ _ _ _ (h.loop _ _ _ _ _ _ x)⟩

theorem evN_mono {P : Program} {S : Sums} {k j : Nat} (h : k ≤ j) : (evN P S k).le (evN P S j) := by
  induction h with
  | refl => exact Rec.le_refl _
  | step _ ih => exact Rec.le_trans ih (evN_mono1 P S _)

end Go.Abs
