/- The abstract layer, part 7: slices. -/
import Derived.Test.YticccdaomgildaaGreatDoorAbs6
namespace Go.Abs
open Go

section
variable {P : Program} {ρ : Pm} {w : World} {K : Kp} {h : AH}

theorem below_sound {i : Int} {n k : Nat} (hb : below i n = some k) : i = (k : Int) ∧ k < n := by
  unfold below at hb
  split at hb
  · split at hb
    · rename_i hlt; simp only [Option.some.injEq] at hb; subst hb; exact ⟨rfl, hlt⟩
    · simp at hb
  · simp at hb
theorem upTo_sound {i : Int} {n k : Nat} (hb : upTo i n = some k) : i = (k : Int) ∧ k ≤ n := by
  unfold upTo at hb
  split at hb
  · split at hb
    · rename_i hlt; simp only [Option.some.injEq] at hb; subst hb; exact ⟨rfl, hlt⟩
    · simp at hb
  · simp at hb

theorem boundA_sound {n k : Nat} {a : AV} {cv : Value} (hv : VR ρ a cv) (hb : boundA n a = some k) {m : Nat} (hm : n ≤ m) (code : BoundsCode) : (Instr.sliceBound cv m code).run P w = .ok k w ∧ k ≤ n := by
  unfold boundA at hb
  split at hb
  · cases hv
    obtain ⟨rfl, hk⟩ := upTo_sound hb
    refine ⟨?_, hk⟩
    have h1 : (0 : Int) ≤ (k : Int) ∧ (k : Int) ≤ (m : Int) := by omega
    simp [Instr.sliceBound, asIntOf, h1]
  · simp at hb

/-- Optional operands. -/
def OVR (ρ : Pm) : Option AV → Option Value → Prop
  | none, none => True
  | some a, some v => VR ρ a v
  | _, _ => False

/-- The bounds: what the model computes; the capacity that is left, where it is known. -/
theorem boundsA_sound {len cap lo hi : Nat} {c rest : Option Nat} {low high max : Option AV} {clow chigh cmax : Option Value} {isSlice : Bool} (hl : OVR ρ low clow) (hh : OVR ρ high chigh) (hm : OVR ρ max cmax)
    (hlen : len ≤ cap) (hc : ∀ n, c = some n → cap = n) (hb : boundsA len c low high max = some (lo, hi, rest)) :
    ∃ m, (Instr.sliceBounds isSlice len cap clow chigh cmax).run P w = .ok (lo, hi, m) w ∧ lo ≤ hi ∧ hi ≤ m ∧ m ≤ cap ∧ (high = none → hi = len) ∧ (∀ n, rest = some n → m - lo = n) ∧ (c = none → hi ≤ len) ∧ (max = none → m = cap) := by
  have htop : c.getD len ≤ cap := by
    cases c with
    | none => exact hlen
    | some n => rw [hc n rfl]; exact Nat.le_refl _
  unfold boundsA at hb
  cases max with
  | none =>
    cases cmax with
    | some _ => exact hm.elim
    | none =>
    simp only [Option.bind_eq_bind, Option.bind_some] at hb
    cases high with
    | none =>
      cases chigh with
      | some _ => exact hh.elim
      | none =>
      simp only [Option.bind_some] at hb
      cases low with
      | none =>
        cases clow with
        | some _ => exact hl.elim
        | none =>
        simp only [Option.bind_some, Option.some.injEq, Prod.mk.injEq] at hb
        obtain ⟨rfl, rfl, rfl⟩ := hb
        refine ⟨cap, by simp [Instr.sliceBounds], by omega, hlen, Nat.le_refl _, fun _ => rfl, fun n hn => ?_, fun _ => Nat.le_refl _, fun _ => rfl⟩
        cases c with
        | none => simp at hn
        | some k => simp at hn; rw [hc k rfl]; omega
      | some a =>
        cases clow with
        | none => exact hl.elim
        | some v =>
        cases hlo : boundA len a with
        | none => simp [hlo] at hb
        | some k =>
          simp only [hlo, Option.bind_some, Option.some.injEq, Prod.mk.injEq] at hb
          obtain ⟨rfl, rfl, rfl⟩ := hb
          obtain ⟨hr, hk⟩ := boundA_sound (P := P) (w := w) hl hlo (Nat.le_refl _) .sliceB
          refine ⟨cap, by simp [Instr.sliceBounds, hr], hk, hlen, Nat.le_refl _, fun _ => rfl, fun n hn => ?_, fun _ => Nat.le_refl _, fun _ => rfl⟩
          cases c with
          | none => simp at hn
          | some k => simp at hn; rw [hc k rfl]; omega
    | some b =>
      cases chigh with
      | none => exact hh.elim
      | some vb =>
      cases hhi : boundA (c.getD len) b with
      | none => simp [hhi] at hb
      | some kb =>
        simp only [hhi, Option.bind_some] at hb
        obtain ⟨hrb, hkb⟩ := boundA_sound (P := P) (w := w) hh hhi htop (if isSlice then .sliceAcap else .sliceAlen)
        cases low with
        | none =>
          cases clow with
          | some _ => exact hl.elim
          | none =>
          simp only [Option.bind_some, Option.some.injEq, Prod.mk.injEq] at hb
          obtain ⟨rfl, rfl, rfl⟩ := hb
          refine ⟨cap, by simp [Instr.sliceBounds, hrb], by omega, by omega, Nat.le_refl _, (fun hx => by cases hx), fun n hn => ?_, (fun hx => by subst hx; simpa using hkb), fun _ => rfl⟩
          cases c with
          | none => simp at hn
          | some k => simp at hn; rw [hc k rfl]; omega
        | some a =>
          cases clow with
          | none => exact hl.elim
          | some v =>
          cases hlo : boundA kb a with
          | none => simp [hlo] at hb
          | some k =>
            simp only [hlo, Option.bind_some, Option.some.injEq, Prod.mk.injEq] at hb
            obtain ⟨rfl, rfl, rfl⟩ := hb
            obtain ⟨hr, hk⟩ := boundA_sound (P := P) (w := w) hl hlo (Nat.le_refl _) .sliceB
            refine ⟨cap, by simp [Instr.sliceBounds, hrb, hr], hk, by omega, Nat.le_refl _, (fun hx => by cases hx), fun n hn => ?_, (fun hx => by subst hx; simpa using hkb), fun _ => rfl⟩
            cases c with
            | none => simp at hn
            | some k => simp at hn; rw [hc k rfl]; omega
  | some mx =>
    cases cmax with
    | none => exact hm.elim
    | some vm =>
    cases hmx : boundA (c.getD len) mx with
    | none => simp [hmx] at hb
    | some km =>
      simp only [hmx, Option.bind_eq_bind, Option.bind_some, Option.map_some, Option.getD_some] at hb
      obtain ⟨hrm, hkm⟩ := boundA_sound (P := P) (w := w) hm hmx htop (if isSlice then .slice3Acap else .slice3Alen)
      cases high with
      | none => simp at hb
      | some b =>
        cases chigh with
        | none => exact hh.elim
        | some vb =>
        cases hhi : boundA km b with
        | none => simp [hhi] at hb
        | some kb =>
          simp only [hhi, Option.bind_some] at hb
          obtain ⟨hrb, hkb⟩ := boundA_sound (P := P) (w := w) hh hhi (Nat.le_refl _) .slice3B
          cases low with
          | none =>
            cases clow with
            | some _ => exact hl.elim
            | none =>
            simp only [Option.bind_some, Option.some.injEq, Prod.mk.injEq] at hb
            obtain ⟨rfl, rfl, rfl⟩ := hb
            exact ⟨km, by simp [Instr.sliceBounds, hrm, hrb], by omega, hkb, by omega, (fun hx => by cases hx), (fun n hn => by simpa using hn), (fun hx => by subst hx; simp at hkm; omega), (fun hx => by cases hx)⟩
          | some a =>
            cases clow with
            | none => exact hl.elim
            | some v =>
            cases hlo : boundA kb a with
            | none => simp [hlo] at hb
            | some k =>
              simp only [hlo, Option.bind_some, Option.some.injEq, Prod.mk.injEq] at hb
              obtain ⟨rfl, rfl, rfl⟩ := hb
              obtain ⟨hr, hk⟩ := boundA_sound (P := P) (w := w) hl hlo (Nat.le_refl _) .slice3C
              exact ⟨km, by simp [Instr.sliceBounds, hrm, hrb, hr], hk, hkb, by omega, (fun hx => by cases hx), (fun n hn => by simpa using hn), (fun hx => by subst hx; simp at hkm; omega), (fun hx => by cases hx)⟩

theorem addr_add (b o n : Nat) : (⟨b, o, none⟩ : Addr).add n = ⟨b, o + n, none⟩ := by
  unfold Addr.add
  by_cases h0 : n = 0
  · subst h0; rfl
  · simp [h0]

/-- A stretch of a block lies within it. -/
theorem fits_sound {id off n : Nat} (hR : Rel K ρ h w) (hf : fitsA h id off n = true) : ∃ p, ρ id = some p ∧ p.o + (off + n) ≤ p.lim := by
  unfold fitsA at hf
  split at hf
  · rename_i cs own text hg
    obtain ⟨p, c, e, fr, hp, hb, hsz, hlim, _⟩ := hR.cells hg
    simp only [decide_eq_true_eq] at hf
    exact ⟨p, hp, by omega⟩
  · simp at hf

theorem evSlice_sound (hR : Rel K ρ h w) {t : TypeId} {x a : AV} {cx : Value} {low high max : Option AV} {clow chigh cmax : Option Value} (hx : VR ρ x cx) (hl : OVR ρ low clow) (hh : OVR ρ high chigh) (hm : OVR ρ max cmax)
    (hb : evSlice P h t x low high max = some a) : ∃ cv, (Instr.sliceAt t cx clow chigh cmax).run P w = .ok cv w ∧ VR ρ a cv := by
  unfold evSlice at hb
  split at hb
  · -- strings
    rename_i s hd
    cases hx
    rename_i bs
    split at hb
    · simp at hb
    · rename_i hmx
      cases max with
      | some _ => simp at hmx
      | none =>
      cases cmax with
      | some _ => exact hm.elim
      | none =>
      cases hbd : boundsA (bytesOf bs).length (some (bytesOf bs).length) low high none with
      | none => simp [hbd] at hb
      | some r =>
        obtain ⟨lo, hi, rest⟩ := r
        simp only [hbd, Option.bind_eq_bind, Option.bind_some, Option.some.injEq] at hb
        subst hb
        rw [bytesOf_length] at hbd
        obtain ⟨m, hr, h1, h2, h3, _⟩ := boundsA_sound (P := P) (w := w) (cap := bs.size) (isSlice := false) hl hh hm (Nat.le_refl _) (fun n hn => by cases hn; rfl) hbd
        refine ⟨.string (bs.extract lo hi), ?_, by rw [← bytesOf_extract]; exact .str _⟩
        simp [Instr.sliceAt, Instr.slice, run_underlying' hd, hr]
  · -- nil
    rename_i e hd
    cases hx
    cases hbd : boundsA 0 (some 0) low high max with
    | none => simp [hbd] at hb
    | some r =>
      obtain ⟨lo, hi, rest⟩ := r
      simp only [hbd, Option.bind_eq_bind, Option.bind_some] at hb
      split at hb
      · rename_i hz
        simp only [Bool.and_eq_true, decide_eq_true_eq] at hz
        obtain ⟨⟨rfl, rfl⟩, hsz⟩ := hz
        simp only [Option.some.injEq] at hb
        subst hb
        obtain ⟨m, hr, h1, h2, h3, _⟩ := boundsA_sound (P := P) (w := w) (cap := 0) (isSlice := true) hl hh hm (Nat.le_refl _) (fun n hn => by cases hn; rfl) hbd
        have hm0 : m = 0 := by omega
        subst hm0
        -- the element's size is asked, too
        cases hs : tsize P e with
        | none => simp [hs] at hsz
        | some n => exact ⟨.slice none 0 0, by simp [Instr.sliceAt, Instr.slice, run_underlying' hd, hr, run_sizeOf' hs], .nilsl⟩
      · simp at hb
  · -- slices
    rename_i e id off len sz c hd
    cases hx with
    | sl hp hlc ha hxx hc =>
    rename_i p ad cap
    cases hs : tsize P e with
    | none => simp [hs] at hb
    | some n =>
      simp only [hs, Option.bind_eq_bind, Option.bind_some] at hb
      split at hb
      · rename_i hn
        subst hn
        cases hbd : boundsA len c low high max with
        | none => simp [hbd] at hb
        | some r =>
          obtain ⟨lo, hi, rest⟩ := r
          simp only [hbd, Option.bind_some, Option.some.injEq] at hb
          subst hb
          obtain ⟨m, hr, h1, h2, h3, _, h5, _, _⟩ := boundsA_sound (P := P) (w := w) (cap := cap) (isSlice := true) hl hh hm hlc hc hbd
          refine ⟨.slice (if m = lo then some ad else some (ad.add (lo * n))) (hi - lo) (m - lo), ?_, ?_⟩
          · simp only [Instr.sliceAt, Instr.slice, Sem.run_bind, run_underlying' hd, Result.andThen_ok, hr, run_sizeOf' hs, Sem.run_pure, Option.map_some]
          · by_cases hml : m = lo
            · rw [if_pos hml]
              exact .sl hp (by omega) (.inl (by omega)) (.inl (by omega)) h5
            · rw [if_neg hml]
              refine .sl hp (by omega) (.inr ?_) (.inr ?_) h5
              · rcases ha with h0 | rfl
                · omega
                · rw [addr_add, Nat.add_assoc]
              · rcases hxx with h0 | hxx
                · omega
                · have : lo * n + (m - lo) * n = m * n := by rw [← Nat.add_mul]; congr 1; omega
                  have : m * n ≤ cap * n := Nat.mul_le_mul_right _ h3
                  omega
      · simp at hb
  · -- arrays
    rename_i n e id off hd
    cases hx with
    | ptr hp =>
    rename_i p
    cases hs : tsize P e with
    | none => simp [hs] at hb
    | some sz =>
      simp only [hs, Option.bind_eq_bind, Option.bind_some] at hb
      cases hbd : boundsA n (some n) low high max with
      | none => simp [hbd] at hb
      | some r =>
        obtain ⟨lo, hi, rest⟩ := r
        simp only [hbd, Option.bind_some] at hb
        split at hb
        · rename_i hfit
          simp only [Option.some.injEq] at hb
          subst hb
          obtain ⟨q, hq, hlim⟩ := fits_sound (K := K) (w := w) hR hfit
          rw [hp] at hq; cases hq
          obtain ⟨m, hr, h1, h2, h3, _, h5, _, _⟩ := boundsA_sound (P := P) (w := w) (cap := n) (isSlice := false) hl hh hm (Nat.le_refl _) (fun n hn => by cases hn; rfl) hbd
          refine ⟨.slice (some (if m = lo then ⟨p.b, p.o + off, none⟩ else (⟨p.b, p.o + off, none⟩ : Addr).add (lo * sz))) (hi - lo) (m - lo), ?_, ?_⟩
          · simp only [Instr.sliceAt, Instr.sureAddr, Sem.run_bind, run_underlying' hd, Result.andThen_ok, hr, run_sizeOf' hs, Sem.run_pure]
          · by_cases hml : m = lo
            · rw [if_pos hml]
              exact .sl hp (by omega) (.inl (by omega)) (.inl (by omega)) h5
            · rw [if_neg hml]
              refine .sl hp (by omega) (.inr (by rw [addr_add, Nat.add_assoc])) (.inr ?_) h5
              have : lo * sz + (m - lo) * sz = m * sz := by rw [← Nat.add_mul]; congr 1; omega
              have : m * sz ≤ n * sz := Nat.mul_le_mul_right _ h3
              omega
        · simp at hb
  · simp at hb

end
end Go.Abs
