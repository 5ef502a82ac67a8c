/- The abstract layer, parts 7 to 14. Conditions: none. -/
import Derived.Test.YtmfbcniknjecbaaGreatDoorAb1
import Derived.Deep.DeepAppendWide
import Derived.Laws.BytesString
import Derived.Laws.RangeString

section
namespace Go.Abs
open Go

section
variable {P : Program} {ρ : Pm} {w : World} {K : Kp} {h : AH}

theorem below_sound {i : Int} {n k : Nat} (hb : below i n = some k) : i = (k : Int) ∧ k < n := by
  unfold below at hb
  split at hb
  · split at hb
    · rename_i hlt; simp only [Option.some.injEq] at hb; subst hb; exact ⟨rfl, hlt⟩
    · simp at hb
  · simp at hb
theorem upTo_sound {i : Int} {n k : Nat} (hb : upTo i n = some k) : i = (k : Int) ∧ k ≤ n := by
  unfold upTo at hb
  split at hb
  · split at hb
    · rename_i hlt; simp only [Option.some.injEq] at hb; subst hb; exact ⟨rfl, hlt⟩
    · simp at hb
  · simp at hb

theorem boundA_sound {n k : Nat} {a : AV} {cv : Value} (hv : VR ρ a cv) (hb : boundA n a = some k) {m : Nat} (hm : n ≤ m) (code : BoundsCode) : (Instr.sliceBound cv m code).run P w = .ok k w ∧ k ≤ n := by
  unfold boundA at hb
  split at hb
  · cases hv
    obtain ⟨rfl, hk⟩ := upTo_sound hb
    refine ⟨?_, hk⟩
    have h1 : (0 : Int) ≤ (k : Int) ∧ (k : Int) ≤ (m : Int) := by omega
    simp [Instr.sliceBound, asIntOf, h1]
  · simp at hb

def OVR (ρ : Pm) : Option AV → Option Value → Prop
  | none, none => True
  | some a, some v => VR ρ a v
  | _, _ => False

theorem boundsA_sound {len cap lo hi : Nat} {c rest : Option Nat} {low high max : Option AV} {clow chigh cmax : Option Value} {isSlice : Bool} (hl : OVR ρ low clow) (hh : OVR ρ high chigh) (hm : OVR ρ max cmax)
    (hlen : len ≤ cap) (hc : ∀ n, c = some n → cap = n) (hb : boundsA len c low high max = some (lo, hi, rest)) :
    ∃ m, (Instr.sliceBounds isSlice len cap clow chigh cmax).run P w = .ok (lo, hi, m) w ∧ lo ≤ hi ∧ hi ≤ m ∧ m ≤ cap ∧ (high = none → hi = len) ∧ (∀ n, rest = some n → m - lo = n) ∧ (c = none → hi ≤ len) ∧ (max = none → m = cap) := by
  have htop : c.getD len ≤ cap := by
    cases c with
    | none => exact hlen
    | some n => rw [hc n rfl]; exact Nat.le_refl _
  unfold boundsA at hb
  cases max with
  | none =>
    cases cmax with
    | some _ => exact hm.elim
    | none =>
    simp only [Option.bind_eq_bind, Option.bind_some] at hb
    cases high with
    | none =>
      cases chigh with
      | some _ => exact hh.elim
      | none =>
      simp only [Option.bind_some] at hb
      cases low with
      | none =>
        cases clow with
        | some _ => exact hl.elim
        | none =>
        simp only [Option.bind_some, Option.some.injEq, Prod.mk.injEq] at hb
        obtain ⟨rfl, rfl, rfl⟩ := hb
        refine ⟨cap, by simp [Instr.sliceBounds], by omega, hlen, Nat.le_refl _, fun _ => rfl, fun n hn => ?_, fun _ => Nat.le_refl _, fun _ => rfl⟩
        cases c with
        | none => simp at hn
        | some k => simp at hn; rw [hc k rfl]; omega
      | some a =>
        cases clow with
        | none => exact hl.elim
        | some v =>
        cases hlo : boundA len a with
        | none => simp [hlo] at hb
        | some k =>
          simp only [hlo, Option.bind_some, Option.some.injEq, Prod.mk.injEq] at hb
          obtain ⟨rfl, rfl, rfl⟩ := hb
          obtain ⟨hr, hk⟩ := boundA_sound (P := P) (w := w) hl hlo (Nat.le_refl _) .sliceB
          refine ⟨cap, by simp [Instr.sliceBounds, hr], hk, hlen, Nat.le_refl _, fun _ => rfl, fun n hn => ?_, fun _ => Nat.le_refl _, fun _ => rfl⟩
          cases c with
          | none => simp at hn
          | some k => simp at hn; rw [hc k rfl]; omega
    | some b =>
      cases chigh with
      | none => exact hh.elim
      | some vb =>
      cases hhi : boundA (c.getD len) b with
      | none => simp [hhi] at hb
      | some kb =>
        simp only [hhi, Option.bind_some] at hb
        obtain ⟨hrb, hkb⟩ := boundA_sound (P := P) (w := w) hh hhi htop (if isSlice then .sliceAcap else .sliceAlen)
        cases low with
        | none =>
          cases clow with
          | some _ => exact hl.elim
          | none =>
          simp only [Option.bind_some, Option.some.injEq, Prod.mk.injEq] at hb
          obtain ⟨rfl, rfl, rfl⟩ := hb
          refine ⟨cap, by simp [Instr.sliceBounds, hrb], by omega, by omega, Nat.le_refl _, (fun hx => by cases hx), fun n hn => ?_, (fun hx => by subst hx; simpa using hkb), fun _ => rfl⟩
          cases c with
          | none => simp at hn
          | some k => simp at hn; rw [hc k rfl]; omega
        | some a =>
          cases clow with
          | none => exact hl.elim
          | some v =>
          cases hlo : boundA kb a with
          | none => simp [hlo] at hb
          | some k =>
            simp only [hlo, Option.bind_some, Option.some.injEq, Prod.mk.injEq] at hb
            obtain ⟨rfl, rfl, rfl⟩ := hb
            obtain ⟨hr, hk⟩ := boundA_sound (P := P) (w := w) hl hlo (Nat.le_refl _) .sliceB
            refine ⟨cap, by simp [Instr.sliceBounds, hrb, hr], hk, by omega, Nat.le_refl _, (fun hx => by cases hx), fun n hn => ?_, (fun hx => by subst hx; simpa using hkb), fun _ => rfl⟩
            cases c with
            | none => simp at hn
            | some k => simp at hn; rw [hc k rfl]; omega
  | some mx =>
    cases cmax with
    | none => exact hm.elim
    | some vm =>
    cases hmx : boundA (c.getD len) mx with
    | none => simp [hmx] at hb
    | some km =>
      simp only [hmx, Option.bind_eq_bind, Option.bind_some, Option.map_some, Option.getD_some] at hb
      obtain ⟨hrm, hkm⟩ := boundA_sound (P := P) (w := w) hm hmx htop (if isSlice then .slice3Acap else .slice3Alen)
      cases high with
      | none => simp at hb
      | some b =>
        cases chigh with
        | none => exact hh.elim
        | some vb =>
        cases hhi : boundA km b with
        | none => simp [hhi] at hb
        | some kb =>
          simp only [hhi, Option.bind_some] at hb
          obtain ⟨hrb, hkb⟩ := boundA_sound (P := P) (w := w) hh hhi (Nat.le_refl _) .slice3B
          cases low with
          | none =>
            cases clow with
            | some _ => exact hl.elim
            | none =>
            simp only [Option.bind_some, Option.some.injEq, Prod.mk.injEq] at hb
            obtain ⟨rfl, rfl, rfl⟩ := hb
            exact ⟨km, by simp [Instr.sliceBounds, hrm, hrb], by omega, hkb, by omega, (fun hx => by cases hx), (fun n hn => by simpa using hn), (fun hx => by subst hx; simp at hkm; omega), (fun hx => by cases hx)⟩
          | some a =>
            cases clow with
            | none => exact hl.elim
            | some v =>
            cases hlo : boundA kb a with
            | none => simp [hlo] at hb
            | some k =>
              simp only [hlo, Option.bind_some, Option.some.injEq, Prod.mk.injEq] at hb
              obtain ⟨rfl, rfl, rfl⟩ := hb
              obtain ⟨hr, hk⟩ := boundA_sound (P := P) (w := w) hl hlo (Nat.le_refl _) .slice3C
              exact ⟨km, by simp [Instr.sliceBounds, hrm, hrb, hr], hk, hkb, by omega, (fun hx => by cases hx), (fun n hn => by simpa using hn), (fun hx => by subst hx; simp at hkm; omega), (fun hx => by cases hx)⟩

theorem addr_add (b o n : Nat) : (⟨b, o, none⟩ : Addr).add n = ⟨b, o + n, none⟩ := by
  unfold Addr.add
  by_cases h0 : n = 0
  · subst h0; rfl
  · simp [h0]

theorem fits_sound {id off n : Nat} (hR : Rel K ρ h w) (hf : fitsA h id off n = true) : ∃ p, ρ id = some p ∧ p.o + (off + n) ≤ p.lim := by
  unfold fitsA at hf
  split at hf
  · rename_i cs own text hg
    obtain ⟨p, c, e, fr, hp, hb, hsz, hlim, _⟩ := hR.cells hg
    simp only [decide_eq_true_eq] at hf
    exact ⟨p, hp, by omega⟩
  · simp at hf

theorem evSlice_sound (hR : Rel K ρ h w) {t : TypeId} {x a : AV} {cx : Value} {low high max : Option AV} {clow chigh cmax : Option Value} (hx : VR ρ x cx) (hl : OVR ρ low clow) (hh : OVR ρ high chigh) (hm : OVR ρ max cmax)
    (hb : evSlice P h t x low high max = some a) : ∃ cv, (Instr.sliceAt t cx clow chigh cmax).run P w = .ok cv w ∧ VR ρ a cv := by
  unfold evSlice at hb
  split at hb
  · -- strings
    rename_i s hd
    cases hx
    rename_i bs
    split at hb
    · simp at hb
    · rename_i hmx
      cases max with
      | some _ => simp at hmx
      | none =>
      cases cmax with
      | some _ => exact hm.elim
      | none =>
      cases hbd : boundsA (bytesOf bs).length (some (bytesOf bs).length) low high none with
      | none => simp [hbd] at hb
      | some r =>
        obtain ⟨lo, hi, rest⟩ := r
        simp only [hbd, Option.bind_eq_bind, Option.bind_some, Option.some.injEq] at hb
        subst hb
        rw [bytesOf_length] at hbd
        obtain ⟨m, hr, h1, h2, h3, _⟩ := boundsA_sound (P := P) (w := w) (cap := bs.size) (isSlice := false) hl hh hm (Nat.le_refl _) (fun n hn => by cases hn; rfl) hbd
        refine ⟨.string (bs.extract lo hi), ?_, by rw [← bytesOf_extract]; exact .str _⟩
        simp [Instr.sliceAt, Instr.slice, run_underlying' hd, hr]
  · -- nil
    rename_i e hd
    cases hx
    cases hbd : boundsA 0 (some 0) low high max with
    | none => simp [hbd] at hb
    | some r =>
      obtain ⟨lo, hi, rest⟩ := r
      simp only [hbd, Option.bind_eq_bind, Option.bind_some] at hb
      split at hb
      · rename_i hz
        simp only [Bool.and_eq_true, decide_eq_true_eq] at hz
        obtain ⟨⟨rfl, rfl⟩, hsz⟩ := hz
        simp only [Option.some.injEq] at hb
        subst hb
        obtain ⟨m, hr, h1, h2, h3, _⟩ := boundsA_sound (P := P) (w := w) (cap := 0) (isSlice := true) hl hh hm (Nat.le_refl _) (fun n hn => by cases hn; rfl) hbd
        have hm0 : m = 0 := by omega
        subst hm0
        -- the element's size is asked, too
        cases hs : tsize P e with
        | none => simp [hs] at hsz
        | some n => exact ⟨.slice none 0 0, by simp [Instr.sliceAt, Instr.slice, run_underlying' hd, hr, run_sizeOf' hs], .nilsl⟩
      · simp at hb
  · -- slices
    rename_i e id off len sz c hd
    cases hx with
    | sl hp hlc ha hxx hc =>
    rename_i p ad cap
    cases hs : tsize P e with
    | none => simp [hs] at hb
    | some n =>
      simp only [hs, Option.bind_eq_bind, Option.bind_some] at hb
      split at hb
      · rename_i hn
        subst hn
        cases hbd : boundsA len c low high max with
        | none => simp [hbd] at hb
        | some r =>
          obtain ⟨lo, hi, rest⟩ := r
          simp only [hbd, Option.bind_some, Option.some.injEq] at hb
          subst hb
          obtain ⟨m, hr, h1, h2, h3, _, h5, _, _⟩ := boundsA_sound (P := P) (w := w) (cap := cap) (isSlice := true) hl hh hm hlc hc hbd
          refine ⟨.slice (if m = lo then some ad else some (ad.add (lo * n))) (hi - lo) (m - lo), ?_, ?_⟩
          · simp only [Instr.sliceAt, Instr.slice, Sem.run_bind, run_underlying' hd, Result.andThen_ok, hr, run_sizeOf' hs, Sem.run_pure, Option.map_some]
          · by_cases hml : m = lo
            · rw [if_pos hml]
              exact .sl hp (by omega) (.inl (by omega)) (.inl (by omega)) h5
            · rw [if_neg hml]
              refine .sl hp (by omega) (.inr ?_) (.inr ?_) h5
              · rcases ha with h0 | rfl
                · omega
                · rw [addr_add, Nat.add_assoc]
              · rcases hxx with h0 | hxx
                · omega
                · have : lo * n + (m - lo) * n = m * n := by rw [← Nat.add_mul]; congr 1; omega
                  have : m * n ≤ cap * n := Nat.mul_le_mul_right _ h3
                  omega
      · simp at hb
  · -- arrays
    rename_i n e id off hd
    cases hx with
    | ptr hp =>
    rename_i p
    cases hs : tsize P e with
    | none => simp [hs] at hb
    | some sz =>
      simp only [hs, Option.bind_eq_bind, Option.bind_some] at hb
      cases hbd : boundsA n (some n) low high max with
      | none => simp [hbd] at hb
      | some r =>
        obtain ⟨lo, hi, rest⟩ := r
        simp only [hbd, Option.bind_some] at hb
        split at hb
        · rename_i hfit
          simp only [Option.some.injEq] at hb
          subst hb
          obtain ⟨q, hq, hlim⟩ := fits_sound (K := K) (w := w) hR hfit
          rw [hp] at hq; cases hq
          obtain ⟨m, hr, h1, h2, h3, _, h5, _, _⟩ := boundsA_sound (P := P) (w := w) (cap := n) (isSlice := false) hl hh hm (Nat.le_refl _) (fun n hn => by cases hn; rfl) hbd
          refine ⟨.slice (some (if m = lo then ⟨p.b, p.o + off, none⟩ else (⟨p.b, p.o + off, none⟩ : Addr).add (lo * sz))) (hi - lo) (m - lo), ?_, ?_⟩
          · simp only [Instr.sliceAt, Instr.sureAddr, Sem.run_bind, run_underlying' hd, Result.andThen_ok, hr, run_sizeOf' hs, Sem.run_pure]
          · by_cases hml : m = lo
            · rw [if_pos hml]
              exact .sl hp (by omega) (.inl (by omega)) (.inl (by omega)) h5
            · rw [if_neg hml]
              refine .sl hp (by omega) (.inr (by rw [addr_add, Nat.add_assoc])) (.inr ?_) h5
              have : lo * sz + (m - lo) * sz = m * sz := by rw [← Nat.add_mul]; congr 1; omega
              have : m * sz ≤ n * sz := Nat.mul_le_mul_right _ h3
              omega
        · simp at hb
  · simp at hb

end
end Go.Abs
end

section
namespace Go.Abs
open Go
set_option linter.unusedVariables false
set_option linter.unusedSimpArgs false

section
variable {P : Program} {ρ : Pm} {w : World} {K : Kp} {h : AH}

theorem evIndexAddr_sound {t : TypeId} {x i a : AV} {cx ci : Value} (hx : VR ρ x cx) (hi : VR ρ i ci) (hb : evIndexAddr P t x i = some a) :
    ∃ cv, (Instr.indexAt t cx ci).run P w = .ok cv w ∧ VR ρ a cv := by
  unfold evIndexAddr at hb
  split at hb
  · rename_i n e id off k i hd
    cases hx with
    | ptr hp =>
    cases hi
    rename_i p
    cases hs : tsize P e with
    | none => simp [hs] at hb
    | some sz =>
      cases hk : below i n with
      | none => simp [hs, hk] at hb
      | some j =>
        simp only [hs, hk, Option.bind_eq_bind, Option.bind_some, Option.some.injEq] at hb
        subst hb
        obtain ⟨rfl, hj⟩ := below_sound hk
        refine ⟨.pointer (some ((⟨p.b, p.o + off, none⟩ : Addr).add (j * sz))), ?_, by rw [addr_add, Nat.add_assoc]; exact .ptr hp⟩
        have h1 : (0 : Int) ≤ (j : Int) ∧ (j : Int) < (n : Int) := by omega
        simp [Instr.indexAt, asIntOf, Instr.sureAddr, run_underlying' hd, h1, run_sizeOf' hs]
        intro hx; omega
  · rename_i e id off len sz c k i hd
    cases hx with
    | sl hp hl ha hxx hc =>
    cases hi
    rename_i p ad cap
    cases hs : tsize P e with
    | none => simp [hs] at hb
    | some n =>
      cases hk : below i len with
      | none => simp [hs, hk] at hb
      | some j =>
        simp only [hs, hk, Option.bind_eq_bind, Option.bind_some] at hb
        split at hb
        · rename_i hn
          subst hn
          simp only [Option.some.injEq] at hb
          subst hb
          obtain ⟨rfl, hj⟩ := below_sound hk
          rcases ha with h0 | rfl
          · omega
          · refine ⟨.pointer (some ((⟨p.b, p.o + off, none⟩ : Addr).add (j * n))), ?_, by rw [addr_add, Nat.add_assoc]; exact .ptr hp⟩
            have h1 : (0 : Int) ≤ (j : Int) ∧ (j : Int) < (len : Int) := by omega
            simp [Instr.indexAt, asIntOf, Instr.sureAddr, run_underlying' hd, h1, run_sizeOf' hs]
            intro hx; omega
        · simp at hb
  · simp at hb

theorem evIndex_sound {t : TypeId} {x i a : AV} {cx ci : Value} (hx : VR ρ x cx) (hi : VR ρ i ci) (hb : evIndex P t x i = some a) :
    ∃ cv, (Instr.index t cx ci).run P w = .ok cv w ∧ VR ρ a cv := by
  unfold evIndex at hb
  split at hb
  · rename_i n e cs k i hd
    cases hx with
    | agg hcs =>
    cases hi
    cases hs : tsize P e with
    | none => simp [hs] at hb
    | some sz =>
      cases hk : below i n with
      | none => simp [hs, hk] at hb
      | some j =>
        simp only [hs, hk, Option.bind_eq_bind, Option.bind_some] at hb
        obtain ⟨rfl, hj⟩ := below_sound hk
        obtain ⟨cv, hr, hv⟩ := partA_sound (P := P) (w := w) hcs hb
        refine ⟨cv, ?_, hv⟩
        have h1 : (0 : Int) ≤ (j : Int) ∧ (j : Int) < (n : Int) := by omega
        simp [Instr.index, asIntOf, run_underlying' hd, h1, run_sizeOf' hs, hr]
        intro hx; omega
  · rename_i s k i hd
    cases hx
    cases hi
    rename_i bs
    cases hk : below i (bytesOf bs).length with
    | none => simp [hk] at hb
    | some j =>
      obtain ⟨rfl, hj⟩ := below_sound hk
      rw [bytesOf_length] at hj
      have hj' : j < bs.data.toList.length := by simpa using hj
      have hbj : (bytesOf bs)[j]? = some (bs[j]).toNat := by
        unfold bytesOf
        rw [List.getElem?_map, List.getElem?_eq_getElem hj']
        rfl
      simp only [hk, hbj, Option.bind_eq_bind, Option.bind_some, Option.some.injEq] at hb
      subst hb
      refine ⟨.int .u8 (bs[j]).toNat, ?_, .int _ _⟩
      have h1 : (0 : Int) ≤ (j : Int) := by omega
      have h2 : bs[j]? = some bs[j] := by simp [hj]
      simp [Instr.index, asIntOf, run_underlying' hd, h1, h2]
  · simp at hb

theorem msA_sound {t : TypeId} {l c : AV} {cl cc : Value} {ob : AO} {mk : Nat → AV} (hl : VR ρ l cl) (hc : VR ρ c cc) (hb : msA P t l c = some (ob, mk)) :
    AllocOk P ρ (Instr.makeSlice t cl cc) ob mk := by
  unfold msA at hb
  split at hb
  · rename_i e k l k' c hd
    cases hl
    cases hc
    cases hi : P.info? e with
    | none => simp [hi] at hb
    | some i =>
      cases hz : i.zero with
      | none => simp [hi, hz] at hb
      | some z =>
        cases hzc : cellsA (toAV z) with
        | none => simp [hi, hz, hzc] at hb
        | some zc =>
          simp only [hi, hz, hzc, Option.bind_eq_bind, Option.bind_some] at hb
          split at hb
          · rename_i hcond
            simp only [Bool.and_eq_true, decide_eq_true_eq] at hcond
            obtain ⟨⟨⟨hlc, hby⟩, hcs⟩, hzs⟩ := hcond
            simp only [Option.some.injEq, Prod.mk.injEq] at hb
            obtain ⟨rfl, rfl⟩ := hb
            have hzr := zero_cells (ρ := ρ) hzc
            have hzn : z.cells.size = i.size := by rw [← hzs, hzr.length]; simp
            have hw1 : IntKind.i64.wrap (Int.ofNat l) = (l : Int) := by
              simp only [IntKind.wrap, IntKind.bits, IntKind.signed]
              have : ((l : Int) % 2 ^ 64) = l := Int.emod_eq_of_lt (by omega) (by omega)
              simp [this]; omega
            have hw2 : IntKind.i64.wrap (Int.ofNat c) = (c : Int) := by
              simp only [IntKind.wrap, IntKind.bits, IntKind.signed]
              have : ((c : Int) % 2 ^ 64) = c := Int.emod_eq_of_lt (by omega) (by omega)
              simp [this]; omega
            have htz : tzero P e = some z := by simp [tzero, hi, hz]
            have hts : tsize P e = some i.size := by simp [tsize, hi]
            have hbyI : ((i.bytes : Int) * (c : Int)) ≤ 2 ^ 40 := by
              have : ((i.bytes * c : Nat) : Int) ≤ ((2 ^ 40 : Nat) : Int) := by exact_mod_cast hby
              simpa using this
            have hrow : ∃ zs : Array Value, ((c * i.size = 0 ∧ zs = #[]) ∨ (c * i.size ≠ 0 ∧ zs = z.cells)) ∧ VRs ρ (repCells zc c) ((Array.range (c * i.size)).map (zs[· % zs.size]!)).toList := by
              by_cases h0 : c * i.size = 0
              · refine ⟨#[], .inl ⟨h0, rfl⟩, ?_⟩
                rw [h0]
                have : repCells zc c = [] := List.length_eq_zero_iff.1 (by rw [repCells_length, hzs]; exact h0)
                rw [this]; simp; exact .nil
              · refine ⟨z.cells, .inr ⟨h0, rfl⟩, ?_⟩
                have := hzr.rep c
                rw [hzn] at this
                rw [hzn]
                exact this
            obtain ⟨zs, hzs', hrow⟩ := hrow
            refine ⟨rfl, fun w => ⟨.cells ((Array.range (c * i.size)).map (zs[· % zs.size]!)) e (0, 0), ((Array.range (c * i.size)).map (zs[· % zs.size]!)).size, .slice (some ⟨w.heap.size, 0, none⟩) l c, ?_, fun ρ' id hle' hid => ⟨newOR hle' hrow.toCells (by rw [repCells_length, hzs]; simp) (fun ht => by
              simp only [Array.size_map, Array.size_range]
              rcases Nat.eq_zero_or_pos (c * i.size) with h0 | h0
              · rw [h0] at ht; simp at ht
              · exact h0), .sl hid hlc (.inr rfl) (.inr (by simp)) (fun n hn => by cases hn; rfl)⟩⟩⟩
            unfold Instr.makeSlice
            simp only [Sem.run_bind, run_underlying' hd, Result.andThen_ok, asInt, asIntOf, Sem.run_pure, run_typeInfo' hi, hw1, hw2]
            have c4 : decide ((i.bytes : Int) * (c : Int) > 2 ^ 48) = false := by simp only [decide_eq_false_iff_not]; omega
            have c5 : decide ((c : Int) < 0) = false := by simp only [decide_eq_false_iff_not]; omega
            have c6 : decide ((l : Int) < 0) = false := by simp only [decide_eq_false_iff_not]; omega
            have c7 : decide ((l : Int) > (c : Int)) = false := by simp only [decide_eq_false_iff_not]; omega
            simp only [c4, c5, c6, c7, Bool.or_self, Bool.false_eq_true, if_false, Sem.run_bind, run_askRoom, Result.andThen_ok, run_sizeOf' hts, Int.toNat_natCast]
            rcases hzs' with ⟨h0, rfl⟩ | ⟨h0, rfl⟩
            · rw [Sem.run_ite, if_pos h0]
              simp [newRow]
            · rw [Sem.run_ite, if_neg h0]
              simp only [Sem.run_bind, run_zeroValue' htz, Result.andThen_ok, Sem.run_pure]
              simp [newRow]
          · simp at hb
  · simp at hb

/-! ### What a slice or a string holds -/
theorem u8_map (s : ByteArray) (n : Nat) : VRs ρ (((bytesOf s).take n).map fun (b : Nat) => AV.int .u8 b) ((s.extract 0 n).data.map fun b => Value.int .u8 b.toNat).toList := by
  refine VRs.of_get ?_ fun i a v h1 h2 => ?_
  · simp [bytesOf_length]
  · have e : (s.extract 0 n).data.toList = s.data.toList.take n := by rw [Lib.extract_data]; simp
    rw [Array.toList_map, e] at h2
    simp only [List.getElem?_map, bytesOf, List.getElem?_take] at h1 h2
    by_cases hi : i < n
    · simp only [hi, if_true] at h1 h2
      cases hc : s.data.toList[i]? with
      | none => simp [hc] at h1
      | some b =>
        simp only [hc, Option.map_some, Option.some.injEq] at h1 h2
        subst h1; subst h2
        exact .int _ _
    · simp [hi] at h1

theorem lenA_sound {x : AV} {cx : Value} {n : Nat} (hx : VR ρ x cx) (hl : lenA x = some n) : (Builtin.lenOf cx).run P w = .ok n w := by
  cases hx <;> simp only [lenA, Option.some.injEq, reduceCtorEq] at hl <;> subst hl <;> simp [Builtin.lenOf, bytesOf_length]

theorem firstA_sound (hR : Rel K ρ h w) {x : AV} {cx : Value} {size n : Nat} {l : List AV} (hx : VR ρ x cx) (hf : firstA h size n x = some l) :
    ∃ vs, (Builtin.firstCells size n cx).run P w = .ok vs w ∧ VRs ρ l vs.toList := by
  unfold firstA at hf
  split at hf
  · cases hx
    split at hf
    · simp only [Option.some.injEq] at hf; subst hf; exact ⟨#[], by simp [Builtin.firstCells], .nil⟩
    · simp at hf
  · rename_i id off len sz c
    cases hx with
    | sl hp hlc ha hxx hc =>
    rename_i p ad cap
    split at hf
    · rename_i hcond
      simp only [Bool.and_eq_true, decide_eq_true_eq] at hcond
      obtain ⟨rfl, hn⟩ := hcond
      unfold cellsAt at hf
      split at hf
      · rename_i cs own text hg
        split at hf
        · rename_i hle
          simp only [Option.some.injEq] at hf
          subst hf
          rcases ha with h0 | rfl
          · have : n = 0 := by omega
            subst this
            refine ⟨#[], ?_, by simp; exact .nil⟩
            simp [Builtin.firstCells, loadCells, loadCellsFrom]
          · obtain ⟨vs, hvs, hr⟩ := hR.loadCells (P := P) hg hp hle
            exact ⟨vs, by simp [Builtin.firstCells, hvs], hr⟩
        · simp at hf
      · simp at hf
    · simp at hf
  · rename_i s
    cases hx
    rename_i bs
    split at hf
    · simp only [Option.some.injEq] at hf
      subst hf
      exact ⟨_, by simp only [Builtin.firstCells, Sem.run_pure], u8_map bs n⟩
    · simp at hf
  · simp at hf

end
end Go.Abs
end

section
namespace Go.Abs
open Go
set_option linter.unusedVariables false
set_option linter.unusedSimpArgs false

section
variable {P : Program} {ρ : Pm} {w : World} {K : Kp} {h : AH}

theorem Rel.move (hR : Rel K ρ h w) {id : Nat} {o o' : AO} {p q : Pl} {w' : World} (hg : h.get id = some o) (hp : ρ id = some p) (hown : o.own = true) (hown' : o'.own = true) (hq : q.b = p.b)
    (hos : w'.os = w.os) (htape : w'.tape = w.tape) (hout : w'.output = w.output) (hsize : w'.heap.size = w.heap.size)
    (hother : ∀ b, b ≠ p.b → w'.heap[b]? = w.heap[b]?) (ho : OR (ρ.put h.nx q) q o' w'.heap[p.b]?) : Rel K (ρ.put h.nx q) ((h.del id).new o') w' ∧ Ext h.nx ρ ((h.del id).new o').nx (ρ.put h.nx q) := by
  have hle : ρ.le (ρ.put h.nx q) := Pm.le_put (hR.fresh _ (Nat.le_refl _))
  obtain ⟨p', hp', _, hK, _⟩ := hR.obj id o hg
  rw [hp] at hp'; cases hp'
  obtain ⟨hKn, hKs⟩ := hK hown
  have hidx : id ≠ h.nx := fun e => by
    have := hR.fresh id (by omega)
    rw [hp] at this; cases this
  have hget : ∀ j oj, ((h.del id).new o').get j = some oj → (j = h.nx ∧ oj = o') ∨ (j ≠ h.nx ∧ j ≠ id ∧ h.get j = some oj) := by
    intro j oj hj
    rw [AH.get_new] at hj
    by_cases e : j = h.nx
    · left
      rw [if_pos (by simpa using e)] at hj
      exact ⟨e, (Option.some.inj hj).symm⟩
    · right
      rw [if_neg (by simpa using e), AH.get_del] at hj
      by_cases e2 : j = id
      · rw [if_pos e2] at hj; cases hj
      · rw [if_neg e2] at hj; exact ⟨e, e2, hj⟩
  refine ⟨⟨hos.trans hR.os, htape.trans hR.tape, hout.trans hR.output, by rw [hsize]; exact hR.size, fun b ob hb => ?_, fun j hj => ?_, fun j oj hj => ?_, ?_⟩, Ext.put (hR.fresh _ (Nat.le_refl _))⟩
  · rw [hother b (fun e => by rw [e, hKn] at hb; cases hb)]; exact hR.keep b ob hb
  · have hne : j ≠ h.nx := by simp at hj; omega
    simp only [Pm.put, if_neg hne]
    exact hR.fresh j (by simp at hj; omega)
  · rcases hget j oj hj with ⟨rfl, rfl⟩ | ⟨e1, e2, hj'⟩
    · exact ⟨q, Pm.put_self _ _ _, by rw [hq]; exact ho, fun _ => by rw [hq]; exact ⟨hKn, hKs⟩, fun hn => by rw [hown'] at hn; cases hn⟩
    · obtain ⟨r, hr, hor, h1, h2⟩ := hR.obj j oj hj'
      refine ⟨r, hle _ _ hr, ?_, h1, h2⟩
      have hne : r.b ≠ p.b := fun eb => by
        cases hoj : oj.own with
        | true => exact e2 (hR.inj j id oj o r p hj' hg hoj hown hr hp eb)
        | false => have := K.roAt _ (h2 hoj); rw [eb, hKn] at this; cases this
      rw [hother _ hne]; exact hor.mono hle
  · intro i j oi oj pi pj hi hj ho1 ho2 hpi hpj hb
    rcases hget i oi hi with ⟨rfl, rfl⟩ | ⟨e1, e2, hi'⟩ <;> rcases hget j oj hj with ⟨rfl, rfl⟩ | ⟨f1, f2, hj'⟩
    · rfl
    · exfalso
      rw [Pm.put_self] at hpi; cases hpi
      simp only [Pm.put, if_neg f1] at hpj
      rw [hq] at hb
      exact f2 (hR.inj j id oj o pj p hj' hg ho2 hown hpj hp hb.symm)
    · exfalso
      rw [Pm.put_self] at hpj; cases hpj
      simp only [Pm.put, if_neg e1] at hpi
      rw [hq] at hb
      exact e2 (hR.inj i id oi o pi p hi' hg ho1 hown hpi hp hb)
    · simp only [Pm.put, if_neg e1] at hpi
      simp only [Pm.put, if_neg f1] at hpj
      exact hR.inj i j oi oj pi pj hi' hj' ho1 ho2 hpi hpj hb

def isIntT : TypeDesc → Bool
  | .int _ => true
  | _ => false

theorem appendedA_sound (hR : Rel K ρ h w) {e : TypeId} {i : TypeInfo} {z : Value} {zc : List AV} {xt : TypeId} {x : AV} {cx : Value} {n : Nat} {new : List AV} (hi : P.info? e = some i) (hz : i.zero = some z)
    (hzc : cellsA (toAV z) = some zc) (hzl : zc.length = i.size) (hx : VR ρ x cx) (ha : appendedA P h i zc xt x = some (n, new)) :
    ∃ (dx : TypeDesc) (zeros : Bool), P.underlying xt = some dx ∧ zeros = isIntT dx ∧ new.length = n * i.size ∧
      (zeros = false → (Builtin.lenOf cx).run P w = .ok n w) ∧ (zeros = true → ∃ k, cx = .int k (n : Int) ∧ n ≤ 2 ^ 40 ∧ n * i.bytes ≤ 2 ^ 40) ∧
      ∀ d, ∃ vs : Array Value, (zeros = false → (Builtin.firstCells i.size n cx).run P { w with drawn := d } = .ok vs { w with drawn := d }) ∧ (zeros = true → vs = if n * i.size = 0 then #[] else Builtin.zeroCells z.cells n) ∧ VRs ρ new vs.toList := by
  have hzr := zero_cells (ρ := ρ) hzc
  have hzn : z.cells.size = i.size := by rw [← hzl, hzr.length]; simp
  have htz : tzero P e = some z := by simp [tzero, hi, hz]
  unfold appendedA at ha
  cases hdx : P.underlying xt with
  | none => simp [hdx] at ha
  | some dx =>
    simp only [hdx, Option.bind_eq_bind, Option.bind_some] at ha
    split at ha
    · rename_i kk k m
      cases hx
      split at ha
      · rename_i hcond
        simp only [Bool.and_eq_true, decide_eq_true_eq] at hcond
        simp only [Option.some.injEq, Prod.mk.injEq] at ha
        obtain ⟨rfl, rfl⟩ := ha
        refine ⟨_, true, rfl, rfl, by rw [repCells_length, hzl], by simp, fun _ => ⟨k, rfl, hcond.1, hcond.2⟩, fun d => ?_⟩
        by_cases h0 : m * i.size = 0
        · refine ⟨#[], (fun hh => by cases hh), (fun _ => by rw [if_pos h0]), ?_⟩
          have : repCells zc m = [] := List.length_eq_zero_iff.1 (by rw [repCells_length, hzl]; exact h0)
          rw [this]; simp; exact .nil
        · exact ⟨Builtin.zeroCells z.cells m, (fun hh => by cases hh), (fun _ => by rw [if_neg h0]), hzr.rep m⟩
      · simp at ha
    · simp at ha
    · rename_i hne1 hne2
      cases hn : lenA x with
      | none => simp [hn] at ha
      | some m =>
        cases hf : firstA h i.size m x with
        | none => simp [hn, hf] at ha
        | some l =>
          simp only [hn, hf, Option.bind_some, Option.some.injEq, Prod.mk.injEq] at ha
          obtain ⟨rfl, rfl⟩ := ha
          have hzeros : isIntT dx = false := by
            cases dx with
            | int k => exact (by assumption : ∀ (k_1 : IntKind), TypeDesc.int k = TypeDesc.int k_1 → False) k rfl |>.elim
            | _ => rfl
          refine ⟨dx, false, rfl, hzeros.symm, ?_, fun _ => lenA_sound hx hn, by simp, fun d => ?_⟩
          · unfold firstA at hf
            split at hf
            · split at hf
              · rename_i h0; simp only [Option.some.injEq] at hf; subst hf; simp [h0]
              · simp at hf
            · split at hf
              · unfold cellsAt at hf
                split at hf
                · split at hf
                  · simp only [Option.some.injEq] at hf; subst hf; simp; omega
                  · simp at hf
                · simp at hf
              · simp at hf
            · split at hf
              · rename_i s hsz
                simp only [Option.some.injEq] at hf
                simp only [lenA, Option.some.injEq] at hn
                subst hf; subst hn; simp [hsz]
              · simp at hf
            · simp at hf
          · obtain ⟨vs, hvs, hr⟩ := firstA_sound (P := P) (hR.drawn d) hx hf
            exact ⟨vs, (fun _ => hvs), (fun hh => by cases hh), hr⟩

end
end Go.Abs
end

section
namespace Go.Abs
open Go
set_option linter.unusedVariables false
set_option linter.unusedSimpArgs false

section
variable {P : Program} {ρ : Pm} {w : World} {K : Kp} {h : AH}

theorem Rel.weaken (hR : Rel K ρ h w) {h' : AH} (hsub : ∀ id o', h'.get id = some o' → ∃ o, h.get id = some o ∧ o'.own = o.own ∧ ∀ p x, OR ρ p o x → OR ρ p o' x) (hnx : h.nx ≤ h'.nx) : Rel K ρ h' w := by
  refine ⟨hR.os, hR.tape, hR.output, hR.size, hR.keep, fun id hid => hR.fresh id (by omega), fun id o' hg => ?_, fun i j oi oj pi pj hi hj w1 w2 hpi hpj hb => ?_⟩
  · obtain ⟨o, ho, hown, himp⟩ := hsub id o' hg
    obtain ⟨p, hp, hor, h1, h2⟩ := hR.obj id o ho
    exact ⟨p, hp, himp p _ hor, by rw [hown]; exact h1, by rw [hown]; exact h2⟩
  · obtain ⟨o1, g1, e1, _⟩ := hsub i oi hi
    obtain ⟨o2, g2, e2, _⟩ := hsub j oj hj
    exact hR.inj i j o1 o2 pi pj g1 g2 (e1 ▸ w1) (e2 ▸ w2) hpi hpj hb

theorem fits48 {need old bytes : Nat} (hlt : old < need) (hb : (2 * need + 1000) * bytes ≤ 2 ^ 40) : ¬ Builtin.nextslicecap need old * bytes > 2 ^ 48 := by
  have h1 : (need + need / 4 + 192) * bytes ≤ (2 * need + 1000) * bytes := Nat.mul_le_mul_right _ (by omega)
  have := growslice_fits_wide (need := need) (old := old) (bytes := bytes) hlt (by omega)
  omega

theorem append_fits {argTypes : Array TypeId} {st xt e ty : TypeId} {i : TypeInfo} {dx : TypeDesc} {base : Option Addr} {sLen sCap n : Nat} {cx z : Value} {zeros : Bool} {vnew : Array Value} {w' : World}
    (h0 : argTypes[0]? = some st) (h1 : argTypes[1]? = some xt) (hd : P.underlying st = some (.slice e)) (hi : P.info? e = some i) (hz0 : i.zero = some z) (hdx : P.underlying xt = some dx) (hz : zeros = isIntT dx)
    (hn0 : zeros = false → (Builtin.lenOf cx).run P w = .ok n w) (hn1 : zeros = true → ∃ k, cx = .int k (n : Int) ∧ n ≤ 2 ^ 40 ∧ n * i.bytes ≤ 2 ^ 40)
    (hA0 : zeros = false → (Builtin.firstCells i.size n cx).run P w = .ok vnew w) (hA1 : zeros = true → vnew = if n * i.size = 0 then #[] else Builtin.zeroCells z.cells n)
    (hfit : sLen + n ≤ sCap) (hst : ∀ a, base = some a → (storeCells (a.add (sLen * i.size)) vnew.toList).run P w = .ok () w') (hnil : base = none → w' = w) :
    (Builtin.append_ argTypes ty #[.slice base sLen sCap, cx]).run P w = .ok (.slice base (sLen + n) sCap) w' := by
  have hts : tsize P e = some i.size := by simp [tsize, hi]
  have htz : tzero P e = some z := by simp [tzero, hi, hz0]
  unfold Builtin.append_
  cases zeros with
  | false =>
    have hn := hn0 rfl
    have hA := hA0 rfl
    cases dx <;> (first | (simp [isIntT] at hz; done) | skip) <;>
      simp only [h0, h1, List.getElem?_toArray, List.getElem?_cons_zero, List.getElem?_cons_succ, Sem.run_bind, run_underlying' hd, Result.andThen_ok, run_sizeOf' hts, run_underlying' hdx, Sem.run_pure, Bool.false_eq_true, if_false, hn, Bool.not_false, if_true, Sem.run_ite, if_pos hfit, hA] <;>
      (cases base with
        | none => rw [hnil rfl]; rfl
        | some a => simp only [Sem.run_bind, hst a rfl, Result.andThen_ok, Sem.run_pure])
  | true =>
    obtain ⟨k, rfl, hb1, hb2⟩ := hn1 rfl
    have hA := hA1 rfl
    have hw : IntKind.i64.wrap (n : Int) = (n : Int) := by
      simp only [IntKind.wrap, IntKind.bits, IntKind.signed]
      have : ((n : Int) % 2 ^ 64) = n := Int.emod_eq_of_lt (by omega) (by omega)
      simp [this]; omega
    have hbI : ((n : Int) * (i.bytes : Int)) ≤ 2 ^ 40 := by
      have : ((n * i.bytes : Nat) : Int) ≤ ((2 ^ 40 : Nat) : Int) := by exact_mod_cast hb2
      simpa using this
    have c1 : ¬ ((n : Int) < 0) := by omega
    have c2 : ¬ ((n : Int) * (i.bytes : Int) > 2 ^ 48) := by omega
    cases dx <;> (first | (simp [isIntT] at hz; done) | skip)
    simp only [h0, h1, List.getElem?_toArray, List.getElem?_cons_zero, List.getElem?_cons_succ, Sem.run_bind, run_underlying' hd, Result.andThen_ok, run_sizeOf' hts, run_underlying' hdx, Sem.run_pure, if_true, asInt, asIntOf, hw, Sem.run_ite, if_neg c1, run_typeInfo' hi, if_neg c2, Int.toNat_natCast, Bool.not_true, Bool.false_eq_true, if_false, if_pos hfit]
    by_cases hzz : n * i.size = 0
    · rw [if_pos hzz] at hA ⊢
      subst hA
      simp only [Sem.run_pure, Result.andThen_ok]
      cases base with
      | none => rw [hnil rfl]; rfl
      | some a => simp only [Sem.run_bind, hst a rfl, Result.andThen_ok, Sem.run_pure]
    · rw [if_neg hzz] at hA ⊢
      subst hA
      simp only [Sem.run_bind, run_zeroValue' htz, Sem.run_pure, Result.andThen_ok]
      cases base with
      | none => rw [hnil rfl]; rfl
      | some a => simp only [Sem.run_bind, hst a rfl, Result.andThen_ok, Sem.run_pure]
theorem append_grows {argTypes : Array TypeId} {st xt e ty : TypeId} {i : TypeInfo} {dx : TypeDesc} {base : Option Addr} {sLen sCap n newCap : Nat} {cx z : Value} {zeros : Bool} {vold vnew : Array Value} {w1 : World}
    (h0 : argTypes[0]? = some st) (h1 : argTypes[1]? = some xt) (hd : P.underlying st = some (.slice e)) (hi : P.info? e = some i) (hz0 : i.zero = some z) (hdx : P.underlying xt = some dx) (hz : zeros = isIntT dx)
    (hn0 : zeros = false → (Builtin.lenOf cx).run P w = .ok n w) (hn1 : zeros = true → ∃ k, cx = .int k (n : Int) ∧ n ≤ 2 ^ 40 ∧ n * i.bytes ≤ 2 ^ 40)
    (hw1 : w1 = { w with drawn := w.drawn + 1 }) (hcap : newCap = (Question.appendCap (sLen + n) sCap e).cut (w.tape w.drawn (Question.appendCap (sLen + n) sCap e)))
    (hA0 : zeros = false → (Builtin.firstCells i.size n cx).run P w1 = .ok vnew w1) (hA1 : zeros = true → vnew = if n * i.size = 0 then #[] else Builtin.zeroCells z.cells n)
    (hO : (Builtin.firstCells i.size sLen (.slice base sLen sCap)).run P w1 = .ok vold w1)
    (c0 : ¬ sLen + n ≤ sCap) (c1 : ∀ b : Prop, ¬ (((sLen + n : Nat) : Int) > IntKind.i64.max ∧ b)) (c2 : ¬ Builtin.nextslicecap (sLen + n) sCap * i.bytes > 2 ^ 48) :
    (Builtin.append_ argTypes ty #[.slice base sLen sCap, cx]).run P w = .ok (.slice (some ⟨w.heap.size, 0, none⟩) (sLen + n) newCap) { w1 with heap := w1.heap.push (.cells (vold ++ vnew ++ Builtin.zeroCells z.cells (newCap - (sLen + n))) e (0, 0)) } := by
  have hts : tsize P e = some i.size := by simp [tsize, hi]
  have htz : tzero P e = some z := by simp [tzero, hi, hz0]
  have hforced : (Question.appendCap (sLen + n) sCap e).forced = false := rfl
  subst hw1; subst hcap
  unfold Builtin.append_
  cases zeros with
  | false =>
    have hn := hn0 rfl
    have hA := hA0 rfl
    cases dx <;> (first | (simp [isIntT] at hz; done) | skip) <;>
      simp only [h0, h1, List.getElem?_toArray, List.getElem?_cons_zero, List.getElem?_cons_succ, Sem.run_bind, run_underlying' hd, Result.andThen_ok, run_sizeOf' hts, run_underlying' hdx, Sem.run_pure, Bool.false_eq_true, if_false, hn, Bool.not_false, if_true, Sem.run_ite, if_neg c0, run_typeInfo' hi, if_neg (c1 _), if_neg c2, run_choose, hforced, run_askRoom, hO, hA, run_zeroValue' htz, newRow, run_newObj] <;> rfl
  | true =>
    obtain ⟨k, rfl, hb1, hb2⟩ := hn1 rfl
    have hA := hA1 rfl
    have hw : IntKind.i64.wrap (n : Int) = (n : Int) := by
      simp only [IntKind.wrap, IntKind.bits, IntKind.signed]
      have : ((n : Int) % 2 ^ 64) = n := Int.emod_eq_of_lt (by omega) (by omega)
      simp [this]; omega
    have hbI : ((n : Int) * (i.bytes : Int)) ≤ 2 ^ 40 := by
      have : ((n * i.bytes : Nat) : Int) ≤ ((2 ^ 40 : Nat) : Int) := by exact_mod_cast hb2
      simpa using this
    have d1 : ¬ ((n : Int) < 0) := by omega
    have d2 : ¬ ((n : Int) * (i.bytes : Int) > 2 ^ 48) := by omega
    cases dx <;> (first | (simp [isIntT] at hz; done) | skip)
    simp only [h0, h1, List.getElem?_toArray, List.getElem?_cons_zero, List.getElem?_cons_succ, Sem.run_bind, run_underlying' hd, Result.andThen_ok, run_sizeOf' hts, run_underlying' hdx, Sem.run_pure, if_true, asInt, asIntOf, hw, Sem.run_ite, if_neg d1, run_typeInfo' hi, if_neg d2, Int.toNat_natCast, Bool.not_true, Bool.false_eq_true, if_false, if_neg c0, if_neg (c1 _), if_neg c2, run_choose, hforced, run_askRoom, hO]
    by_cases hzz : n * i.size = 0
    · rw [if_pos hzz] at hA ⊢
      subst hA
      simp only [Sem.run_pure, Result.andThen_ok, Sem.run_bind, run_zeroValue' htz, newRow, run_newObj]
    · rw [if_neg hzz] at hA ⊢
      subst hA
      simp only [Sem.run_bind, run_zeroValue' htz, Sem.run_pure, Result.andThen_ok, newRow, run_newObj]

theorem evAppend_sound (hR : Rel K ρ h w) {argTypes : Array TypeId} {ty : TypeId} {s x : AV} {cs cx : Value} {r : ORes} (hs : VR ρ s cs) (hx : VR ρ x cx) (hb : evAppend P h argTypes s x = some r) :
    ∃ a h' ρ' cv w', r = .val a h' ∧ (Builtin.append_ argTypes ty #[cs, cx]).run P w = .ok cv w' ∧ Ext h.nx ρ h'.nx ρ' ∧ VR ρ' a cv ∧ Rel K ρ' h' w' := by
  unfold evAppend at hb
  cases h0 : argTypes[0]? with
  | none => simp [h0] at hb
  | some st =>
  cases h1 : argTypes[1]? with
  | none => simp [h0, h1] at hb
  | some xt =>
  simp only [h0, h1, Option.bind_eq_bind, Option.bind_some] at hb
  split at hb
  · rename_i e hd
    cases hi : P.info? e with
    | none => simp [hi] at hb
    | some i =>
    cases hz : i.zero with
    | none => simp [hi, hz] at hb
    | some z =>
    cases hzc : cellsA (toAV z) with
    | none => simp [hi, hz, hzc] at hb
    | some zc =>
    simp only [hi, hz, hzc, Option.bind_some] at hb
    split at hb
    · simp at hb
    · rename_i hcond
      simp only [Bool.or_eq_true, bne_iff_ne, ne_eq, decide_eq_true_eq, not_or, Decidable.not_not] at hcond
      obtain ⟨hzl, hsz0⟩ := hcond
      cases hap : appendedA P h i zc xt x with
      | none => simp [hap] at hb
      | some nn =>
      obtain ⟨n, new⟩ := nn
      cases hlen : lenA s with
      | none => simp [hap, hlen] at hb
      | some len =>
      cases hold : firstA h i.size len s with
      | none => simp [hap, hlen, hold] at hb
      | some old =>
      simp only [hap, hlen, hold, Option.bind_some] at hb
      obtain ⟨dx, zeros, hdx, hzeros, hnl, hn0, hn1, hvals⟩ := appendedA_sound hR hi hz hzc hzl hx hap
      have hts : tsize P e = some i.size := by simp [tsize, hi]
      have htz : tzero P e = some z := by simp [tzero, hi, hz]
      have hzr := zero_cells (ρ := ρ) hzc
      have hzn : z.cells.size = i.size := by rw [← hzl, hzr.length]; simp
      -- growing: a new block
      have grow : ∀ (base : Option Addr) (sCap : Nat), VR ρ s (.slice base len sCap) → sCap < len + n → (2 * (len + n) + 1000) * i.bytes ≤ 2 ^ 40 → len + n ≤ 2 ^ 40 →
          ∃ ρ' cv w', (Builtin.append_ argTypes ty #[.slice base len sCap, cx]).run P w = .ok cv w' ∧ Ext h.nx ρ (h.nx + 1) ρ' ∧ VR ρ' (.sl h.nx 0 (len + n) i.size none) cv ∧ Rel K ρ' (h.new (.cells (old ++ new) true false)) w' := by
        intro base sCap hs' hlt hbytes hneed
        have hR1 : Rel K ρ h { w with drawn := w.drawn + 1 } := hR.drawn _
        obtain ⟨vold, ho1, ho2⟩ := firstA_sound (P := P) hR1 hs' hold
        obtain ⟨vnew, hv1, hv1', hv2⟩ := hvals (w.drawn + 1)
        let q := Question.appendCap (len + n) sCap e
        let newCap := q.cut (w.tape w.drawn q)
        have hcap : len + n ≤ newCap := by simp only [newCap, q, Question.cut]; omega
        let cells : Array Value := vold ++ vnew ++ Builtin.zeroCells z.cells (newCap - (len + n))
        have hl1 : vold.size = len * i.size := by
          have := ho2.length
          have h3 : old.length = len * i.size := by
            unfold firstA at hold
            split at hold
            · split at hold
              · rename_i h4; simp only [Option.some.injEq] at hold; subst hold; simp [h4]
              · simp at hold
            · split at hold
              · unfold cellsAt at hold
                split at hold
                · split at hold
                  · simp only [Option.some.injEq] at hold; subst hold; simp; omega
                  · simp at hold
                · simp at hold
              · simp at hold
            · cases hs'
            · simp at hold
          simpa [h3] using this.symm
        have hl2 : vnew.size = n * i.size := by have := hv2.length; rw [hnl] at this; simpa using this.symm
        have hcsz : cells.size = newCap * i.size := by
          simp only [cells, Array.size_append, hl1, hl2, Builtin.zeroCells, Array.size_map, Array.size_range, hzn]
          have : len * i.size + n * i.size + (newCap - (len + n)) * i.size = (len + n + (newCap - (len + n))) * i.size := by rw [Nat.add_mul, Nat.add_mul]
          rw [this]; congr 1; omega
        have hcells : ∀ (j : Nat) (a : AV), (old ++ new)[j]? = some a → ∃ v, cells[j]? = some v ∧ VR ρ a v := by
          intro j a hj
          have := (ho2.append hv2).get hj
          obtain ⟨v, hv, hr⟩ := this
          refine ⟨v, ?_, hr⟩
          have hjl : j < (vold ++ vnew).size := by
            have := (List.getElem?_eq_some_iff.1 hv).1
            simpa using this
          simp only [cells]
          rw [Array.getElem?_append_left hjl, ← Array.getElem?_toList, Array.toList_append]
          exact hv
        obtain ⟨ρ', hle, hvr, hrel⟩ := newSlice (e := e) (len := len + n) (cap := newCap) (sz := i.size) (c := none) (text := false) hR1 hcells
          (by rw [(ho2.append hv2).length, hcsz]; simp [hl1, hl2]; rw [← Nat.add_mul]; exact Nat.mul_le_mul_right _ hcap)
          (fun _ => by rw [hcsz]; exact Nat.mul_pos (by omega) (by omega)) hcap (by rw [hcsz]; exact Nat.le_refl _) (fun n hn => by cases hn)
        refine ⟨ρ', _, _, ?_, hle, hvr, hrel⟩
        have c0 : ¬ (len + n ≤ sCap) := by omega
        have c1 : ∀ b : Prop, ¬ (((len + n : Nat) : Int) > IntKind.i64.max ∧ b) := by
          intro b hh
          have : IntKind.i64.max = 9223372036854775807 := by decide
          omega
        exact append_grows h0 h1 hd hi hz hdx hzeros hn0 hn1 rfl rfl hv1 hv1' ho1 c0 c1 (fits48 hlt hbytes)
      -- within the capacity
      have inPlace : ∀ (id off : Nat) (c : Option Nat) (base : Addr) (sCap : Nat), s = .sl id off len i.size c → VR ρ s (.slice (some base) len sCap) → ownBlock h id = true → 0 < n → len + n ≤ sCap → new.all oneA = true →
          ∃ ρ' cv w', (Builtin.append_ argTypes ty #[.slice (some base) len sCap, cx]).run P w = .ok cv w' ∧ Ext h.nx ρ (h.nx + 1) ρ' ∧ VR ρ' (.sl h.nx 0 (len + n) i.size none) cv ∧ Rel K ρ' ((h.del id).new (.cells (old ++ new) true (textBlock h id || !(Nat.beq off 0)))) w' := by
        intro id off c base sCap hse hs' hown hn hfit hone
        subst hse
        cases hs' with
        | sl hp hlc ha hxx hc =>
        rename_i p
        rcases ha with h00 | rfl
        · omega
        rcases hxx with h00 | hxx
        · omega
        obtain ⟨vnew, hv1, hv1', hv2⟩ := hvals w.drawn
        obtain ⟨vold, ho1, ho2⟩ := firstA_sound (P := P) hR (.sl hp hlc (.inr rfl) (.inr hxx) hc) hold
        unfold ownBlock at hown
        split at hown
        · rename_i cs text hg
          have htext : textBlock h id = text := by simp [textBlock, hg]
          obtain ⟨p', cc, ee, fr, hp', hb', hsz, hlim, hget, hfr, htx, _⟩ := hR.cells hg
          rw [hp] at hp'; cases hp'
          simp only [if_true] at hsz
          have holdc : old = (cs.drop off).take (len * i.size) ∧ off + len * i.size ≤ cs.length := by
            unfold firstA at hold
            simp only at hold
            split at hold
            · unfold cellsAt at hold
              rw [hg] at hold
              simp only at hold
              split at hold
              · rename_i hle; simp only [Option.some.injEq] at hold; exact ⟨hold.symm, hle⟩
              · simp at hold
            · simp at hold
          have hl2 : vnew.size = n * i.size := by have := hv2.length; rw [hnl] at this; simpa using this.symm
          have hmul : (len + n) * i.size ≤ sCap * i.size := Nat.mul_le_mul_right _ hfit
          rw [Nat.add_mul] at hmul
          have hone' : ∀ u ∈ vnew.toList, u.oneCell' = true := fun u hu => by
            obtain ⟨j, hj, rfl⟩ := List.getElem_of_mem hu
            have hjl : j < new.length := by rw [hv2.length]; exact hj
            obtain ⟨u', hu', rr⟩ := hv2.get (List.getElem?_eq_getElem hjl)
            rw [List.getElem?_eq_getElem hj] at hu'
            cases hu'
            exact oneA_sound rr (by simp only [List.all_eq_true] at hone; exact hone _ (List.getElem_mem hjl))
          obtain ⟨w', c', hrun, hb2, hs2, hget2, q1, q2, q3, q4, q5⟩ := run_storeCells' (P := P) vnew.toList (p.o + off + len * i.size) 0 w cc ee fr hb' (by simp; omega) hone' (hfr rfl).not
          have hor : OR (ρ.put h.nx ⟨p.b, p.o + off, p.lim⟩) ⟨p.b, p.o + off, p.lim⟩ (.cells (old ++ new) true (text || !(Nat.beq off 0))) w'.heap[p.b]? := by
            have hle' : ρ.le (ρ.put h.nx ⟨p.b, p.o + off, p.lim⟩) := Pm.le_put (hR.fresh _ (Nat.le_refl _))
            have holdl : old.length = len * i.size := by rw [holdc.1]; simp; omega
            refine ⟨c', ee, fr, hb2, by simp [hs2, hsz], by simp only [List.length_append, holdl, hnl]; omega, fun j a hj => ?_, fun _ => by rw [hs2]; exact hfr rfl, fun _ ht => by
              simp only [Bool.or_eq_false_iff, Bool.not_eq_false', nbeq, decide_eq_true_eq] at ht
              rw [hs2]; obtain ⟨t1, t2, t3⟩ := htx rfl ht.1; exact ⟨t1, t2, by simp only; omega⟩⟩
            rw [hget2]
            by_cases hjo : j < old.length
            · rw [List.getElem?_append_left hjo] at hj
              rw [if_neg (by simp only; omega)]
              rw [holdc.1, List.getElem?_take] at hj
              rw [if_pos (by omega), List.getElem?_drop] at hj
              obtain ⟨v, hv, rr⟩ := hget _ _ hj
              exact ⟨v, by simp only; rw [Nat.add_assoc]; exact hv, rr.mono hle'⟩
            · rw [List.getElem?_append_right (by omega)] at hj
              obtain ⟨v, hv, rr⟩ := hv2.get hj
              have hjn : j - old.length < vnew.toList.length := (List.getElem?_eq_some_iff.1 hv).1
              refine ⟨v, ?_, rr.mono hle'⟩
              rw [if_pos (by simp only; omega)]
              rw [show (p.o + off + j - (p.o + off + len * i.size + 0)) = j - old.length by omega]
              exact hv
          obtain ⟨hrel, hle⟩ := hR.move (q := ⟨p.b, p.o + off, p.lim⟩) hg hp rfl rfl rfl q1 q2 q3 q4 q5 hor
          refine ⟨_, .slice (some ⟨p.b, p.o + off, none⟩) (len + n) sCap, w', ?_, hle, .sl (Pm.put_self _ _ _) hfit (.inr (by simp)) (.inr (by simpa using hxx)) (fun n hn => by cases hn), by rw [htext]; exact hrel⟩
          exact append_fits h0 h1 hd hi hz hdx hzeros hn0 hn1 hv1 hv1' hfit (fun a' ha' => by cases ha'; rw [addr_add]; exact hrun) (fun hh => by cases hh)
        · simp at hown
      split at hb
      · -- nothing is appended
        rename_i hn
        subst hn
        have nothing : ∀ (base : Option Addr) (sCap : Nat), len ≤ sCap → (Builtin.append_ argTypes ty #[.slice base len sCap, cx]).run P w = .ok (.slice base len sCap) w := by
          intro base sCap hle
          obtain ⟨vnew, hv1, hv1', hv2⟩ := hvals w.drawn
          have hl0 : vnew.toList = [] := by
            have := hv2.length
            rw [hnl] at this
            exact List.length_eq_zero_iff.1 (by rw [← this]; simp)
          exact append_fits (n := 0) h0 h1 hd hi hz hdx hzeros hn0 hn1 hv1 hv1' hle (fun a' _ => by rw [hl0]; rfl) (fun _ => rfl)
        cases hs <;> simp only [reduceCtorEq, Option.some.injEq] at hb <;> simp only [lenA, reduceCtorEq, Option.some.injEq] at hlen
        · subst hb; subst hlen
          exact ⟨_, _, ρ, _, w, rfl, nothing none 0 (Nat.le_refl _), Ext.refl _ _, .nilsl, hR⟩
        · subst hb; subst hlen
          rename_i hp hlc ha hxx hc
          exact ⟨_, _, ρ, _, w, rfl, nothing _ _ hlc, Ext.refl _ _, .sl hp hlc ha hxx hc, hR⟩
      · rename_i hn
        split at hb
        · simp at hb
        · rename_i hone
          replace hone : new.all oneA = true := by
            cases hh : new.all oneA with
            | true => rfl
            | false => rw [hh] at hone; simp at hone
          split at hb
          · simp at hb
          · rename_i hbig
            simp only [Bool.or_eq_true, decide_eq_true_eq, not_or, Nat.not_lt, gt_iff_lt] at hbig
            have hs0 := hs
            cases hs <;> (first | (simp at hb; done) | (simp at hlen; done) | skip)
            · -- nil
              simp only [newCells, Option.some.injEq] at hb
              simp only [lenA, Option.some.injEq] at hlen
              subst hlen; subst hb
              have hold0 : old = [] := by
                unfold firstA at hold
                simpa using hold.symm
              subst hold0
              obtain ⟨ρ', cv, w', r1, r2, r3, r4⟩ := grow none 0 hs0 (by omega) (by simpa using hbig.1) (by simpa using hbig.2)
              exact ⟨_, _, ρ', cv, w', rfl, r1, r2, by simpa using r3, by simpa using r4⟩
            · rename_i id off len' sz c p ad cap hp hlc ha hxx hc
              simp only [lenA, Option.some.injEq] at hlen
              subst hlen
              have hsz : sz = i.size := by
                unfold firstA at hold
                simp only at hold
                split at hold
                · rename_i h5; simp only [Bool.and_eq_true, decide_eq_true_eq] at h5; exact h5.1
                · simp at hold
              subst hsz
              cases c with
              | none =>
                simp only at hb
                split at hb
                · rename_i hown
                  simp only [newCells, Option.some.injEq] at hb
                  subst hb
                  by_cases hfit : len' + n ≤ cap
                  · obtain ⟨ρ', cv, w', r1, r2, r3, r4⟩ := inPlace id off none ad cap rfl hs0 hown (by omega) hfit hone
                    exact ⟨_, _, ρ', cv, w', rfl, r1, r2, r3, r4⟩
                  · obtain ⟨ρ', cv, w', r1, r2, r3, r4⟩ := grow (some ad) cap hs0 (by omega) hbig.1 hbig.2
                    refine ⟨_, _, ρ', cv, w', rfl, r1, r2, r3, r4.weaken (fun j oj hj => ?_) (Nat.le_refl _)⟩
                    rw [AH.get_new] at hj
                    by_cases e1 : j = h.nx
                    · rw [if_pos (by simpa using e1)] at hj
                      cases hj
                      exact ⟨.cells (old ++ new) true false, by rw [AH.get_new, if_pos e1], rfl, fun p x ho => by
                        obtain ⟨c, e, fr, o1, o2, o3, o4, o5, o6⟩ := ho
                        exact ⟨c, e, fr, o1, o2, o3, o4, o5, fun h1 _ => o6 h1 rfl⟩⟩
                    · rw [if_neg (by simpa using e1), AH.get_del] at hj
                      split at hj
                      · cases hj
                      · exact ⟨oj, by rw [AH.get_new, if_neg e1]; exact hj, rfl, fun _ _ ho => ho⟩
                · simp at hb
              | some c =>
                have hcap := hc c rfl
                subst hcap
                simp only at hb
                split at hb
                · rename_i hlt
                  simp only [newCells, Option.some.injEq] at hb
                  subst hb
                  obtain ⟨ρ', cv, w', r1, r2, r3, r4⟩ := grow (some ad) cap hs0 hlt hbig.1 hbig.2
                  exact ⟨_, _, ρ', cv, w', rfl, r1, r2, r3, r4⟩
                · rename_i hge
                  split at hb
                  · rename_i hown
                    simp only [newCells, Option.some.injEq] at hb
                    subst hb
                    obtain ⟨ρ', cv, w', r1, r2, r3, r4⟩ := inPlace id off (some cap) ad cap rfl hs0 hown (by omega) (by omega) hone
                    exact ⟨_, _, ρ', cv, w', rfl, r1, r2, r3, r4⟩
                  · simp at hb
  · simp at hb

end
end Go.Abs
end

section
namespace Go.Abs
open Go
set_option linter.unusedVariables false
set_option linter.unusedSimpArgs false

section
variable {P : Program} {ρ : Pm} {w : World} {K : Kp} {h : AH}

theorem all_oneCell {l : List AV} {m : List Value} (hl : VRs ρ l m) (ho : l.all oneA = true) : ∀ u ∈ m, u.oneCell' = true := fun u hu => by
  obtain ⟨j, hj, rfl⟩ := List.getElem_of_mem hu
  have hjl : j < l.length := by rw [hl.length]; exact hj
  obtain ⟨u', hu', rr⟩ := hl.get (List.getElem?_eq_getElem hjl)
  rw [List.getElem?_eq_getElem hj] at hu'
  cases hu'
  exact oneA_sound rr (by simp only [List.all_eq_true] at ho; exact ho _ (List.getElem_mem hjl))

theorem firstA_length {x : AV} {size n : Nat} {l : List AV} {m : Nat} (hf : firstA h size n x = some l) (hm : lenA x = some m) (hn : n ≤ m) : l.length = n * size := by
  unfold firstA at hf
  split at hf
  · split at hf
    · rename_i h0; simp only [Option.some.injEq] at hf; subst hf; simp [h0]
    · simp at hf
  · split at hf
    · unfold cellsAt at hf
      split at hf
      · split at hf
        · simp only [Option.some.injEq] at hf; subst hf; simp; omega
        · simp at hf
      · simp at hf
    · simp at hf
  · split at hf
    · rename_i s hsz
      simp only [Option.some.injEq] at hf
      simp only [lenA, Option.some.injEq] at hm
      subst hf; subst hm; simp [hsz]; omega
    · simp at hf
  · simp at hf

theorem evCopy_sound (hR : Rel K ρ h w) {argTypes : Array TypeId} {ty : TypeId} {d s : AV} {cd cs : Value} {r : ORes} (hd : VR ρ d cd) (hs : VR ρ s cs) (hb : evCopy P h argTypes d s = some r) :
    ∃ a h' ρ' cv w', r = .val a h' ∧ (Builtin.copy_ argTypes ty #[cd, cs]).run P w = .ok cv w' ∧ Ext h.nx ρ h'.nx ρ' ∧ VR ρ' a cv ∧ Rel K ρ' h' w' := by
  unfold evCopy at hb
  cases h0 : argTypes[0]? with
  | none => simp [h0] at hb
  | some dt =>
  simp only [h0, Option.bind_eq_bind, Option.bind_some] at hb
  split at hb
  · rename_i e hdt
    cases hts : tsize P e with
    | none => simp [hts] at hb
    | some sz =>
    cases hls : lenA s with
    | none => simp [hts, hls] at hb
    | some n =>
    cases hld : lenA d with
    | none => simp [hts, hls, hld] at hb
    | some m =>
    simp only [hts, hls, hld, Option.bind_some] at hb
    cases hf : firstA h sz (Nat.min n m) s with
    | none => simp [hf] at hb
    | some new =>
    simp only [hf, Option.bind_some] at hb
    obtain ⟨vnew, hv1, hv2⟩ := firstA_sound (P := P) hR hs hf
    have hnl := firstA_length hf hls (Nat.min_le_left n m)
    have hrun0 : ∀ (base : Option Addr) (cap : Nat), (Builtin.copy_ argTypes ty #[.slice base m cap, cs]).run P w = ((match base with | some a => storeCells a vnew.toList | none => pure ()).run P w).andThen fun _ w' => .ok (goInt (Nat.min n m : Nat)) w' := by
      intro base cap
      unfold Builtin.copy_
      simp only [h0, List.getElem?_toArray, List.getElem?_cons_zero, List.getElem?_cons_succ, Sem.run_bind, run_underlying' hdt, Result.andThen_ok, run_sizeOf' hts, lenA_sound hs hls, hv1]
      cases base <;> simp
    split at hb
    · cases hd
      simp only [Option.some.injEq] at hb
      subst hb
      simp only [lenA, Option.some.injEq] at hld
      subst hld
      exact ⟨_, _, ρ, _, w, rfl, by rw [hrun0]; rfl, Ext.refl _ _, .int _ _, hR⟩
    · rename_i id off m' dsz c
      cases hd with
      | sl hp hlc ha hxx hc =>
      rename_i p ad cap
      simp only [lenA, Option.some.injEq] at hld
      subst hld
      split at hb
      · rename_i cells text hg
        split at hb
        · rename_i hcond
          simp only [Bool.and_eq_true, decide_eq_true_eq] at hcond
          obtain ⟨⟨rfl, hle⟩, hone⟩ := hcond
          simp only [Option.some.injEq] at hb
          subst hb
          obtain ⟨w', hrun, hrel⟩ := hR.storeCells (P := P) hg hp hle hv2 (all_oneCell hv2 hone)
          refine ⟨_, _, ρ, _, w', rfl, ?_, Ext.refl _ _, .int _ _, hrel⟩
          rw [hrun0]
          rcases ha with h00 | rfl
          · have hm0 : m' = 0 := by omega
            subst hm0
            have hmin : Nat.min n 0 = 0 := Nat.min_zero n
            have : vnew.toList = [] := by
              have := hv2.length
              rw [hnl, hmin] at this
              exact List.length_eq_zero_iff.1 (by rw [← this]; simp)
            rw [this] at hrun ⊢
            have hw : w' = w := by
              have : (Go.storeCells ⟨p.b, p.o + off, none⟩ []).run P w = .ok () w := rfl
              rw [this] at hrun
              cases hrun; rfl
            subst hw
            rfl
          · simp only [hrun, Result.andThen_ok]
            rfl
        · simp at hb
      · simp at hb
    · simp at hb
  · simp at hb

theorem Rel.map {id : Nat} {es : List (AV × AV)} {bs : List Nat} {ck : Nat} (hR : Rel K ρ h w) (hg : h.get id = some (.map es bs ck)) : ∃ p ces, ρ id = some p ∧ w.heap[p.b]? = some (.map ces ck) ∧ MR ρ es ces.toList ∧ bs = ces.toList.map (·.born) ∧ MapKept.Stamped ces ck := by
  obtain ⟨p, hp, ⟨ces, h1, h2, h3, h4⟩, _⟩ := hR.obj id _ hg
  exact ⟨p, ces, hp, h1, h2, h3, h4⟩

theorem run_getObj' {r : Nat} {o : Obj} (hh : w.heap[r]? = some o) (hn : ∀ c e f, o ≠ .cells c e f) : (getObj r).run P w = .ok o w := by
  simp only [getObj, Sem.run, hh]

theorem run_setObj' {r : Nat} {o o' : Obj} (hh : w.heap[r]? = some o) (hn : ∀ c e f, o ≠ .cells c e f) : (setObj r o').run P w = .ok () { w with heap := w.heap.setIfInBounds r o' } := by
  simp only [setObj, Sem.run, hh]

theorem Rel.setObj (hR : Rel K ρ h w) {id : Nat} {o o' : AO} {co' : Obj} {p : Pl} (hg : h.get id = some o) (hp : ρ id = some p) (hown : o.own = true) (hown' : o'.own = true) (ho : OR ρ p o' (some co')) :
    Rel K ρ (h.put id o') { w with heap := w.heap.setIfInBounds p.b co' } := by
  refine hR.change hg hp hown hown' rfl rfl rfl (by simp) (fun b hb => by simp only; rw [Array.getElem?_setIfInBounds_ne (Ne.symm hb)]) ?_
  have hlt := hR.lt hg hp
  have : (w.heap.setIfInBounds p.b co')[p.b]? = some co' := by simp [hlt]
  simp only [this]
  exact ho

theorem MR.length : ∀ {l : List (AV × AV)} {m : List MapEntry}, MR ρ l m → l.length = m.length
  | [], [], _ => rfl
  | (_, _) :: _, _ :: _, ⟨_, _, h3⟩ => by simp [MR.length h3]
  | [], _ :: _, hh => hh.elim
  | (_, _) :: _, [], hh => hh.elim

theorem evLen_sound (hR : Rel K ρ h w) {argTypes : Array TypeId} {ty : TypeId} {x a : AV} {cx : Value} (hx : VR ρ x cx) (hb : evLen P h argTypes x = some a) :
    ∃ cv, (Builtin.len_ argTypes ty #[cx]).run P w = .ok cv w ∧ VR ρ a cv := by
  unfold evLen at hb
  cases h0 : argTypes[0]? with
  | none => simp [h0] at hb
  | some t =>
  simp only [h0, Option.bind_eq_bind, Option.bind_some] at hb
  unfold Builtin.len_
  simp only [h0, List.getElem?_toArray, List.getElem?_cons_zero, Sem.run_bind]
  split at hb
  · rename_i hd; cases hx; simp only [Option.some.injEq] at hb; subst hb
    rw [bytesOf_length]
    exact ⟨_, by rw [run_underlying' hd]; rfl, .int _ _⟩
  · rename_i hd; simp only [Option.some.injEq] at hb; subst hb
    exact ⟨_, by rw [run_underlying' hd]; rfl, .int _ _⟩
  · rename_i hd; cases hx; simp only [Option.some.injEq] at hb; subst hb
    exact ⟨_, by rw [run_underlying' hd]; rfl, .int _ _⟩
  · rename_i hd; cases hx; simp only [Option.some.injEq] at hb; subst hb
    exact ⟨_, by rw [run_underlying' hd]; rfl, .int _ _⟩
  · rename_i hd; cases hx; simp only [Option.some.injEq] at hb; subst hb
    exact ⟨_, by rw [run_underlying' hd]; rfl, .int _ _⟩
  · rename_i id hd
    cases hx with
    | map hp =>
    split at hb
    · rename_i es _ _ hg
      simp only [Option.some.injEq] at hb
      subst hb
      obtain ⟨q, ces, hq, hh, hm, -, hstm⟩ := hR.map hg
      rw [hp] at hq; cases hq
      refine ⟨goInt ces.size, ?_, by rw [hm.length]; exact .int _ _⟩
      rw [run_underlying' hd]
      simp only [Result.andThen_ok, Sem.run_bind, run_getObj' hh (fun _ _ _ hc => by cases hc), Sem.run_pure]
    · simp at hb
  · rename_i a' hd
    split at hb
    · rename_i n e hd2
      simp only [Option.some.injEq] at hb
      subst hb
      refine ⟨goInt n, ?_, .int _ _⟩
      rw [run_underlying' hd]
      simp only [Result.andThen_ok, Sem.run_bind, run_underlying' hd2, Sem.run_pure]
    · simp at hb
  · simp at hb

theorem evCap_sound {argTypes : Array TypeId} {ty : TypeId} {x a : AV} {cx : Value} (hx : VR ρ x cx) (hb : evCap P argTypes x = some a) :
    ∃ cv, (Builtin.cap_ argTypes ty #[cx]).run P w = .ok cv w ∧ VR ρ a cv := by
  unfold evCap at hb
  cases h0 : argTypes[0]? with
  | none => simp [h0] at hb
  | some t =>
  simp only [h0, Option.bind_eq_bind, Option.bind_some] at hb
  unfold Builtin.cap_
  simp only [h0, List.getElem?_toArray, List.getElem?_cons_zero, Sem.run_bind]
  split at hb
  · rename_i hd; cases hx; simp only [Option.some.injEq] at hb; subst hb
    exact ⟨_, by rw [run_underlying' hd]; rfl, .int _ _⟩
  · rename_i hd
    cases hx with
    | sl hp hlc ha hxx hc =>
    simp only [Option.some.injEq] at hb; subst hb
    rename_i cap
    have := hc _ rfl
    subst this
    exact ⟨_, by rw [run_underlying' hd]; rfl, .int _ _⟩
  · simp at hb

theorem foldA_sound {f : AV → AV → Option AV} {g : Value → Value → Sem Value} (hfg : ∀ x y z cx cy, VR ρ x cx → VR ρ y cy → f x y = some z → ∃ cz, (g cx cy).run P w = .ok cz w ∧ VR ρ z cz) :
    ∀ (l : List AV) (m : List Value) (x z : AV) (cx : Value), VR ρ x cx → VRs ρ l m → foldA f x l = some z → ∃ cz, (m.foldlM g cx).run P w = .ok cz w ∧ VR ρ z cz
  | [], m, x, z, cx, hx, hl, hf => by
    cases hl; simp only [foldA, Option.some.injEq] at hf; subst hf; exact ⟨cx, rfl, hx⟩
  | y :: l, m, x, z, cx, hx, hl, hf => by
    cases hl with
    | cons hy hl =>
    simp only [foldA] at hf
    cases h1 : f x y with
    | none => simp [h1] at hf
    | some u =>
      simp only [h1, Option.bind_some] at hf
      obtain ⟨cu, r1, v1⟩ := hfg x y u _ _ hx hy h1
      obtain ⟨cz, r2, v2⟩ := foldA_sound hfg l _ u z cu v1 hl hf
      exact ⟨cz, by simp only [List.foldlM_cons, Sem.run_bind, r1, Result.andThen_ok, r2], v2⟩

theorem maxA_sound {argTypes : Array TypeId} {ty : TypeId} {l : List AV} {m : Array Value} {a : AV} (hl : VRs ρ l m.toList) (hb : maxA l = some a) : ∃ cv, (Builtin.max_ argTypes ty m).run P w = .ok cv w ∧ VR ρ a cv := by
  unfold maxA at hb
  split at hb
  · rename_i x y r
    generalize hm : m.toList = ml at hl
    cases hl with
    | cons hx hl =>
    unfold Builtin.max_
    rw [hm]
    refine foldA_sound (f := max2A) (fun x y z cx cy hx hy hf => ?_) _ _ x a _ hx hl hb
    unfold max2A at hf
    split at hf
    · cases hx; cases hy
      simp only [Option.some.injEq] at hf; subst hf
      exact ⟨_, rfl, .int _ _⟩
    · simp at hf
  · simp at hb

theorem minA_sound {argTypes : Array TypeId} {ty : TypeId} {l : List AV} {m : Array Value} {a : AV} (hl : VRs ρ l m.toList) (hb : minA l = some a) : ∃ cv, (Builtin.min_ argTypes ty m).run P w = .ok cv w ∧ VR ρ a cv := by
  unfold minA at hb
  split at hb
  · rename_i x y r
    generalize hm : m.toList = ml at hl
    cases hl with
    | cons hx hl =>
    unfold Builtin.min_
    rw [hm]
    refine foldA_sound (f := min2A) (fun x y z cx cy hx hy hf => ?_) _ _ x a _ hx hl hb
    unfold min2A at hf
    split at hf
    · cases hx; cases hy
      simp only [Option.some.injEq] at hf; subst hf
      exact ⟨_, rfl, .int _ _⟩
    · simp at hf
  · simp at hb

theorem evClear_sound (hR : Rel K ρ h w) {argTypes : Array TypeId} {ty : TypeId} {x : AV} {cx : Value} {r : ORes} (hx : VR ρ x cx) (hb : evClear P h argTypes x = some r) :
    ∃ a h' ρ' cv w', r = .val a h' ∧ (Builtin.clear_ argTypes ty #[cx]).run P w = .ok cv w' ∧ Ext h.nx ρ h'.nx ρ' ∧ VR ρ' a cv ∧ Rel K ρ' h' w' := by
  unfold evClear at hb
  cases h0 : argTypes[0]? with
  | none => simp [h0] at hb
  | some t =>
  simp only [h0, Option.bind_eq_bind, Option.bind_some] at hb
  have hz : VR ρ (.tup []) (.tuple #[]) := .tup .nil
  unfold Builtin.clear_
  simp only [h0, List.getElem?_toArray, List.getElem?_cons_zero]
  split at hb
  · rename_i d hd
    cases hx
    simp only [Option.some.injEq] at hb; subst hb
    refine ⟨_, _, ρ, _, w, rfl, ?_, Ext.refl _ _, hz, hR⟩
    rw [Sem.run_bind, run_underlying' hd]
    cases d <;> rfl
  · rename_i d hd
    cases hx
    simp only [Option.some.injEq] at hb; subst hb
    refine ⟨_, _, ρ, _, w, rfl, ?_, Ext.refl _ _, hz, hR⟩
    rw [Sem.run_bind, run_underlying' hd]
    cases d <;> rfl
  · rename_i d id hd
    cases hx with
    | map hp =>
    split at hb
    · rename_i es bs clock hg
      simp only [Option.some.injEq] at hb; subst hb
      obtain ⟨q, ces, hq, hh, hm, -, hstm⟩ := hR.map hg
      rw [hp] at hq; cases hq
      rename_i p
      refine ⟨_, _, ρ, _, _, rfl, ?_, Ext.refl _ _, hz, hR.setObj hg hp rfl rfl (o' := .map [] [] clock) (co' := .map #[] clock) ⟨#[], rfl, trivial, rfl, MapKept.stamped_empty clock⟩⟩
      rw [Sem.run_bind, run_underlying' hd]
      cases d <;> simp only [Result.andThen_ok, Sem.run_bind, run_getObj' hh (fun _ _ _ hc => by cases hc), run_setObj' hh (fun _ _ _ hc => by cases hc), Sem.run_pure]
    · simp at hb
  · rename_i e id off n sz c hd
    cases hx with
    | sl hp hlc ha hxx hc =>
    rename_i p ad cap
    split at hb
    · rename_i hn
      subst hn
      simp only [Option.some.injEq] at hb; subst hb
      refine ⟨_, _, ρ, _, w, rfl, ?_, Ext.refl _ _, hz, hR⟩
      rw [Sem.run_bind, run_underlying' hd]
      rfl
    · rename_i hn
      cases htz : tzero P e with
      | none => simp [htz] at hb
      | some z =>
      cases hzc : cellsA (toAV z) with
      | none => simp [htz, hzc] at hb
      | some zc =>
      simp only [htz, hzc, Option.bind_some] at hb
      split at hb
      · rename_i cells text hg
        split at hb
        · rename_i hcond
          simp only [Bool.and_eq_true, decide_eq_true_eq] at hcond
          obtain ⟨⟨hzl, hone⟩, hle⟩ := hcond
          simp only [Option.some.injEq] at hb; subst hb
          have hzr := zero_cells (ρ := ρ) hzc
          have hrep := hzr.rep n
          have hlen : (repCells zc n).length = n * sz := by rw [repCells_length, hzl]
          have hone' : (repCells zc n).all oneA = true := by
            clear hrep hlen hle hn hd hp hlc ha hxx hc
            induction n with
            | zero => rfl
            | succ n ih => simp only [repCells, List.all_append, hone, ih, Bool.and_self]
          obtain ⟨w', hrun, hrel⟩ := hR.storeCells (P := P) hg hp (by rw [hlen]; exact hle) hrep (all_oneCell hrep hone')
          refine ⟨_, _, ρ, _, w', rfl, ?_, Ext.refl _ _, hz, hrel⟩
          rcases ha with h00 | rfl
          · omega
          obtain ⟨k, rfl⟩ : ∃ k, n = k + 1 := ⟨n - 1, by omega⟩
          rw [Sem.run_bind, run_underlying' hd]
          simp only [Result.andThen_ok, Sem.run_bind, run_zeroValue' htz, Builtin.zeroCells]
          rw [hrun]
          rfl
        · simp at hb
      · simp at hb
  · simp at hb

/-! ### Keys -/
theorem checkA_sound : ∀ (d D : Nat) (t : TypeId) (x : AV) (cx : Value) (em : Bool), d ≤ D → VR ρ x cx → checkA P d t x = true → (Instr.checkKey em D t cx).run P w = .ok () w := by
  intro d
  induction d with
  | zero => intro D t x cx em _ _ he; simp [checkA] at he
  | succ d ih =>
    intro D t x cx em hD hx he
    obtain ⟨D, rfl⟩ : ∃ D', D = D' + 1 := ⟨D - 1, by omega⟩
    unfold checkA at he
    split at he
    · -- arrays
      rename_i n e cs hd
      cases hx with
      | agg hcs =>
      rename_i ccs
      split at he
      · rename_i sz hs
        have key : ∀ (n i : Nat), checkEs P (checkA P d) e sz cs n i = true →
            (forIn (m := Sem) (List.range' i n) PUnit.unit fun i _ => do
              let s ← sizeOf e
              let a ← part e ccs (i * s)
              Instr.checkKey em D e a
              pure (ForInStep.yield PUnit.unit)).run P w = .ok PUnit.unit w := by
          intro n
          induction n with
          | zero => intro i _; simp
          | succ n ihn =>
            intro i he
            simp only [checkEs] at he
            cases ha : partA P e cs (i * sz) with
            | none => simp [ha] at he
            | some a =>
              simp only [ha, Bool.and_eq_true] at he
              obtain ⟨ca, r1, v1⟩ := partA_sound (P := P) (w := w) hcs ha
              have r2 := ih D e a ca em (by omega) v1 he.1
              rw [List.range'_succ, List.forIn_cons]
              simp only [Sem.run_bind, run_sizeOf' hs, r1, r2, Result.andThen_ok, Sem.run_pure]
              exact ihn (i + 1) he.2
        simp only [Instr.checkKey, Sem.run_bind, run_underlying' hd, Result.andThen_ok, Std.Legacy.Range.forIn_eq_forIn_range', Std.Legacy.Range.size, Nat.sub_zero, Nat.add_sub_cancel, Nat.div_one]
        have hk := key n 0 he
        rw [hk]
        rfl
      · simp at he
    · -- structs
      rename_i fs cs hd
      cases hx with
      | agg hcs =>
      rename_i ccs
      simp only [Instr.checkKey, Sem.run_bind, run_underlying' hd, Result.andThen_ok, ← Array.forIn_toList]
      have key : ∀ (l : List Field), checkFs P (checkA P d) cs l = true →
          (forIn (m := Sem) l PUnit.unit fun f _ => 
            if f.name ≠ "_" then do
              let a ← part f.type ccs f.offset
              Instr.checkKey em D f.type a
              pure (ForInStep.yield PUnit.unit)
            else pure (ForInStep.yield PUnit.unit)).run P w = .ok PUnit.unit w := by
        intro l
        induction l with
        | nil => intro _; simp
        | cons f l ihl =>
          intro he
          simp only [checkFs] at he
          rw [List.forIn_cons]
          by_cases hn : f.name = "_"
          · rw [if_pos hn] at he
            simp only [hn, ne_eq, not_true, if_false, Sem.run_bind, Sem.run_pure, Result.andThen_ok]
            exact ihl he
          · rw [if_neg hn] at he
            cases ha : partA P f.type cs f.offset with
            | none => simp [ha] at he
            | some a =>
              simp only [ha, Bool.and_eq_true] at he
              obtain ⟨ca, r1, v1⟩ := partA_sound (P := P) (w := w) hcs ha
              have r2 := ih D f.type a ca em (by omega) v1 he.1
              simp only [hn, ne_eq, not_false_iff, if_true, Sem.run_bind, r1, r2, Result.andThen_ok, Sem.run_pure]
              exact ihl he.2
      have hk := key fs.toList he
      rw [hk]
      rfl
    · cases hx; simp [Instr.checkKey, run_underlying' ‹P.underlying t = _›]
    · cases hx; simp [Instr.checkKey, run_underlying' ‹P.underlying t = _›]
    · cases hx; simp [Instr.checkKey, run_underlying' ‹P.underlying t = _›]
    · simp at he

def FR (ρ : Pm) (ces : List MapEntry) (i0 : Nat) : Option (Nat × AV × AV) → Option (Nat × Value) → Prop
  | none, none => True
  | some (i, k, v), some (j, cv) => i = j ∧ i0 ≤ i ∧ VR ρ v cv ∧ ∃ e, ces[i - i0]? = some e ∧ VR ρ k e.key ∧ e.val = cv
  | _, _ => False

theorem FR.shift {ces : List MapEntry} {e : MapEntry} {i0 : Nat} {r : Option (Nat × AV × AV)} {q : Option (Nat × Value)} (hf : FR ρ ces (i0 + 1) r q) : FR ρ (e :: ces) i0 r q := by
  cases r with
  | none => cases q <;> simp_all [FR]
  | some r =>
    obtain ⟨i, k, v⟩ := r
    cases q with
    | none => exact hf.elim
    | some q =>
      obtain ⟨j, cv⟩ := q
      obtain ⟨h1, h2, h3, e', h4, h5, h6⟩ := hf
      refine ⟨h1, by omega, h3, e', ?_, h5, h6⟩
      rw [show i - i0 = (i - (i0 + 1)) + 1 by omega, List.getElem?_cons_succ]
      exact h4

theorem findA_sound (hR : Rel K ρ h w) {t : TypeId} {d : TypeDesc} {k : AV} {ck : Value} (hk : VR ρ k ck) (hd : P.underlying t = some d) : ∀ (es : List (AV × AV)) (ces : List MapEntry) (i : Nat) (r : Option (Nat × AV × AV)), MR ρ es ces → findA P h t k es i = some r →
    (∃ q, (Instr.findAsking t ck ces i).run P w = .ok q w ∧ FR ρ ces i r q) ∧ (∀ q, Instr.findNow d ck ces i = some q → FR ρ ces i r q)
  | [], [], i, r, _, hf => by
    simp only [findA, Option.some.injEq] at hf
    subst hf
    exact ⟨⟨none, rfl, trivial⟩, fun q hq => by simp only [Instr.findNow, Option.some.injEq] at hq; subst hq; trivial⟩
  | (k', v) :: es, e :: ces, i, r, ⟨h1, h2, h3⟩, hf => by
    simp only [findA] at hf
    cases he : eqA P h 12 t k k' with
    | none => simp [he] at hf
    | some b =>
      simp only [he, Option.bind_eq_bind, Option.bind_some] at hf
      have r1 := eqA_sound hR 12 10000 t k k' ck e.key b (by omega) hk h1 he
      -- what the quick search says agrees
      have hnow : ∀ b', Instr.sameNow d ck e.key = some b' → b' = b := by
        intro b' hb'
        have r2 : (Op.equalIn 10000 t ck e.key).run P w = .ok b' w := by
          unfold Instr.sameNow at hb'
          split at hb'
          · rename_i kk k1 a1 k2 a2 hc1 hc2
            split at hb'
            · rename_i hkk
              subst hkk
              simp only [Option.some.injEq] at hb'
              subst hb'
              rw [‹e.key = _›]; exact run_equalIn_int w 9999 t _ _ _ _ hd
            · simp at hb'
          · simp only [Option.some.injEq] at hb'; subst hb'
            rw [beq_toListBytes]
            rw [‹e.key = _›]; exact run_equalIn_string w 9999 t _ _ hd
          · simp only [Option.some.injEq] at hb'; subst hb'
            rw [‹e.key = _›]; exact run_equalIn_bool' w 9999 t _ _ hd
          · simp at hb'
        rw [r1] at r2
        simpa using r2.symm
      cases b with
      | true =>
        simp only [if_true, Option.some.injEq] at hf
        subst hf
        have hfr : FR ρ (e :: ces) i (some (i, k', v)) (some (i, e.val)) := ⟨rfl, Nat.le_refl _, h2, e, by simp, h1, rfl⟩
        refine ⟨⟨some (i, e.val), ?_, hfr⟩, fun q hq => ?_⟩
        · simp only [Instr.findAsking, Op.equal, Op.maxDepth, Sem.run_bind, r1, Result.andThen_ok, if_true, Sem.run_pure]
        · simp only [Instr.findNow] at hq
          cases hs : Instr.sameNow d ck e.key with
          | none => simp [hs] at hq
          | some b' =>
            have := hnow b' hs
            subst this
            simp only [hs, Option.some.injEq] at hq
            subst hq
            exact hfr
      | false =>
        simp only [Bool.false_eq_true, if_false] at hf
        obtain ⟨⟨q, hq1, hq2⟩, hq3⟩ := findA_sound hR hk hd es ces (i + 1) r h3 hf
        refine ⟨⟨q, ?_, hq2.shift⟩, fun q' hq' => ?_⟩
        · simp only [Instr.findAsking, Op.equal, Op.maxDepth, Sem.run_bind, r1, Result.andThen_ok, Bool.false_eq_true, if_false, hq1]
        · simp only [Instr.findNow] at hq'
          cases hs : Instr.sameNow d ck e.key with
          | none => simp [hs] at hq'
          | some b' =>
            have := hnow b' hs
            subst this
            simp only [hs] at hq'
            exact (hq3 q' hq').shift
  | [], _ :: _, _, _, hh, _ => hh.elim
  | (_, _) :: _, [], _, _, hh, _ => hh.elim

theorem findKey_sound (hR : Rel K ρ h w) {t : TypeId} {k : AV} {ck : Value} {em : Bool} {es : List (AV × AV)} {ces : List MapEntry} {r : Option (Nat × AV × AV)} (hk : VR ρ k ck) (hc : checkA P 12 t k = true) (hm : MR ρ es ces) (hf : findA P h t k es 0 = some r) :
    ∃ q, (Instr.findKey t ck ces).run P w = .ok q w ∧ FR ρ ces 0 r q := by
  obtain ⟨d, hd⟩ : ∃ d, P.underlying t = some d := by
    unfold checkA at hc
    split at hc <;> first | exact ⟨_, ‹_›⟩ | simp at hc
  obtain ⟨⟨q, hq1, hq2⟩, hq3⟩ := findA_sound hR hk hd es ces 0 r hm hf
  unfold Instr.findKey
  rw [Sem.run_bind, run_underlying' hd]
  simp only [Result.andThen_ok]
  cases hn : Instr.findNow d ck ces 0 with
  | none => exact ⟨q, hq1, hq2⟩
  | some q' => exact ⟨q', rfl, hq3 q' hn⟩

end
end Go.Abs
end

section
namespace Go.Abs
open Go
set_option linter.unusedVariables false
set_option linter.unusedSimpArgs false

section
variable {P : Program} {ρ : Pm} {w : World} {K : Kp} {h : AH}

theorem evLookup_sound (hR : Rel K ρ h w) {t : TypeId} {m k a : AV} {cm ck : Value} {ok : Bool} (hm : VR ρ m cm) (hk : VR ρ k ck) (hb : evLookup P h t m k ok = some a) :
    ∃ cv, (Instr.lookup t cm ck ok).run P w = .ok cv w ∧ VR ρ a cv := by
  unfold evLookup at hb
  simp only [Option.bind_eq_bind] at hb
  split at hb
  · rename_i kt et hd
    split at hb
    · simp at hb
    · rename_i hck
      replace hck : checkA P 12 kt k = true := by
        cases hh : checkA P 12 kt k with
        | true => rfl
        | false => rw [hh] at hck; simp at hck
      -- the entries
      have hes : ∀ es ces, MR ρ es ces → ∀ r, findA P h kt k es 0 = some r → ∀ v b, lookRes P et r = some (v, b) →
          ∃ cv, (do
            Instr.checkKey ces.isEmpty 10000 kt ck
            let (v, ok') ← match ← Instr.findKey kt ck ces with
              | some (_, v) => pure (v, true)
              | none => pure (← zeroValue et, false)
            pure (if ok then .tuple #[v, .bool ok'] else v) : Sem Value).run P w = .ok cv w ∧ VR ρ (if ok then .tup [v, .bool b] else v) cv := by
        intro es ces hmr r hr v b hv
        obtain ⟨q, hq, hfr⟩ := findKey_sound (em := false) hR hk hck hmr hr
        have hchk := checkA_sound (P := P) (w := w) 12 10000 kt k ck ces.isEmpty (by omega) hk hck
        cases r with
        | none =>
          cases q with
          | some q => exact hfr.elim
          | none =>
          cases hz : tzero P et with
          | none => simp [lookRes, hz] at hv
          | some z =>
            simp only [lookRes, hz, Option.map_some, Option.some.injEq, Prod.mk.injEq] at hv
            obtain ⟨rfl, rfl⟩ := hv
            refine ⟨if ok then .tuple #[z, .bool false] else z, ?_, ?_⟩
            · simp only [Sem.run_bind, hchk, hq, Result.andThen_ok, run_zeroValue' hz, Sem.run_pure]
            · cases ok
              · exact toAV_sound z
              · exact .tup (.cons (toAV_sound z) (.cons (.bool _) .nil))
        | some r =>
          obtain ⟨i, k', v'⟩ := r
          cases q with
          | none => exact hfr.elim
          | some q =>
            obtain ⟨j, cv'⟩ := q
            obtain ⟨_, _, hv', _⟩ := hfr
            simp only [lookRes, Option.some.injEq, Prod.mk.injEq] at hv
            obtain ⟨rfl, rfl⟩ := hv
            refine ⟨if ok then .tuple #[cv', .bool true] else cv', ?_, ?_⟩
            · simp only [Sem.run_bind, hchk, hq, Result.andThen_ok, Sem.run_pure]
            · cases ok
              · exact hv'
              · exact .tup (.cons hv' (.cons (.bool _) .nil))
      unfold Instr.lookup
      simp only [Sem.run_bind, run_underlying' hd, Result.andThen_ok]
      cases m with
      | nilmap =>
        cases hm
        simp only [Option.bind_some] at hb
        cases hr : findA P h kt k [] 0 with
        | none => simp [hr] at hb
        | some r =>
          simp only [hr, Option.bind_some] at hb
          cases hv : lookRes P et r with
          | none => simp [hv] at hb
          | some vb =>
            obtain ⟨v, b⟩ := vb
            simp only [hv, Option.bind_some, Option.some.injEq] at hb
            subst hb
            obtain ⟨cv, h1, h2⟩ := hes [] [] trivial r hr v b hv
            refine ⟨cv, ?_, h2⟩
            simp only [Sem.run_bind] at h1 ⊢
            exact h1
      | map id =>
        cases hm with
        | map hp =>
        cases hg : h.get id with
        | none => simp [hg] at hb
        | some o =>
          cases o with
          | map es bs clock =>
            obtain ⟨p, ces, hq, hh, hmr, -, hstm⟩ := hR.map hg
            rw [hp] at hq; cases hq
            simp only [hg, Option.bind_some] at hb
            cases hr : findA P h kt k es 0 with
            | none => simp [hr] at hb
            | some r =>
              simp only [hr, Option.bind_some] at hb
              cases hv : lookRes P et r with
              | none => simp [hv] at hb
              | some vb =>
                obtain ⟨v, b⟩ := vb
                simp only [hv, Option.bind_some, Option.some.injEq] at hb
                subst hb
                obtain ⟨cv, h1, h2⟩ := hes es ces.toList hmr r hr v b hv
                refine ⟨cv, ?_, h2⟩
                simp only [Sem.run_bind, run_getObj' hh (fun _ _ _ hc => by cases hc), Result.andThen_ok, Sem.run_pure] at h1 ⊢
                have : ces.isEmpty = ces.toList.isEmpty := by simp
                rw [this]
                exact h1
          | _ => simp [hg] at hb
      | _ => simp at hb
  · simp at hb

theorem sameScalar_eq {a b : AV} (hh : sameScalar a b = true) : a = b := by
  unfold sameScalar at hh
  split at hh
  · simp at hh; rw [hh]
  · simp only [Bool.and_eq_true, beq_iff_eq] at hh; obtain ⟨h1, h2⟩ := hh
    rw [h1, h2]
  · rw [eqL_eq] at hh; simp at hh; rw [hh]
  · simp at hh
theorem sameList_eq : ∀ {l m : List AV}, sameList l m = true → l = m
  | [], [], _ => rfl
  | a :: l, b :: m, hh => by
    simp only [sameList, Bool.and_eq_true] at hh
    rw [sameScalar_eq hh.1, sameList_eq hh.2]
  | [], _ :: _, hh => by simp [sameList] at hh
  | _ :: _, [], hh => by simp [sameList] at hh
theorem sameSimple_eq {a b : AV} (hh : sameSimple a b = true) : a = b := by
  unfold sameSimple at hh
  split at hh
  · rw [sameList_eq hh]
  · exact sameScalar_eq hh

theorem bytesOf_inj {x y : ByteArray} (hh : bytesOf x = bytesOf y) : x = y := by
  have h1 : eqL (bytesOf x) (bytesOf y) = true := by rw [eqL_eq]; simp [hh]
  rw [eqL_bytes] at h1
  simp only [beq_iff_eq] at h1
  rw [ByteArray.toList_eq, ByteArray.toList_eq] at h1
  cases x; cases y
  simp only [Array.toList_inj] at h1
  rw [h1]

theorem scalar_unique {a : AV} {u v : Value} (hs : scalarA a = true) (hu : VR ρ a u) (hv : VR ρ a v) : u = v := by
  cases a <;> simp [scalarA] at hs
  · cases hu; cases hv; rfl
  · cases hu; cases hv; rfl
  · rename_i s
    generalize hs' : s = s' at hu
    cases hu with
    | str x =>
    rw [hs'] at hv
    generalize hb : bytesOf x = l at hv
    cases hv with
    | str y => rw [bytesOf_inj hb]

theorem simple_unique {a : AV} {u v : Value} (hs : simpleA a = true) (hu : VR ρ a u) (hv : VR ρ a v) : u = v := by
  cases a with
  | agg l =>
    simp only [simpleA] at hs
    cases hu with
    | agg h1 =>
    cases hv with
    | agg h2 =>
    rename_i c1 c2
    have : c1.toList = c2.toList := by
      generalize c1.toList = m1 at h1
      generalize c2.toList = m2 at h2
      clear c1 c2
      induction l generalizing m1 m2 with
      | nil => cases h1; cases h2; rfl
      | cons a l ih =>
        cases h1 with
        | cons a1 t1 =>
        cases h2 with
        | cons a2 t2 =>
        simp only [List.all_cons, Bool.and_eq_true] at hs
        rw [scalar_unique hs.1 a1 a2, ih hs.2 _ t1 _ t2]
    rw [Array.toList_inj.1 this]
  | bool b => exact scalar_unique (by simpa [simpleA] using hs) hu hv
  | int k n => exact scalar_unique (by simpa [simpleA] using hs) hu hv
  | str s => exact scalar_unique (by simpa [simpleA] using hs) hu hv
  | _ => simp [simpleA, scalarA] at hs

theorem sameBits_scalar {a : AV} {u : Value} (n : Nat) (hs : scalarA a = true) (hu : VR ρ a u) : Instr.sameBits n u u = true := by
  cases a <;> simp [scalarA] at hs <;> cases hu <;> cases n <;> simp [Instr.sameBits, beq_toListBytes]

theorem sameBits_simple {a : AV} {u : Value} (hs : simpleA a = true) (hu : VR ρ a u) : Instr.sameBits 10000 u u = true := by
  cases a with
  | agg l =>
    simp only [simpleA] at hs
    cases hu with
    | agg h1 =>
    rename_i c1
    show Instr.sameBits (9999 + 1) (.agg c1) (.agg c1) = true
    simp only [Instr.sameBits, beq_self_eq_true, Bool.true_and, List.all_eq_true]
    rintro ⟨x, y⟩ hxy
    have hxy' : x = y ∧ x ∈ c1.toList := by
      rw [List.mem_iff_getElem?] at hxy
      obtain ⟨i, hi⟩ := hxy
      rw [List.getElem?_zip_eq_some] at hi
      have : x = y := by have := hi.1.symm.trans hi.2; simpa using this
      exact ⟨this, List.mem_of_getElem? hi.1⟩
    obtain ⟨rfl, hm⟩ := hxy'
    obtain ⟨i, hi, rfl⟩ := List.getElem_of_mem hm
    have hil : i < l.length := by rw [h1.length]; exact hi
    obtain ⟨u', hu', rr⟩ := h1.get (List.getElem?_eq_getElem hil)
    rw [List.getElem?_eq_getElem hi] at hu'
    cases hu'
    simp only [List.all_eq_true] at hs
    exact sameBits_scalar _ (hs _ (List.getElem_mem hil)) rr
  | bool b => exact sameBits_scalar _ (by simpa [simpleA] using hs) hu
  | int k n => exact sameBits_scalar _ (by simpa [simpleA] using hs) hu
  | str s => exact sameBits_scalar _ (by simpa [simpleA] using hs) hu
  | _ => simp [simpleA, scalarA] at hs

theorem MR.get : ∀ {l : List (AV × AV)} {m : List MapEntry} {i : Nat} {k v : AV}, MR ρ l m → l[i]? = some (k, v) → ∃ e, m[i]? = some e ∧ VR ρ k e.key ∧ VR ρ v e.val
  | (k', v') :: l, e :: m, 0, k, v, ⟨h1, h2, _⟩, hi => by
    simp only [List.getElem?_cons_zero, Option.some.injEq, Prod.mk.injEq] at hi
    obtain ⟨rfl, rfl⟩ := hi
    exact ⟨e, rfl, h1, h2⟩
  | (k', v') :: l, e :: m, i + 1, k, v, ⟨_, _, h3⟩, hi => by
    simp only [List.getElem?_cons_succ] at hi ⊢
    exact MR.get h3 hi
  | [], _, _, _, _, _, hi => by simp at hi
  | (_, _) :: _, [], _, _, _, hh, _ => hh.elim

theorem MR.set : ∀ {l : List (AV × AV)} {m : List MapEntry} (i : Nat) {k v : AV} {ck cv : Value}, MR ρ l m → VR ρ k ck → VR ρ v cv → MR ρ (setNth (k, v) l i) (m.modify i fun e => { e with key := ck, val := cv })
  | [], [], i, _, _, _, _, _, _, _ => by cases i <;> simp [setNth, MR]
  | (k', v') :: l, e :: m, 0, _, _, _, _, ⟨_, _, h3⟩, hk, hv => by simp [setNth, List.modify_cons]; exact ⟨hk, hv, h3⟩
  | (k', v') :: l, e :: m, i + 1, _, _, _, _, ⟨h1, h2, h3⟩, hk, hv => by simp [setNth, List.modify_cons]; exact ⟨h1, h2, MR.set i h3 hk hv⟩
  | [], _ :: _, _, _, _, _, _, hh, _, _ => hh.elim
  | (_, _) :: _, [], _, _, _, _, _, hh, _, _ => hh.elim

theorem MR.snoc : ∀ {l : List (AV × AV)} {m : List MapEntry} {k v : AV} {e : MapEntry}, MR ρ l m → VR ρ k e.key → VR ρ v e.val → MR ρ (l ++ [(k, v)]) (m ++ [e])
  | [], [], _, _, _, _, hk, hv => ⟨hk, hv, trivial⟩
  | (_, _) :: _, _ :: _, _, _, _, ⟨h1, h2, h3⟩, hk, hv => ⟨h1, h2, MR.snoc h3 hk hv⟩
  | [], _ :: _, _, _, _, hh, _, _ => hh.elim
  | (_, _) :: _, [], _, _, _, hh, _, _ => hh.elim

theorem MR.erase : ∀ {l : List (AV × AV)} {m : List MapEntry} (i : Nat), MR ρ l m → MR ρ (eraseNth l i) (m.eraseIdx i)
  | [], [], i, _ => by simp [eraseNth, MR]
  | (_, _) :: _, _ :: _, 0, ⟨_, _, h3⟩ => by simpa [eraseNth] using h3
  | (_, _) :: _, _ :: _, i + 1, ⟨h1, h2, h3⟩ => by simp [eraseNth]; exact ⟨h1, h2, MR.erase i h3⟩
  | [], _ :: _, _, hh => hh.elim
  | (_, _) :: _, [], _, hh => hh.elim

theorem diffScalar_ne {a b : AV} {v : Value} (ha : VR ρ a v) (hb : VR ρ b v) : diffScalar a b = false := by
  cases a <;> cases b <;> first
    | rfl
    | (cases ha; cases hb; simp [diffScalar, eqL_eq]; done)

theorem diffList_ne : ∀ {l m : List AV} {vs : List Value}, VRs ρ l vs → VRs ρ m vs → diffList l m = false
  | [], _, _, _, _ => by simp [diffList]
  | _ :: _, [], _, _, _ => by simp [diffList]
  | a :: l, b :: m, _, h1, h2 => by
    cases h1 with
    | cons x1 t1 =>
      cases h2 with
      | cons x2 t2 => simp only [diffList, diffScalar_ne x1 x2, diffList_ne t1 t2, Bool.or_self]

theorem diffSimple_ne {a b : AV} {v : Value} (ha : VR ρ a v) (hb : VR ρ b v) : diffSimple a b = false := by
  cases a with
  | agg l =>
    cases ha with
    | agg h1 =>
      cases hb with
      | agg h2 => exact diffList_ne h1 h2
      | junk => rfl
  | _ => exact diffScalar_ne ha hb

theorem diffAll_ne {k : AV} {ck : Value} (hk : VR ρ k ck) : ∀ {es : List (AV × AV)} {l : List MapEntry}, MR ρ es l → diffAll k es = true → ∀ x ∈ l, x.key ≠ ck
  | [], [], _, _, x, hx => by cases hx
  | (k', v') :: es, e :: l, ⟨h1, h2, h3⟩, hd, x, hx => by
    simp only [diffAll, Bool.and_eq_true] at hd
    rcases List.mem_cons.1 hx with rfl | hx
    · intro he
      rw [diffSimple_ne h1 (by rw [he]; exact hk)] at hd
      cases hd.1
    · exact diffAll_ne hk h3 hd.2 x hx
  | [], _ :: _, hh, _, _, _ => hh.elim
  | (_, _) :: _, [], hh, _, _, _ => hh.elim

theorem born_modify (f : MapEntry → MapEntry) : ∀ (l : List MapEntry) (i : Nat), (∀ e, (f e).born = e.born) → (l.modify i f).map (·.born) = l.map (·.born)
  | [], _, _ => by simp
  | e :: l, 0, h => by simp [List.modify_zero_cons, h e]
  | e :: l, i + 1, h => by simp [List.modify_succ_cons, born_modify f l i h]
theorem map_eraseIdx' : ∀ (l : List MapEntry) (i : Nat), (l.map (·.born)).eraseIdx i = (l.eraseIdx i).map (·.born)
  | [], _ => by simp
  | e :: l, 0 => by simp
  | e :: l, i + 1 => by simp [map_eraseIdx' l i]
theorem evMapUpdate_sound (hR : Rel K ρ h w) {t : TypeId} {m k v : AV} {cm ck cv : Value} {r : ORes} (hm : VR ρ m cm) (hk : VR ρ k ck) (hv : VR ρ v cv) (hb : evMapUpdate P h t m k v = some r) :
    ∃ h' w', r = .skip h' ∧ (Instr.mapUpdate t cm ck cv).run P w = .ok () w' ∧ h.nx ≤ h'.nx ∧ Rel K ρ h' w' := by
  unfold evMapUpdate at hb
  split at hb
  · rename_i kt et id hd
    cases hm with
    | map hp =>
    rename_i p
    split at hb
    · rename_i es bs clock hg
      split at hb
      · simp at hb
      · rename_i hck
        simp only [Bool.or_eq_true, Bool.not_eq_true', not_or, Bool.not_eq_false] at hck
        obtain ⟨q, ces, hq, hh, hmr, hbs, hstm⟩ := hR.map hg
        rw [hp] at hq; cases hq
        cases hr : findA P h kt k es 0 with
        | none => simp [hr] at hb
        | some rr =>
          simp only [hr, Option.bind_eq_bind, Option.bind_some] at hb
          obtain ⟨q, hq1, hfr⟩ := findKey_sound (em := false) hR hk hck.1 hmr hr
          have hchk := checkA_sound (P := P) (w := w) 12 10000 kt k ck false (by omega) hk hck.1
          unfold Instr.mapUpdate
          simp only [Sem.run_bind, run_underlying' hd, Result.andThen_ok, run_getObj' hh (fun _ _ _ hc => by cases hc), hchk, hq1]
          cases rr with
          | none =>
            cases q with
            | some q => exact hfr.elim
            | none =>
            simp only at hb
            split at hb
            · rename_i hdiff
              simp only [Option.some.injEq] at hb
              subst hb
              refine ⟨_, _, rfl, by simp only [run_setObj' hh (fun _ _ _ hc => by cases hc)], Nat.le_refl _, hR.setObj hg hp rfl rfl (o' := .map (es ++ [(k, v)]) (bs ++ [clock]) (clock + 1)) (co' := .map (ces.push { key := ck, val := cv, born := clock }) (clock + 1)) ⟨_, rfl, ?_, ?_, MapKept.stamped_push hstm (diffAll_ne hk hmr hdiff)⟩⟩
              · rw [Array.toList_push]
                exact hmr.snoc hk hv
              · rw [Array.toList_push, List.map_append, hbs]; rfl
            · simp at hb
          | some rr =>
            obtain ⟨i, k', v'⟩ := rr
            cases q with
            | none => exact hfr.elim
            | some q =>
            obtain ⟨j, cv'⟩ := q
            obtain ⟨hij, _, _, e, hei, hke, _⟩ := hfr
            subst hij
            simp only at hb
            split at hb
            · rename_i hsame
              simp only [Bool.and_eq_true] at hsame
              simp only [Option.some.injEq] at hb
              subst hb
              have hkk := sameSimple_eq hsame.2
              subst hkk
              have hkey : e.key = ck := simple_unique hsame.1 hke hk
              have hei' : ces[i]? = some e := by simpa using hei
              refine ⟨_, _, rfl, ?_, Nat.le_refl _, hR.setObj hg hp rfl rfl (o' := .map (setNth (k', v) es i) bs clock) (co' := .map (ces.modify i fun e => { e with key := ck, val := cv }) clock) ⟨_, rfl, ?_, ?_, MapKept.stamped_modify hstm i _ (fun _ _ => rfl) (fun e' _ he' => by rw [hei'] at he'; cases he'; exact hkey.symm)⟩⟩
              · have hks : (Instr.keyThatStays (((ces[i]?).map (·.key)).getD ck) ck).run P w = .ok ck w := by
                  rw [hei']
                  simp only [Option.map_some, Option.getD_some, hkey, Instr.keyThatStays, sameBits_simple hsame.1 hk, if_true, Sem.run_pure]
                simp only [Sem.run_bind, hks, Result.andThen_ok, run_setObj' hh (fun _ _ _ hc => by cases hc)]
              · rw [Array.toList_modify]
                exact hmr.set i hk hv
              · rw [Array.toList_modify, hbs]
                exact (born_modify (fun e => { e with key := ck, val := cv }) _ _ fun _ => rfl).symm
            · simp at hb
    · simp at hb
  · simp at hb

theorem evDelete_sound (hR : Rel K ρ h w) {argTypes : Array TypeId} {ty : TypeId} {m k : AV} {cm ck : Value} {r : ORes} (hm : VR ρ m cm) (hk : VR ρ k ck) (hb : evDelete P h argTypes m k = some r) :
    ∃ a h' ρ' cv w', r = .val a h' ∧ (Builtin.delete_ argTypes ty #[cm, ck]).run P w = .ok cv w' ∧ Ext h.nx ρ h'.nx ρ' ∧ VR ρ' a cv ∧ Rel K ρ' h' w' := by
  unfold evDelete at hb
  cases h0 : argTypes[0]? with
  | none => simp [h0] at hb
  | some t =>
  simp only [h0, Option.bind_eq_bind, Option.bind_some] at hb
  have hz : VR ρ (.tup []) (.tuple #[]) := .tup .nil
  split at hb
  · rename_i kt et hd
    split at hb
    · simp at hb
    · rename_i hck
      replace hck : checkA P 12 kt k = true := by
        cases hh : checkA P 12 kt k with
        | true => rfl
        | false => rw [hh] at hck; simp at hck
      unfold Builtin.delete_
      simp only [h0, List.getElem?_toArray, List.getElem?_cons_zero, List.getElem?_cons_succ, Sem.run_bind, run_underlying' hd, Result.andThen_ok]
      split at hb
      · cases hm
        simp only [Option.some.injEq] at hb; subst hb
        refine ⟨_, _, ρ, _, w, rfl, ?_, Ext.refl _ _, hz, hR⟩
        simp only [Sem.run_bind, checkA_sound (P := P) (w := w) 12 10000 kt k ck true (by omega) hk hck, Result.andThen_ok, Sem.run_pure]
      · rename_i id
        cases hm with
        | map hp =>
        rename_i p
        split at hb
        · rename_i es bs clock hg
          obtain ⟨q, ces, hq, hh, hmr, hbs, hstm⟩ := hR.map hg
          rw [hp] at hq; cases hq
          cases hr : findA P h kt k es 0 with
          | none => simp [hr] at hb
          | some rr =>
            simp only [hr, Option.bind_some] at hb
            obtain ⟨q, hq1, hfr⟩ := findKey_sound (em := false) hR hk hck hmr hr
            have hchk := checkA_sound (P := P) (w := w) 12 10000 kt k ck ces.isEmpty (by omega) hk hck
            simp only [run_getObj' hh (fun _ _ _ hc => by cases hc), Result.andThen_ok, hchk, hq1, Sem.run_bind]
            cases rr with
            | none =>
              cases q with
              | some q => exact hfr.elim
              | none =>
              simp only [Option.some.injEq] at hb
              subst hb
              refine ⟨_, _, ρ, _, _, rfl, by simp only [Sem.run_bind, run_setObj' hh (fun _ _ _ hc => by cases hc), Result.andThen_ok, Sem.run_pure]; rfl, Ext.refl _ _, hz, ?_⟩
              have hrel := hR.setObj hg hp rfl rfl (o' := .map es bs clock) (co' := .map ces clock) ⟨ces, rfl, hmr, hbs, hstm⟩
              refine hrel.forget (fun j oj hj => ?_) (Nat.le_refl _)
              rw [AH.get_put]
              split
              · rename_i e; subst e; rw [hg] at hj; exact hj
              · exact hj
            | some rr =>
              obtain ⟨i, k', v'⟩ := rr
              cases q with
              | none => exact hfr.elim
              | some q =>
              obtain ⟨j, cv'⟩ := q
              obtain ⟨hij, _⟩ := hfr
              subst hij
              simp only [Option.some.injEq] at hb
              subst hb
              refine ⟨_, _, ρ, _, _, rfl, by simp only [Sem.run_bind, run_setObj' hh (fun _ _ _ hc => by cases hc), Result.andThen_ok, Sem.run_pure], Ext.refl _ _, hz, hR.setObj hg hp rfl rfl (o' := .map (eraseNth es i) (bs.eraseIdx i) clock) ⟨_, rfl, ?_, ?_, MapKept.stamped_erase hstm i⟩⟩
              · have : (ces.eraseIdxIfInBounds i).toList = ces.toList.eraseIdx i := by
                  unfold Array.eraseIdxIfInBounds
                  split
                  · simp
                  · rename_i hlt
                    rw [List.eraseIdx_of_length_le (by simpa using hlt)]
                rw [this]
                exact hmr.erase i
              · have : (ces.eraseIdxIfInBounds i).toList = ces.toList.eraseIdx i := by
                  unfold Array.eraseIdxIfInBounds
                  split
                  · simp
                  · rename_i hlt
                    rw [List.eraseIdx_of_length_le (by simpa using hlt)]
                rw [this, hbs, map_eraseIdx']
        · simp at hb
      · simp at hb
  · simp at hb

end
end Go.Abs
end

section
namespace Go.Abs
open Go
set_option linter.unusedVariables false
set_option linter.unusedSimpArgs false

section
variable {P : Program} {ρ : Pm} {w : World} {K : Kp} {h : AH}

def OpPost (P : Program) (K : Kp) (h : AH) (ρ : Pm) (w : World) (run : Result Next) : ORes → Prop
  | .val v h' => ∃ ρ' cv w', run = .ok (.value cv) w' ∧ Ext h.nx ρ h'.nx ρ' ∧ VR ρ' v cv ∧ Rel K ρ' h' w'
  | .skip h' => ∃ w', run = .ok .skip w' ∧ h.nx ≤ h'.nx ∧ Rel K ρ h' w'
  | .call f args => ∃ cargs : Array Value, run = (callFunc f cargs).run P w ∧ VRs ρ args cargs.toList
  | .yield id args => ∃ (p : Pl) (cargs : Array Value), ρ id = some p ∧ run = (Instr.yield p.b cargs).run P w ∧ VRs ρ args cargs.toList

theorem opPost_val {s : Sem Value} {v : AV} {h' : AH} (hh : ∃ ρ' cv w', s.run P w = .ok cv w' ∧ Ext h.nx ρ h'.nx ρ' ∧ VR ρ' v cv ∧ Rel K ρ' h' w') :
    OpPost P K h ρ w ((do pure (.value (← s)) : Sem Next).run P w) (.val v h') := by
  obtain ⟨ρ', cv, w', r1, r2⟩ := hh
  exact ⟨ρ', cv, w', by simp only [Sem.run_bind, r1, Result.andThen_ok, Sem.run_pure], r2⟩

theorem opPost_pure (hR : Rel K ρ h w) {s : Sem Value} {v? : Option AV} {r : ORes} (hv : val? h v? = some r) (hh : ∀ v, v? = some v → ∃ cv, s.run P w = .ok cv w ∧ VR ρ v cv) :
    OpPost P K h ρ w ((do pure (.value (← s)) : Sem Next).run P w) r := by
  cases v? with
  | none => simp [val?] at hv
  | some v =>
    simp only [val?, Option.some.injEq] at hv
    subst hv
    obtain ⟨cv, r1, r2⟩ := hh v rfl
    exact opPost_val ⟨ρ, cv, w, r1, Ext.refl _ _, r2, hR⟩

theorem opPost_res {s : Sem Value} {r : ORes} (hh : ∃ a h' ρ' cv w', r = .val a h' ∧ s.run P w = .ok cv w' ∧ Ext h.nx ρ h'.nx ρ' ∧ VR ρ' a cv ∧ Rel K ρ' h' w') :
    OpPost P K h ρ w ((do pure (.value (← s)) : Sem Next).run P w) r := by
  obtain ⟨a, h', ρ', cv, w', rfl, r1, r2⟩ := hh
  exact opPost_val ⟨ρ', cv, w', r1, r2⟩

theorem modify_push (a : Array Obj) (x : Obj) (f : Obj → Obj) : (a.push x).modify a.size f = a.push (f x) := by
  apply Array.ext
  · simp
  · intro i h1 h2
    simp only [Array.getElem_modify, Array.getElem_push]
    by_cases e : i < a.size
    · have : a.size ≠ i := by omega
      simp [e, this]
    · have : a.size = i := by simp at h2; omega
      simp [e, this]

theorem bytesA_sound : ∀ {l : List AV} {m : List Value} {bs : List Nat}, VRs ρ l m → bytesA l = some bs → ∃ ns : List Int, m = ns.map (Value.int .u8) ∧ (ns.map fun n => (UInt8.ofNat n.toNat).toNat) = bs
  | [], m, bs, hl, hb => by
    cases hl; simp only [bytesA, Option.some.injEq] at hb; subst hb; exact ⟨[], rfl, rfl⟩
  | a :: l, m, bs, hl, hb => by
    unfold bytesA at hb
    split at hb
    · simp at *
    · rename_i n r heq
      simp only [List.cons.injEq] at heq
      obtain ⟨rfl, rfl⟩ := heq
      cases hl with
      | cons ha hl =>
      cases ha
      split at hb
      · rename_i k
        split at hb
        · rename_i hlt
          cases hr : bytesA l with
          | none => simp [hr] at hb
          | some bs' =>
            simp only [hr, Option.map_some, Option.some.injEq] at hb
            subst hb
            obtain ⟨ns, h1, h2⟩ := bytesA_sound hl hr
            refine ⟨Int.ofNat k :: ns, by rw [h1]; rfl, ?_⟩
            simp only [List.map_cons, h2, List.cons.injEq, and_true]
            simp only [Int.ofNat_eq_natCast, Int.toNat_natCast, UInt8.toNat_ofNat']
            exact Nat.mod_eq_of_lt (by simpa using hlt)
        · simp at hb
      · simp at hb
    · simp at hb

theorem foldl_push (ns : List Int) : ∀ (s : ByteArray), bytesOf (ns.foldl (fun r n => r.push (UInt8.ofNat n.toNat)) s) = bytesOf s ++ ns.map fun n => (UInt8.ofNat n.toNat).toNat := by
  induction ns with
  | nil => intro s; simp
  | cons n ns ih =>
    intro s
    simp only [List.foldl_cons, ih]
    simp [bytesOf, ByteArray.push]

theorem evConvert_sound (hR : Rel K ρ h w) {src dst : TypeId} {x : AV} {cx : Value} {r : ORes} (hx : VR ρ x cx) (hb : evConvert P h src dst x = some r) :
    OpPost P K h ρ w ((do pure (.value (← convert src dst cx)) : Sem Next).run P w) r := by
  unfold evConvert at hb
  split at hb
  · -- to an integer
    rename_i sd k k' n hs hd
    cases hx
    refine opPost_pure hR hb fun v hv => ?_
    simp only [Option.some.injEq] at hv
    subst hv
    refine ⟨.int k (k.wrap n), ?_, .int _ _⟩
    unfold convert
    simp only [Sem.run_bind, run_underlying' hs, run_underlying' hd, Result.andThen_ok]
    cases sd <;> rfl
  · rename_i sd s hs hd
    refine opPost_pure hR hb fun v hv => ?_
    simp only [Option.some.injEq] at hv
    subst hv
    refine ⟨cx, ?_, hx⟩
    cases hx
    unfold convert
    simp only [Sem.run_bind, run_underlying' hs, run_underlying' hd, Result.andThen_ok]
    cases sd <;> rfl
  · -- a string's bytes
    rename_i sd e s hs hd
    split at hb
    · rename_i he
      cases hx
      rename_i bs
      refine opPost_res ?_
      simp only [newCells, Option.some.injEq] at hb
      subst hb
      let q := Question.appendCap bs.size 0 e
      let cap := q.cut (w.tape w.drawn q)
      have hcap : bs.size ≤ cap := by simp only [cap, q, Question.cut]; omega
      let cells : Array Value := (bs.data.map fun b => Value.int .u8 b.toNat) ++ Array.replicate (cap - bs.size) (Value.int .u8 0)
      have hcs : cells.size = cap := by simp [cells]; have : bs.data.size = bs.size := rfl; omega
      have hR1 : Rel K ρ h { w with drawn := w.drawn + 1 } := hR.drawn _
      have hpush := hR1.push (o := .cells ((bytesOf bs).map fun (b : Nat) => AV.int .u8 b) true true) (co := .cells cells e (cells.size, cells.size + 1)) (lim := cells.size) rfl
        ⟨cells, e, _, rfl, by simp, by simp [bytesOf_length]; omega, fun i a hi => by
          have hu := u8_map (ρ := ρ) bs bs.size
          have hlt : i < bs.size := by
            have := (List.getElem?_eq_some_iff.1 hi).1
            simpa [bytesOf_length] using this
          rw [List.take_of_length_le (by rw [bytesOf_length]; exact Nat.le_refl _)] at hu
          obtain ⟨v, hv, rr⟩ := hu.get hi
          refine ⟨v, ?_, rr.mono (Pm.le_put (hR.fresh _ (Nat.le_refl _)))⟩
          have e1 : (bs.extract 0 bs.size) = bs := by simp
          rw [e1] at hv
          simp only [cells]
          rw [Array.getElem?_append_left (by simp; exact hlt)]
          simpa using hv, fun _ => .inr rfl, fun _ ht => by cases ht⟩
      refine ⟨_, _, _, .slice (some ⟨w.heap.size, 0, none⟩) bs.size cap, _, rfl, ?_, hpush.2, ?_, hpush.1⟩
      · have hforced : (Question.appendCap bs.size 0 e).forced = false := rfl
        unfold convert
        simp only [Sem.run_bind, run_underlying' hs, run_underlying' hd, Result.andThen_ok, run_underlying' he]
        have hrun : (Conv.stringToBytes e bs).run P w = .ok (.slice (some ⟨w.heap.size, 0, none⟩) bs.size cap) { w with heap := w.heap.push (.cells cells e (cells.size, cells.size + 1)), drawn := w.drawn + 1 } := by
          unfold Conv.stringToBytes
          simp only [Sem.run_bind, run_choose, hforced, Bool.false_eq_true, if_false, Result.andThen_ok, newRow, run_newObj, Sem.run_pure]
          have hsh : ∀ (ww : World), ww.heap = w.heap.push (.cells cells e (0, 0)) → (markStringish ⟨w.heap.size, 0, none⟩).run P ww = .ok () { ww with heap := w.heap.push (.cells cells e (cells.size, cells.size + 1)) } := by
            intro ww hww
            have h1 : ww.shape? w.heap.size = some (e, cells.size) := by simp [World.shape?, hww]
            unfold markStringish
            simp only [Sem.run_bind, run_shape, Result.andThen_ok, h1, run_freeze]
            unfold World.freeze
            simp only [Nat.one_ne_zero, if_false, hww]
            rw [modify_push]
            simp
          rw [hsh _ rfl]
          rfl
        cases sd <;> exact hrun
      · rw [bytesOf_length]
        exact .sl (Pm.put_self _ _ _) hcap (.inr rfl) (.inr (by simp [hcs])) (fun n hn => by cases hn)
    · simp at hb
  · -- bytes as0 bytes
    rename_i se e id off len sz c hs hd
    split at hb
    · rename_i cs text he hg
      split at hb
      · rename_i hcond
        simp only [Bool.and_eq_true, decide_eq_true_eq] at hcond
        obtain ⟨rfl, hpos⟩ := hcond
        obtain rfl : se = e := by rw [hs] at hd; cases hd; rfl
        simp only [Option.some.injEq] at hb
        subst hb
        have hx0 := hx
        cases hx with
        | sl hp hlc ha hxx hc =>
        rename_i p ad cap
        rcases ha with h00 | rfl
        · omega
        obtain ⟨q, cc, ee, fr, hq, hh, hsz, hlim, hget, hfr, htx, _⟩ := hR.cells hg
        rw [hp] at hq; cases hq
        refine opPost_val ⟨ρ, _, w.freeze { block := p.b, off := cc.size } 1, ?_, Ext.refl _ _, hx0, ?_⟩
        · unfold convert
          simp only [Sem.run_bind, run_underlying' hs, Result.andThen_ok, run_underlying' he, beq_self_eq_true]
          have h1 : w.shape? p.b = some (ee, cc.size) := by simp [World.shape?, hh]
          unfold markStringish
          simp only [Sem.run_bind, run_shape, Result.andThen_ok, h1, run_freeze, Sem.run_pure]
        · have hfz : (w.freeze { block := p.b, off := cc.size } 1).heap[p.b]? = some (.cells cc ee (cc.size, cc.size + 1)) := by
            unfold World.freeze
            simp only [Nat.one_ne_zero, if_false, Array.getElem?_modify, if_true, hh, Option.map_some]
            rcases hfr rfl with rfl | rfl
            · simp
            · simp
          refine hR.change hg hp rfl rfl ?_ ?_ ?_ ?_ (fun b hb => ?_) ?_
          · unfold World.freeze; simp
          · unfold World.freeze; simp
          · unfold World.freeze; simp
          · unfold World.freeze; simp
          · unfold World.freeze
            simp only [Nat.one_ne_zero, if_false, Array.getElem?_modify]
            rw [if_neg (Ne.symm hb)]
          · rw [hfz]
            exact ⟨cc, ee, _, rfl, hsz, hlim, hget, fun _ => .inr rfl, fun _ ht => by cases ht⟩
      · simp at hb
    · simp at hb
  · -- bytes as0 a string
    rename_i xx _ _ _ e hs hd hnstr
    split at hb
    · rename_i he
      cases hn : lenA xx with
      | none => simp [hn] at hb
      | some n =>
      simp only [hn, Option.bind_eq_bind, Option.bind_some] at hb
      · cases hf : firstA h 1 n xx with
        | none => simp [hf] at hb
        | some cs =>
        cases hby : bytesA cs with
        | none => simp [hf, hby] at hb
        | some bs =>
        simp only [hf, hby, Option.bind_some, Option.some.injEq] at hb
        subst hb
        obtain ⟨vs, hv1, hv2⟩ := firstA_sound (P := P) hR hx hf
        obtain ⟨ns, hm, hbs⟩ := bytesA_sound hv2 hby
        have hvs : vs = (ns.map (Value.int .u8)).toArray := by rw [← hm]
        refine opPost_val ⟨ρ, .string (ns.foldl (fun r n => r.push (UInt8.ofNat n.toNat)) ByteArray.empty), w, ?_, Ext.refl _ _, ?_, hR⟩
        · have hconv : (convert src dst cx).run P w = (Conv.bytesToString cx).run P w := by
            cases hx <;> simp only [lenA, reduceCtorEq] at hn
            · exact (hnstr _ rfl).elim
            · exact run_convert_bytes_string w src dst _ none 0 0 hs he hd
            · exact run_convert_bytes_string w src dst _ _ _ _ hs he hd
          rw [hconv]
          cases hx <;> simp only [lenA, reduceCtorEq, Option.some.injEq] at hn
          · exact (hnstr _ rfl).elim
          · subst hn
            have hvs0 : vs = #[] := by
              have : (Builtin.firstCells 1 0 (.slice none 0 0)).run P w = .ok #[] w := rfl
              rw [this] at hv1; cases hv1; rfl
            have hns : ns = [] := by
              rw [hvs0] at hvs
              have := congrArg Array.toList hvs
              simpa using this.symm
            subst hns
            rfl
          · subst hn
            refine run_bytesToString w _ _ _ ns ?_
            rw [← hvs]
            simpa [Builtin.firstCells] using hv1
        · have := foldl_push ns ByteArray.empty
          rw [hbs] at this
          have he0 : bytesOf ByteArray.empty = [] := rfl
          rw [he0, List.nil_append] at this
          rw [← this]
          exact .str _
    · simp at hb
  · simp at hb

end
end Go.Abs
end

section
namespace Go.Abs
open Go
set_option linter.unusedVariables false
set_option linter.unusedSimpArgs false

section
variable {P : Program} {ρ : Pm} {w : World} {K : Kp} {h : AH}

theorem VRs.of_map {E : Operand → AV} {ce : Operand → Value} (hE : ∀ x, VR ρ (E x) (ce x)) : ∀ (l : List Operand), VRs ρ (l.map E) (l.map ce)
  | [] => .nil
  | x :: l => .cons (hE x) (VRs.of_map hE l)

theorem OVR.of_map {E : Operand → AV} {ce : Operand → Value} (hE : ∀ x, VR ρ (E x) (ce x)) : ∀ (o : Option Operand), OVR ρ (o.map E) (o.map ce)
  | none => trivial
  | some x => hE x

theorem parts_ok {E : Operand → AV} {ce : Operand → Value} (hE : ∀ x, VR ρ (E x) (ce x)) (parts : Array (Nat × Operand)) :
    (parts.toList.map fun (i, x) => (i, E x)).map (·.1) = ((parts.map fun (i, x) => (i, ce x)).toList).map (·.1) ∧
    VRs ρ ((parts.toList.map fun (i, x) => (i, E x)).map (·.2)) (((parts.map fun (i, x) => (i, ce x)).toList).map (·.2)) := by
  rw [Array.toList_map]
  generalize parts.toList = l
  constructor
  · simp [Function.comp_def]
  · induction l with
    | nil => exact .nil
    | cons a l ih => exact .cons (hE _) ih

theorem methodA_sound {t : TypeId} {name : String} {f : FuncId} {v : Value} (n : Nat) (hm : methodA P t name = some f) : (method (n + 1) t v name).run P w = .ok (f, v) w := by
  unfold methodA at hm
  cases hi : P.info? t with
  | none => simp [hi] at hm
  | some i =>
  cases hf : i.methods.find? (·.name == name) with
  | none => simp [hi, hf] at hm
  | some m =>
  simp only [hi, hf, Option.bind_eq_bind, Option.bind_some] at hm
  split at hm
  · simp at hm
  · rename_i hpath
    have hp : m.path.toList = [] := by
      have : m.path.isEmpty = true := by
        cases hh : m.path.isEmpty with
        | true => rfl
        | false => rw [hh] at hpath; simp at hpath
      simpa using this
    unfold method
    simp only [Sem.run_bind, run_typeInfo' hi, Result.andThen_ok, hf, hp, follow, Sem.run_pure]
    split at hm
    · rename_i g pr hfn
      cases hd : P.underlying t with
      | none => simp [hd] at hm
      | some d =>
        simp only [hd, Option.bind_some] at hm
        simp only [hfn, Sem.run_bind]
        unfold receiverAt
        simp only [Sem.run_bind, run_underlying' hd, Result.andThen_ok]
        split at hm
        · simp only [Option.some.injEq] at hm; subst hm
          rfl
        · simp at hm
        · simp at hm
        · rename_i hnp
          simp only [Option.some.injEq] at hm; subst hm
          cases d <;> first | rfl | exact (hnp _ rfl).elim
    · simp at hm

theorem exists_depth (P : Program) : ∃ n, P.types.size + Made.depth = n + 1 := by
  have h0 : 0 < Made.depth := by decide
  exact ⟨P.types.size + Made.depth - 1, by omega⟩

theorem evInvoke_sound {fn : Fn} {args captured : List AV} {cargs ccap : Array Value} {r : ORes} (ha : VRs ρ args cargs.toList) (hc : VRs ρ captured ccap.toList) (hb : evInvoke P fn args captured = some r) :
    OpPost P K h ρ w ((invoke (.fn fn ccap) cargs).run P w) r := by
  unfold evInvoke at hb
  split at hb
  · simp only [Option.some.injEq] at hb
    subst hb
    exact ⟨cargs ++ ccap, rfl, by rw [Array.toList_append]; exact ha.append hc⟩
  · rename_i t name
    cases args with
    | nil => simp at hb
    | cons x args =>
      generalize hcl : cargs.toList = cl at ha
      cases ha with
      | cons hx ha =>
      rename_i cx cl
      have hc0 : cargs[0]? = some cx := by rw [← Array.getElem?_toList, hcl]; rfl
      have hce : (cargs.extract 1 cargs.size).toList = cl := by
        have hsz : cargs.size = cl.length + 1 := by rw [← Array.length_toList, hcl]; rfl
        simp [hcl, hsz]
      simp only [List.head?_cons, List.tail_cons, Option.bind_eq_bind, Option.bind_some] at hb
      split at hb
      · simp at hb
      · cases hd : P.underlying t with
        | none => simp [hd] at hb
        | some d =>
          simp only [hd, Option.bind_some] at hb
          split at hb
          · simp at hb
          · rename_i hni
            cases hm : methodA P t name with
            | none => simp [hm] at hb
            | some f =>
              simp only [hm, Option.bind_some, Option.some.injEq] at hb
              subst hb
              refine ⟨#[cx] ++ cargs.extract 1 cargs.size, ?_, by rw [Array.toList_append, hce]; exact .cons hx ha⟩
              unfold invoke
              simp only [hc0, Sem.run_bind, run_underlying' hd, Result.andThen_ok]
              have hrecv : (match d with | .interface _ => cx | _ => Value.iface t cx) = .iface t cx := by
                cases d <;> first | rfl | exact (hni _ rfl).elim
              have hcm : (callMethod (.iface t cx) name (cargs.extract 1 cargs.size)).run P w = (callFunc f (#[cx] ++ cargs.extract 1 cargs.size)).run P w := by
                unfold callMethod
                simp only [Sem.run_bind, run_program, Result.andThen_ok]
                have hdep : ∃ n, P.types.size + Made.depth = n + 1 := exists_depth P
                obtain ⟨n, hn⟩ := hdep
                rw [hn, methodA_sound n hm]
                rfl
              cases d <;> first | exact hcm | exact (hni _ rfl).elim
  · rename_i name
    cases args with
    | nil => simp at hb
    | cons x args =>
      generalize hcl : cargs.toList = cl at ha
      cases ha with
      | cons hx ha =>
      rename_i cx cl
      have hc0 : cargs[0]? = some cx := by rw [← Array.getElem?_toList, hcl]; rfl
      have hce : (cargs.extract 1 cargs.size).toList = cl := by
        have hsz : cargs.size = cl.length + 1 := by rw [← Array.length_toList, hcl]; rfl
        simp [hcl, hsz]
      simp only [List.head?_cons, List.tail_cons, Option.bind_eq_bind, Option.bind_some] at hb
      split at hb
      · rename_i t v
        cases hx with
        | iface hv =>
        rename_i cv
        cases hm : methodA P t name with
        | none => simp [hm] at hb
        | some f =>
          simp only [hm, Option.bind_some, Option.some.injEq] at hb
          subst hb
          refine ⟨#[cv] ++ cargs.extract 1 cargs.size, ?_, by rw [Array.toList_append, hce]; exact .cons hv ha⟩
          unfold invoke
          simp only [hc0]
          unfold callMethod
          simp only [Sem.run_bind, run_program, Result.andThen_ok]
          have hdep : ∃ n, P.types.size + Made.depth = n + 1 := exists_depth P
          obtain ⟨n, hn⟩ := hdep
          rw [hn, methodA_sound n hm]
          rfl
      · simp at hb
  · simp at hb

theorem map2 {α β : Type} {f : α → β} {a : Array α} {x y : β} (hh : a.toList.map f = [x, y]) : a.map f = #[x, y] := by
  apply Array.toList_inj.1; simpa using hh
theorem map1 {α β : Type} {f : α → β} {a : Array α} {x : β} (hh : a.toList.map f = [x]) : a.map f = #[x] := by
  apply Array.toList_inj.1; simpa using hh

theorem evCall_sound (hR : Rel K ρ h w) {E : Operand → AV} {ce : Operand → Value} (hE : ∀ x, VR ρ (E x) (ce x)) {c : Call} {ty : TypeId} {r : ORes} (hb : evCall P h E c = some r) :
    OpPost P K h ρ w ((do let d ← resolve ce c ty; invoke d.target d.args : Sem Next).run P w) r := by
  have hargs := VRs.of_map hE c.args.toList
  unfold evCall at hb
  simp only at hb
  unfold resolve
  split at hb
  · rename_i b hcal
    simp only [hcal, Sem.run_bind, Sem.run_pure, Result.andThen_ok]
    generalize hl : c.args.toList.map E = l at hb hargs
    generalize hm : c.args.toList.map ce = m at hargs
    split at hb
    · cases hargs with
      | cons h1 t => cases t with
        | cons h2 t => cases t with
          | nil =>
          rw [map2 hm]
          exact opPost_res (evAppend_sound hR h1 h2 hb)
    · cases hargs with
      | cons h1 t => cases t with
        | cons h2 t => cases t with
          | nil =>
          rw [map2 hm]
          exact opPost_res (evCopy_sound hR h1 h2 hb)
    · cases hargs with
      | cons h1 t => cases t with
        | nil =>
        rw [map1 hm]
        exact opPost_pure hR hb fun v hv => evLen_sound hR h1 hv
    · cases hargs with
      | cons h1 t => cases t with
        | nil =>
        rw [map1 hm]
        exact opPost_pure hR hb fun v hv => evCap_sound h1 hv
    · cases hargs with
      | cons h1 t => cases t with
        | nil =>
        rw [map1 hm]
        exact opPost_res (evClear_sound hR h1 hb)
    · cases hargs with
      | cons h1 t => cases t with
        | cons h2 t => cases t with
          | nil =>
          rw [map2 hm]
          exact opPost_res (evDelete_sound hR h1 h2 hb)
    · have hm' : (c.args.map ce).toList = m := by rw [← hm]; simp
      exact opPost_pure hR hb fun v hv => maxA_sound (by rw [hm']; exact hargs) hv
    · have hm' : (c.args.map ce).toList = m := by rw [← hm]; simp
      exact opPost_pure hR hb fun v hv => minA_sound (by rw [hm']; exact hargs) hv
    · simp at hb
  · rename_i x name hcal
    simp only [hcal, Sem.run_bind, Sem.run_pure, Result.andThen_ok]
    exact evInvoke_sound (by rw [Array.toList_append, Array.toList_map]; exact .cons (hE _) hargs) .nil hb
  · rename_i f hcal
    simp only [hcal, Sem.run_bind]
    have hf := hE f
    split at hb
    · rename_i fn first captured heq
      rw [heq] at hf
      generalize hcf : ce f = cf at hf
      cases hf with
      | func hp hl hm =>
      simp only [Deferred.ofValue, Sem.run_pure, Result.andThen_ok]
      exact evInvoke_sound (by rw [Array.toList_append, Array.toList_map]; exact hl.append hargs) hm hb
    · rename_i id heq
      rw [heq] at hf
      generalize hcf : ce f = cf at hf
      cases hf with
      | yld hp =>
      simp only [Option.some.injEq] at hb
      subst hb
      simp only [Deferred.ofValue, Sem.run_pure, Result.andThen_ok]
      exact ⟨_, _, hp, rfl, by rw [Array.toList_append, Array.toList_map]; exact hargs⟩
    · simp at hb

def AllocNext (P : Program) (ρ : Pm) (s : Sem Next) (ob : AO) (mk : Nat → AV) : Prop :=
  ob.own = true ∧ ∀ w : World, ∃ co lim cv, s.run P w = .ok (.value cv) { w with heap := w.heap.push co } ∧
    ∀ (ρ' : Pm) (id : Nat), ρ.le ρ' → ρ' id = some ⟨w.heap.size, 0, lim⟩ → OR ρ' ⟨w.heap.size, 0, lim⟩ ob (some co) ∧ VR ρ' (mk id) cv

theorem AllocOk.next {s : Sem Value} {ob : AO} {mk : Nat → AV} (hh : AllocOk P ρ s ob mk) : AllocNext P ρ (do pure (.value (← s))) ob mk :=
  ⟨hh.1, fun w => let ⟨co, lim, cv, r1, r2⟩ := hh.2 w; ⟨co, lim, cv, by simp only [Sem.run_bind, r1, Result.andThen_ok, Sem.run_pure], r2⟩⟩

theorem allocA_sound {E : Operand → AV} {ce : Operand → Value} (hE : ∀ x, VR ρ (E x) (ce x)) {op : Op} {ty : TypeId} {dst : Option Tmp} {pos : String} {after : Array Edge} {guard : Option (Nat × Bool)} {ob : AO} {mk : Nat → AV} (hb : allocA P E op = some (ob, mk)) :
    AllocNext P ρ (execOp ce { dst, op, type := ty, pos, after, guard }) ob mk := by
  cases op <;> simp only [allocA] at hb <;> (first | (simp at hb; done) | skip) <;> unfold execOp <;> simp only
  case alloc e =>
    refine AllocOk.next ?_
    cases hz : tzero P e with
    | none => simp [hz] at hb
    | some z =>
    cases hzc : cellsA (toAV z) with
    | none => simp [hz, hzc] at hb
    | some zc =>
    simp only [hz, hzc, Option.bind_eq_bind, Option.bind_some] at hb
    simp only [Option.some.injEq, Prod.mk.injEq] at hb
    obtain ⟨rfl, rfl⟩ := hb
    have hzr := zero_cells (ρ := ρ) hzc
    have hlen : zc.isEmpty = false → 0 < z.cells.size := fun hne => by
      have := hzr.length
      cases zc with
      | nil => simp at hne
      | cons a l => simp at this; omega
    · refine ⟨rfl, fun w => ⟨.cells z.cells e (0, 0), z.cells.size, .pointer (some ⟨w.heap.size, 0, none⟩), ?_, fun ρ' id hle' hid => ⟨newOR hle' hzr.toCells (by rw [hzr.length]; simp) (fun ht => hlen ht), .ptr hid⟩⟩⟩
      simp only [Instr.alloc, Sem.run_bind, run_zeroValue' hz, Result.andThen_ok, newVar, newRow, run_newObj, Sem.run_pure]
  case box e x =>
    refine AllocOk.next ?_
    have hx := hE x
    cases hzc : cellsA (E x) with
    | none => simp [hzc] at hb
    | some zc =>
    simp only [hzc, Option.bind_eq_bind, Option.bind_some] at hb
    simp only [Option.some.injEq, Prod.mk.injEq] at hb
    obtain ⟨rfl, rfl⟩ := hb
    have hzr := cellsA_sound hx hzc
    have hlen : zc.isEmpty = false → 0 < (ce x).cells.size := fun hne => by
      have := hzr.length
      cases zc with
      | nil => simp at hne
      | cons a l => simp at this; omega
    · refine ⟨rfl, fun w => ⟨.cells (ce x).cells e (0, 0), (ce x).cells.size, .pointer (some ⟨w.heap.size, 0, none⟩), ?_, fun ρ' id hle' hid => ⟨newOR hle' hzr.toCells (by rw [hzr.length]; simp) (fun ht => hlen ht), .ptr hid⟩⟩⟩
      simp only [Instr.box, Sem.run_bind, Result.andThen_ok, newVar, newRow, run_newObj, Sem.run_pure]
  case buildSlice t len parts =>
    obtain ⟨p1, p2⟩ := parts_ok hE parts
    exact (bsA_sound p1 p2 hb).next
  case makeSlice t l c => exact (msA_sound (hE l) (hE c) hb).next
  case makeMap t r =>
    refine AllocOk.next ?_
    have key : ∀ w : World, ∃ co lim cv, ((do pure (.map (some (← newObj (.map #[] 0)))) : Sem Value)).run P w = .ok cv { w with heap := w.heap.push co } ∧
        ∀ (ρ' : Pm) (id : Nat), ρ.le ρ' → ρ' id = some ⟨w.heap.size, 0, lim⟩ → OR ρ' ⟨w.heap.size, 0, lim⟩ (.map [] [] 0) (some co) ∧ VR ρ' (.map id) cv := fun w =>
      ⟨.map #[] 0, 0, .map (some w.heap.size), rfl, fun ρ' id hle' hid => ⟨⟨#[], rfl, trivial, rfl, MapKept.stamped_empty 0⟩, .map hid⟩⟩
    cases r with
    | none =>
      simp only [Option.map_none] at hb
      have hb' : some ((.map [] [] 0, AV.map) : AO × (Nat → AV)) = some (ob, mk) := by
        cases hd : P.underlying t <;> simpa [hd] using hb
      simp only [Option.some.injEq, Prod.mk.injEq] at hb'
      obtain ⟨rfl, rfl⟩ := hb'
      exact ⟨rfl, fun w => key w⟩
    | some x =>
      have hx := hE x
      simp only [Option.map_some] at hb
      split at hb
      · rename_i hn; cases hn
      · rename_i kt et k n hd heq
        simp only [Option.some.injEq] at heq
        rw [heq] at hx
        generalize hcx : ce x = cx at hx
        cases hx
        simp only [Option.some.injEq, Prod.mk.injEq] at hb
        obtain ⟨rfl, rfl⟩ := hb
        refine ⟨rfl, fun w => ?_⟩
        obtain ⟨co, lim, cv, r1, r2⟩ := key w
        refine ⟨co, lim, cv, ?_, r2⟩
        unfold Instr.makeMap
        simp only [Option.map_some, hcx, Sem.run_bind, run_underlying' hd, Result.andThen_ok, asInt, asIntOf, Sem.run_pure] at r1 ⊢
        exact r1
      · simp at hb

theorem allocated_sound (hR : Rel K ρ h w) {s : Sem Next} {q : Option (AO × (Nat → AV))} {r : ORes} (hh : ∀ {ob mk}, q = some (ob, mk) → AllocNext P ρ s ob mk) (hb : allocated h q = some r) : OpPost P K h ρ w (s.run P w) r := by
  unfold allocated at hb
  split at hb
  · rename_i ob mk
    simp only [Option.some.injEq] at hb
    subst hb
    obtain ⟨hown, hw⟩ := hh rfl
    obtain ⟨co, lim, cv, r1, r2⟩ := hw w
    have hle : ρ.le (ρ.put h.nx ⟨w.heap.size, 0, lim⟩) := Pm.le_put (hR.fresh _ (Nat.le_refl _))
    obtain ⟨r3, r4⟩ := r2 _ h.nx hle (Pm.put_self _ _ _)
    obtain ⟨h1, h2⟩ := hR.push hown r3
    exact ⟨_, cv, _, r1, h2, r4, h1⟩
  · simp at hb

theorem bytesOf_get {bs : ByteArray} {pos : Nat} : (bytesOf bs)[pos]? = (bs.data[pos]?).map UInt8.toNat := by
  simp [bytesOf]
theorem evRange_sound (hR : Rel K ρ h w) {t : TypeId} {x : AV} {cx : Value} {r : ORes} (hx : VR ρ x cx) (hb : evRange P h t x = some r) :
    ∃ a h' ρ' cv w', r = .val a h' ∧ (Instr.range t cx).run P w = .ok cv w' ∧ Ext h.nx ρ h'.nx ρ' ∧ VR ρ' a cv ∧ Rel K ρ' h' w' := by
  unfold evRange at hb
  split at hb
  · rename_i s hd
    cases hb
    generalize hcx : cx = cv at hx
    cases hx with
    | str bs =>
    obtain ⟨hR1, hle1⟩ := hR.push (o := .sit (bytesOf bs) 0) (co := .stringIter bs 0) (lim := 0) rfl ⟨rfl, bs, rfl, rfl⟩
    refine ⟨_, _, _, .pointer (some ⟨w.heap.size, 0, none⟩), _, rfl, ?_, hle1, .ptr (Pm.put_self _ _ _), hR1⟩
    unfold Instr.range
    simp only [Sem.run_bind, run_underlying' hd, Result.andThen_ok, Sem.run_pure, run_newObj]
  · rename_i hd
    cases hb
    generalize hcx : cx = cv at hx
    cases hx
    obtain ⟨hR1, hle1⟩ := hR.push (o := .mit none 0 [] 0) (co := .mapIter none 0 #[] 0) (lim := 0) rfl ⟨rfl, rfl⟩
    refine ⟨_, _, _, .pointer (some ⟨w.heap.size, 0, none⟩), _, rfl, ?_, hle1, .ptr (Pm.put_self _ _ _), hR1⟩
    unfold Instr.range
    simp only [Sem.run_bind, run_underlying' hd, Result.andThen_ok, Sem.run_pure, run_newObj]
  · rename_i m hd
    generalize hcx : cx = cv at hx
    cases hx with
    | map hp =>
    rename_i p
    split at hb
    · rename_i es bs ck hg
      cases hb
      obtain ⟨q, ces, hq, hh, -, -, -⟩ := hR.map hg
      rw [hp] at hq; cases hq
      obtain ⟨hR1, hle1⟩ := hR.push (o := .mit (some m) ck [] ck) (co := .mapIter (some p.b) ck #[] ck) (lim := 0) rfl ⟨rfl, p, Pm.le_put (hR.fresh _ (Nat.le_refl _)) _ _ hp, rfl⟩
      refine ⟨_, _, _, .pointer (some ⟨w.heap.size, 0, none⟩), _, rfl, ?_, hle1, .ptr (Pm.put_self _ _ _), hR1⟩
      unfold Instr.range
      simp only [Sem.run_bind, run_underlying' hd, run_getObj' hh (fun _ _ _ hc => by cases hc), Result.andThen_ok, Sem.run_pure, run_newObj]
    · cases hb
  · cases hb
theorem leftA_sound {ρ : Pm} (seen : List Nat) : ∀ {es : List (AV × AV)} {l : List MapEntry}, MR ρ es l → MR ρ ((leftA es (l.map (·.born)) seen).map (·.1)) (l.filter fun e => !seen.contains e.born) ∧ (leftA es (l.map (·.born)) seen).map (·.2) = (l.filter fun e => !seen.contains e.born).map (·.born)
  | [], [], _ => ⟨trivial, rfl⟩
  | (_, _) :: es, e :: l, ⟨h1, h2, h3⟩ => by
    obtain ⟨h4, h5⟩ := leftA_sound seen h3
    rw [List.map_cons, leftA, List.filter_cons]
    cases seen.contains e.born with
    | true => exact ⟨h4, h5⟩
    | false => exact ⟨⟨h1, h2, h4⟩, by simp only [cond_false, Bool.not_false, if_true, List.map_cons, h5]⟩
  | [], _ :: _, h => h.elim
theorem evNextMap_sound (hR : Rel K ρ h w) {ty : TypeId} {x : AV} {cx : Value} {r : ORes} (hx : VR ρ x cx) (hb : evNextMap h x = some r) :
    ∃ a h' ρ' cv w', r = .val a h' ∧ (Instr.next cx false ty).run P w = .ok cv w' ∧ Ext h.nx ρ h'.nx ρ' ∧ VR ρ' a cv ∧ Rel K ρ' h' w' := by
  unfold evNextMap at hb
  split at hb
  · rename_i id
    split at hb
    · rename_i since seen last hg
      generalize hcx : cx = cv at hx
      cases hx with
      | ptr hp =>
      rename_i p
      obtain ⟨q, hq, ⟨hq0, hbs⟩, -⟩ := hR.obj id _ hg
      rw [hp] at hq
      cases hq
      cases hb
      refine ⟨_, _, ρ, .tuple #[.bool false], w, rfl, ?_, Ext.refl _ _, .tup (.cons (.bool _) .nil), hR⟩
      unfold Instr.next
      simp only [hq0, Nat.add_zero, Sem.run_bind, run_getObj' hbs (fun _ _ _ hc => by cases hc), Result.andThen_ok, Sem.run_pure]
    · rename_i m since seen last hg
      generalize hcx : cx = cv at hx
      cases hx with
      | ptr hp =>
      rename_i p
      obtain ⟨q, hq, ⟨hq0, qm, hqm, hbs⟩, -⟩ := hR.obj id _ hg
      rw [hp] at hq
      cases hq
      split at hb
      · rename_i es bs ck hgm
        obtain ⟨qm', ces, hq', hh, hmr, rfl, hst⟩ := hR.map hgm
        rw [hqm] at hq'; cases hq'
        split at hb
        · cases hb
        · rename_i hno
          have hno' : (!seen.toArray.isEmpty && !ces.isEmpty && ces.all fun x => decide (x.born ≥ last)) = false := by
            rw [Bool.not_eq_true] at hno
            rw [← hno]
            simp [List.all_map, Function.comp_def, ← Array.all_toList]
          obtain ⟨hl1, hl2⟩ := leftA_sound (ρ := ρ) seen hmr
          have hleft : ces.filter (fun e => !seen.toArray.contains e.born) = (ces.toList.filter fun e => !seen.contains e.born).toArray := by
            apply Array.toList_inj.1
            simp
          unfold Instr.next
          simp only [hq0, Nat.add_zero, Sem.run_bind, run_getObj' hbs (fun _ _ _ hc => by cases hc), run_getObj' hh (fun _ _ _ hc => by cases hc), Result.andThen_ok, hno', Bool.false_eq_true, if_false, hleft]
          split at hb
          · rename_i hn
            rw [hn] at hl1
            have hf : (ces.toList.filter fun e => !seen.contains e.born) = [] := by
              generalize (ces.toList.filter fun e => !seen.contains e.born) = z at hl1
              cases z with
              | nil => rfl
              | cons => exact hl1.elim
            cases hb
            refine ⟨_, _, ρ, .tuple #[.bool false], w, rfl, ?_, Ext.refl _ _, .tup (.cons (.bool _) .nil), hR⟩
            rw [hf]
            simp [choose, Sem.run, Question.forced, Sem.run_pure]
          · rename_i k v b hn
            rw [hn] at hl1 hl2
            split at hb
            · rename_i hlt
              cases hb
              generalize (ces.toList.filter fun e => !seen.contains e.born) = z at hl1 hl2
              match z, hl1, hl2 with
              | [e], hl1, hl2 =>
                simp only [List.map_cons, List.map_nil, List.cons.injEq, and_true] at hl2
                subst hl2
                have hR2 := hR.setObj (o' := .mit (some m) since (seen ++ [e.born]) ck) (co' := .mapIter (some qm.b) since (seen.toArray.push e.born) ck) hg hp rfl rfl ⟨hq0, qm, hqm, by simp⟩
                refine ⟨_, _, ρ, .tuple #[.bool true, e.key, e.val], _, rfl, ?_, Ext.refl _ _, .tup (.cons (.bool _) (.cons hl1.1 (.cons hl1.2.1 .nil))), hR2⟩
                have hnlt : ¬ since ≤ e.born := by omega
                simp [choose, Sem.run, Question.forced, Sem.run_pure, hlt, hnlt, setObj, hbs, Result.andThen]
              | [], hl1, _ => exact hl1.elim
              | _ :: _ :: _, hl1, _ => exact hl1.2.2.elim
            · cases hb
          · cases hb
      · cases hb
    · cases hb
  · cases hb
theorem bornAt_sound {ρ : Pm} (b : Nat) : ∀ {es : List (AV × AV)} {l : List MapEntry} {v : AV}, MR ρ es l → bornAt es (l.map (·.born)) b = some v → ∃ e, l.find? (fun e => e.born == b) = some e ∧ VR ρ v (.tuple #[e.key, e.val])
  | [], [], v, _, h => by cases h
  | (k, x) :: es, e :: l, v, ⟨h1, h2, h3⟩, h => by
    rw [List.map_cons, bornAt] at h
    rw [List.find?_cons]
    by_cases hb : e.born = b
    · rw [if_pos hb] at h
      cases h
      have : (e.born == b) = true := by simpa using hb
      rw [this]
      exact ⟨e, rfl, .tup (.cons h1 (.cons h2 .nil))⟩
    · rw [if_neg hb] at h
      have : (e.born == b) = false := by simpa using hb
      rw [this]
      exact bornAt_sound b h3 h
  | [], _ :: _, _, h, _ => h.elim
theorem evEntry_sound (hR : Rel K ρ h w) {x v : AV} {cx : Value} (hx : VR ρ x cx) (hb : evEntry h x = some v) :
    ∃ cv, (Instr.entry cx).run P w = .ok cv w ∧ VR ρ v cv := by
  unfold evEntry at hb
  split at hb
  · rename_i id
    split at hb
    · rename_i m since seen last hg
      generalize hcx : cx = cv at hx
      cases hx with
      | ptr hp =>
      rename_i p
      obtain ⟨q, hq, ⟨hq0, qm, hqm, hbs⟩, -⟩ := hR.obj id _ hg
      rw [hp] at hq
      cases hq
      split at hb
      · rename_i b es bs ck hl hgm
        obtain ⟨qm', ces, hq', hh, hmr, rfl, hst⟩ := hR.map hgm
        rw [hqm] at hq'; cases hq'
        split at hb
        · rename_i hck
          subst hck
          obtain ⟨e, he, hv⟩ := bornAt_sound b hmr hb
          refine ⟨_, ?_, hv⟩
          have hback : seen.toArray.back? = some b := by simpa using hl
          have hfind : ces.find? (fun e => e.born == b) = some e := by rw [← Array.find?_toList]; exact he
          unfold Instr.entry
          simp only [hq0, Nat.add_zero, Sem.run_bind, run_getObj' hbs (fun _ _ _ hc => by cases hc), hback, run_getObj' hh (fun _ _ _ hc => by cases hc), Result.andThen_ok, bne_self_eq_false, Bool.false_eq_true, if_false, hfind, Sem.run_pure]
        · cases hb
      · cases hb
    · cases hb
  · cases hb
theorem evNext_sound (hR : Rel K ρ h w) {ty : TypeId} {x : AV} {cx : Value} {r : ORes} (hx : VR ρ x cx) (hb : evNext h x = some r) :
    ∃ a h' ρ' cv w', r = .val a h' ∧ (Instr.next cx true ty).run P w = .ok cv w' ∧ Ext h.nx ρ h'.nx ρ' ∧ VR ρ' a cv ∧ Rel K ρ' h' w' := by
  unfold evNext at hb
  split at hb
  · rename_i id
    split at hb
    · rename_i s pos hg
      generalize hcx : cx = cv at hx
      cases hx with
      | ptr hp =>
      rename_i p
      obtain ⟨q, hq, ⟨hq0, bs, hbs, hbb⟩, -⟩ := hR.obj id _ hg
      rw [hp] at hq
      cases hq
      have hget : (bytesOf bs)[pos]? = (bs.data[pos]?).map UInt8.toNat := bytesOf_get
      have hsz : bs.size = bs.data.size := rfl
      split at hb
      · rename_i hn
        cases hb
        rw [← hbb, hget, Option.map_eq_none_iff] at hn
        have hns : ¬ pos < bs.size := by
          have := Array.getElem?_eq_none_iff.1 hn
          omega
        refine ⟨_, _, ρ, .tuple #[.bool false], w, rfl, ?_, Ext.refl _ _, .tup (.cons (.bool _) .nil), hR⟩
        unfold Instr.next
        simp only [hq0, Nat.add_zero, Sem.run_bind, run_getObj' hbs (fun _ _ _ hc => by cases hc), Result.andThen_ok, if_neg hns, Sem.run_pure]
      · rename_i c hn
        split at hb
        · rename_i hc
          cases hb
          rw [← hbb, hget, Option.map_eq_some_iff] at hn
          obtain ⟨u, hu, rfl⟩ := hn
          obtain ⟨hlt, hu2⟩ := Array.getElem?_eq_some_iff.1 hu
          have hlt' : pos < bs.size := hlt
          have he : (bs[pos]'hlt') = u := hu2
          have hR2 := hR.setObj (o' := .sit s (pos + 1)) (co' := .stringIter bs (pos + 1)) hg hp rfl rfl ⟨hq0, bs, rfl, hbb⟩
          refine ⟨_, _, ρ, .tuple #[.bool true, .int .i64 pos, .int .i32 u.toNat], _, rfl, ?_, Ext.refl _ _, .tup (.cons (.bool _) (.cons (.int _ _) (.cons (.int _ _) .nil))), hR2⟩
          unfold Instr.next
          simp only [hq0, Nat.add_zero, Sem.run_bind, run_getObj' hbs (fun _ _ _ hc => by cases hc), Result.andThen_ok, if_pos hlt', decode_ascii bs pos hlt' (by rw [he]; exact hc), he, setObj, Sem.run, Sem.run_pure, goInt, hbs, Result.andThen]
        · cases hb
    · cases hb
  · cases hb

theorem evOper_sound (hR : Rel K ρ h w) {E : Operand → AV} {ce : Operand → Value} (hE : ∀ x, VR ρ (E x) (ce x)) {o : Oper} {r : ORes} (hb : evOper P E o h = some r) :
    OpPost P K h ρ w ((execOp ce o).run P w) r := by
  obtain ⟨dst, op, ty, pos, after, guard⟩ := o
  unfold evOper at hb
  unfold execOp
  cases op <;> simp only at hb ⊢ <;> (first | (simp at hb; done) | skip)
  case move x =>
    simp only [Option.some.injEq] at hb; subst hb
    exact ⟨ρ, _, w, rfl, Ext.refl _ _, hE _, hR⟩
  case assign x =>
    simp only [Option.some.injEq] at hb; subst hb
    exact ⟨ρ, _, w, rfl, Ext.refl _ _, hE _, hR⟩
  case pick c a b =>
    have hc := hE c
    split at hb
    · rename_i t heq
      rw [heq] at hc
      generalize hcc : ce c = cc at hc
      cases hc
      simp only [Option.some.injEq] at hb; subst hb
      refine ⟨ρ, if t then ce a else ce b, w, by simp only [asBool, Sem.run_bind, Sem.run_pure, Result.andThen_ok], Ext.refl _ _, ?_, hR⟩
      cases t
      · exact hE _
      · exact hE _
    · simp at hb
  case alloc e => exact allocated_sound hR (allocA_sound (ty := ty) (dst := dst) (pos := pos) (after := after) (guard := guard) hE) hb
  case box e x => exact allocated_sound hR (allocA_sound (ty := ty) (dst := dst) (pos := pos) (after := after) (guard := guard) hE) hb
  case build t parts =>
    obtain ⟨p1, p2⟩ := parts_ok hE parts
    exact opPost_pure hR hb fun v hv => evBuild_sound p1 p2 hv
  case buildSlice t len parts => exact allocated_sound hR (allocA_sound (ty := ty) (dst := dst) (pos := pos) (after := after) (guard := guard) hE) hb
  case insert t m k v =>
    obtain ⟨h', w', rfl, r1, r2⟩ := evMapUpdate_sound hR (hE m) (hE k) (hE v) hb
    exact ⟨w', by simp only [Sem.run_bind, r1, Result.andThen_ok, Sem.run_pure], r2⟩
  case load t a =>
    exact opPost_pure hR hb fun v hv => evLoad_sound hR (hE a) hv
  case store t a x =>
    cases hs : evStore P h t (E a) (E x) with
    | none => simp [hs] at hb
    | some h' =>
      simp only [hs, Option.map_some, Option.some.injEq] at hb; subst hb
      obtain ⟨w', r1, r2⟩ := evStore_sound hR (hE a) (hE x) hs
      exact ⟨w', by simp only [Sem.run_bind, r1, Result.andThen_ok, Sem.run_pure], r2⟩
  case nilCheck x =>
    have hx := hE x
    split at hb
    · rename_i i o heq
      rw [heq] at hx
      generalize hcx : ce x = cx at hx
      simp only [Option.some.injEq] at hb; subst hb
      have hx' := hx
      cases hx
      exact ⟨ρ, _, w, rfl, Ext.refl _ _, hx', hR⟩
    · rename_i fn f c heq
      rw [heq] at hx
      generalize hcx : ce x = cx at hx
      split at hb
      · simp at hb
      · rename_i hnm
        simp only [Option.some.injEq] at hb; subst hb
        have hx' := hx
        cases hx
        refine ⟨ρ, _, w, ?_, Ext.refl _ _, hx', hR⟩
        cases fn <;> first | rfl | exact (hnm _ rfl).elim
    · rename_i i heq
      rw [heq] at hx
      generalize hcx : ce x = cx at hx
      simp only [Option.some.injEq] at hb; subst hb
      have hx' := hx
      cases hx
      exact ⟨ρ, _, w, rfl, Ext.refl _ _, hx', hR⟩
    · simp at hb
  case binOp op t x y _ =>
    exact opPost_pure hR hb fun v hv => binA_sound hR (hE x) (hE y) hv
  case unOp op _ x =>
    exact opPost_pure hR hb fun v hv => unA_sound (hE x) hv
  case convert src dst x =>
    exact evConvert_sound hR (hE x) hb
  case makeInterface t x =>
    split at hb
    · simp at hb
    · rename_i d hni hd
      simp only [Option.some.injEq] at hb; subst hb
      refine opPost_val ⟨ρ, .iface t (ce x), w, ?_, Ext.refl _ _, .iface (hE x), hR⟩
      unfold Instr.makeInterface
      rw [Sem.run_bind, run_underlying' hd]
      cases d <;> first | rfl | exact (hni _ rfl).elim
    · simp at hb
  case makeFunc fn first captured =>
    split at hb
    · rename_i hp
      simp only [Option.some.injEq] at hb; subst hb
      refine opPost_val ⟨ρ, .func fn (first.map ce) (captured.map ce), w, rfl, Ext.refl _ _, .func hp ?_ ?_, hR⟩
      · rw [Array.toList_map]; exact VRs.of_map hE _
      · rw [Array.toList_map]; exact VRs.of_map hE _
    · simp at hb
  case makeMap t r => exact allocated_sound hR (allocA_sound (ty := ty) (dst := dst) (pos := pos) (after := after) (guard := guard) hE) hb
  case makeSlice t l c => exact allocated_sound hR (allocA_sound (ty := ty) (dst := dst) (pos := pos) (after := after) (guard := guard) hE) hb
  case slice t x lo hi mx =>
    exact opPost_pure hR hb fun v hv => evSlice_sound hR (hE x) (OVR.of_map hE lo) (OVR.of_map hE hi) (OVR.of_map hE mx) hv
  case fieldAddr t x f =>
    have hx := hE x
    split at hb
    · rename_i fs id off hd heq
      rw [heq] at hx
      generalize hcx : ce x = cx at hx
      cases hx with
      | ptr hp =>
      rename_i p
      split at hb
      · rename_i fd hf
        split at hb
        · rename_i n hs
          simp only [Option.some.injEq] at hb; subst hb
          refine opPost_val ⟨ρ, .pointer (some ⟨p.b, p.o + off + fd.offset, none⟩), w, ?_, Ext.refl _ _, by rw [Nat.add_assoc]; exact .ptr hp, hR⟩
          unfold Instr.fieldAt
          simp only [Sem.run_bind, run_underlying' hd, Result.andThen_ok, hf, Instr.sureAddr, Sem.run_pure, fieldPlace, run_sizeOf' hs, Nat.succ_eq_add_one, Nat.add_eq_zero_iff, Nat.one_ne_zero, and_false, if_false, addr_add, Sem.run_pure]
        · simp at hb
      · simp at hb
    · simp at hb
  case field t x f =>
    have hx := hE x
    split at hb
    · rename_i fs cs hd heq
      rw [heq] at hx
      generalize hcx : ce x = cx at hx
      cases hx with
      | agg hcs =>
      split at hb
      · rename_i fd hf
        refine opPost_pure hR hb fun v hv => ?_
        obtain ⟨cv, r1, r2⟩ := partA_sound (P := P) (w := w) hcs hv
        refine ⟨cv, ?_, r2⟩
        unfold Instr.field
        simp only [Sem.run_bind, run_underlying' hd, Result.andThen_ok, hf, asAgg, Sem.run_pure, r1]
      · simp at hb
    · simp at hb
  case indexAddr t x i =>
    exact opPost_pure hR hb fun v hv => evIndexAddr_sound (hE x) (hE i) hv
  case index t x i =>
    exact opPost_pure hR hb fun v hv => evIndex_sound (hE x) (hE i) hv
  case lookup t x i ok =>
    exact opPost_pure hR hb fun v hv => evLookup_sound hR (hE x) (hE i) hv
  case mapUpdate t m k v =>
    obtain ⟨h', w', rfl, r1, r2⟩ := evMapUpdate_sound hR (hE m) (hE k) (hE v) hb
    exact ⟨w', by simp only [Sem.run_bind, r1, Result.andThen_ok, Sem.run_pure], r2⟩
  case typeAssert x xt asserted ok =>
    have hx := hE x
    split at hb
    · simp at hb
    · rename_i d t v hni hd heq
      rw [heq] at hx
      generalize hcx : ce x = cx at hx
      cases hx with
      | iface hv =>
      rename_i cv
      split at hb
      · rename_i ht
        subst ht
        simp only [Option.some.injEq] at hb; subst hb
        refine opPost_val ⟨ρ, if ok then .tuple #[cv, .bool true] else cv, w, ?_, Ext.refl _ _, ?_, hR⟩
        · unfold Instr.typeAssert
          rw [Sem.run_bind, run_underlying' hd]
          cases d <;> first | (simp only [Result.andThen_ok, if_true, Sem.run_pure]; done) | exact (hni _ rfl).elim
        · cases ok
          · exact hv
          · exact .tup (.cons hv (.cons (.bool _) .nil))
      · simp at hb
    · simp at hb
  case extract x i =>
    have hx := hE x
    split at hb
    · rename_i l heq
      rw [heq] at hx
      generalize hcx : ce x = cx at hx
      cases hx with
      | tup hl =>
      refine opPost_pure hR hb fun v hv => ?_
      obtain ⟨u, hu, rr⟩ := hl.get hv
      refine ⟨u, ?_, rr⟩
      rename_i ccs
      have : ccs[i]? = some u := by rw [← Array.getElem?_toList]; exact hu
      simp only [Instr.extract, this, Sem.run_pure]
    · simp at hb
  case call c =>
    exact evCall_sound hR hE hb
  case range t x => exact opPost_res (evRange_sound hR (hE x) hb)
  case next it b =>
    cases b with
    | true => exact opPost_res (evNext_sound hR (hE it) hb)
    | false => exact opPost_res (evNextMap_sound hR (hE it) hb)
  case entry it => exact opPost_pure hR hb fun v hv => evEntry_sound hR (hE it) hv
  case sliceToArrayPointer dst x =>
    have hx := hE x
    generalize hcx : ce x = cx at hx
    split at hb
    · rename_i n e id off len sz c hd heq
      rw [heq] at hx
      split at hb
      · rename_i hn
        cases hx with
        | sl hp hlc ha hxx hc =>
        rename_i p ad cap
        have hcap : ¬ cap = 0 := by omega
        have ha' : ad = ⟨p.b, p.o + off, none⟩ := ha.resolve_left hcap
        subst ha'
        cases hb
        refine opPost_pure (v? := some (.ptr id off)) hR rfl fun v hv => ?_
        cases hv
        refine ⟨.pointer (some ⟨p.b, p.o + off, none⟩), ?_, .ptr hp⟩
        have hlt : ¬ len < n := by omega
        simp only [Instr.arrayAt, Sem.run_bind, run_underlying' hd, Result.andThen_ok, if_neg hlt, Sem.run_pure]
      · cases hb
    · cases hb

end
end Go.Abs
end
