/- The abstract layer, part 8: indexes, new slices, append, copy. -/
import Derived.Test.YticccdaomgildaaGreatDoorAbs7
namespace Go.Abs
open Go
set_option linter.unusedVariables false
set_option linter.unusedSimpArgs false

section
variable {P : Program} {ρ : Pm} {w : World} {K : Kp} {h : AH}

theorem evIndexAddr_sound {t : TypeId} {x i a : AV} {cx ci : Value} (hx : VR ρ x cx) (hi : VR ρ i ci) (hb : evIndexAddr P t x i = some a) :
    ∃ cv, (Instr.indexAt t cx ci).run P w = .ok cv w ∧ VR ρ a cv := by
  unfold evIndexAddr at hb
  split at hb
  · rename_i n e id off k i hd
    cases hx with
    | ptr hp =>
    cases hi
    rename_i p
    cases hs : tsize P e with
    | none => simp [hs] at hb
    | some sz =>
      cases hk : below i n with
      | none => simp [hs, hk] at hb
      | some j =>
        simp only [hs, hk, Option.bind_eq_bind, Option.bind_some, Option.some.injEq] at hb
        subst hb
        obtain ⟨rfl, hj⟩ := below_sound hk
        refine ⟨.pointer (some ((⟨p.b, p.o + off, none⟩ : Addr).add (j * sz))), ?_, by rw [addr_add, Nat.add_assoc]; exact .ptr hp⟩
        have h1 : (0 : Int) ≤ (j : Int) ∧ (j : Int) < (n : Int) := by omega
        simp [Instr.indexAt, asIntOf, Instr.sureAddr, run_underlying' hd, h1, run_sizeOf' hs]
        intro hx; omega
  · rename_i e id off len sz c k i hd
    cases hx with
    | sl hp hl ha hxx hc =>
    cases hi
    rename_i p ad cap
    cases hs : tsize P e with
    | none => simp [hs] at hb
    | some n =>
      cases hk : below i len with
      | none => simp [hs, hk] at hb
      | some j =>
        simp only [hs, hk, Option.bind_eq_bind, Option.bind_some] at hb
        split at hb
        · rename_i hn
          subst hn
          simp only [Option.some.injEq] at hb
          subst hb
          obtain ⟨rfl, hj⟩ := below_sound hk
          rcases ha with h0 | rfl
          · omega
          · refine ⟨.pointer (some ((⟨p.b, p.o + off, none⟩ : Addr).add (j * n))), ?_, by rw [addr_add, Nat.add_assoc]; exact .ptr hp⟩
            have h1 : (0 : Int) ≤ (j : Int) ∧ (j : Int) < (len : Int) := by omega
            simp [Instr.indexAt, asIntOf, Instr.sureAddr, run_underlying' hd, h1, run_sizeOf' hs]
            intro hx; omega
        · simp at hb
  · simp at hb

theorem evIndex_sound {t : TypeId} {x i a : AV} {cx ci : Value} (hx : VR ρ x cx) (hi : VR ρ i ci) (hb : evIndex P t x i = some a) :
    ∃ cv, (Instr.index t cx ci).run P w = .ok cv w ∧ VR ρ a cv := by
  unfold evIndex at hb
  split at hb
  · rename_i n e cs k i hd
    cases hx with
    | agg hcs =>
    cases hi
    cases hs : tsize P e with
    | none => simp [hs] at hb
    | some sz =>
      cases hk : below i n with
      | none => simp [hs, hk] at hb
      | some j =>
        simp only [hs, hk, Option.bind_eq_bind, Option.bind_some] at hb
        obtain ⟨rfl, hj⟩ := below_sound hk
        obtain ⟨cv, hr, hv⟩ := partA_sound (P := P) (w := w) hcs hb
        refine ⟨cv, ?_, hv⟩
        have h1 : (0 : Int) ≤ (j : Int) ∧ (j : Int) < (n : Int) := by omega
        simp [Instr.index, asIntOf, run_underlying' hd, h1, run_sizeOf' hs, hr]
        intro hx; omega
  · rename_i s k i hd
    cases hx
    cases hi
    rename_i bs
    cases hk : below i (bytesOf bs).length with
    | none => simp [hk] at hb
    | some j =>
      obtain ⟨rfl, hj⟩ := below_sound hk
      rw [bytesOf_length] at hj
      have hj' : j < bs.data.toList.length := by simpa using hj
      have hbj : (bytesOf bs)[j]? = some (bs[j]).toNat := by
        unfold bytesOf
        rw [List.getElem?_map, List.getElem?_eq_getElem hj']
        rfl
      simp only [hk, hbj, Option.bind_eq_bind, Option.bind_some, Option.some.injEq] at hb
      subst hb
      refine ⟨.int .u8 (bs[j]).toNat, ?_, .int _ _⟩
      have h1 : (0 : Int) ≤ (j : Int) := by omega
      have h2 : bs[j]? = some bs[j] := by simp [hj]
      simp [Instr.index, asIntOf, run_underlying' hd, h1, h2]
  · simp at hb

theorem msA_sound {t : TypeId} {l c : AV} {cl cc : Value} {ob : AO} {mk : Nat → AV} (hl : VR ρ l cl) (hc : VR ρ c cc) (hb : msA P t l c = some (ob, mk)) :
    AllocOk P ρ (Instr.makeSlice t cl cc) ob mk := by
  unfold msA at hb
  split at hb
  · rename_i e k l k' c hd
    cases hl
    cases hc
    cases hi : P.info? e with
    | none => simp [hi] at hb
    | some i =>
      cases hz : i.zero with
      | none => simp [hi, hz] at hb
      | some z =>
        cases hzc : cellsA (toAV z) with
        | none => simp [hi, hz, hzc] at hb
        | some zc =>
          simp only [hi, hz, hzc, Option.bind_eq_bind, Option.bind_some] at hb
          split at hb
          · rename_i hcond
            simp only [Bool.and_eq_true, decide_eq_true_eq] at hcond
            obtain ⟨⟨⟨hlc, hby⟩, hcs⟩, hzs⟩ := hcond
            simp only [Option.some.injEq, Prod.mk.injEq] at hb
            obtain ⟨rfl, rfl⟩ := hb
            have hzr := zero_cells (ρ := ρ) hzc
            have hzn : z.cells.size = i.size := by rw [← hzs, hzr.length]; simp
            have hw1 : IntKind.i64.wrap (Int.ofNat l) = (l : Int) := by
              simp only [IntKind.wrap, IntKind.bits, IntKind.signed]
              have : ((l : Int) % 2 ^ 64) = l := Int.emod_eq_of_lt (by omega) (by omega)
              simp [this]; omega
            have hw2 : IntKind.i64.wrap (Int.ofNat c) = (c : Int) := by
              simp only [IntKind.wrap, IntKind.bits, IntKind.signed]
              have : ((c : Int) % 2 ^ 64) = c := Int.emod_eq_of_lt (by omega) (by omega)
              simp [this]; omega
            have htz : tzero P e = some z := by simp [tzero, hi, hz]
            have hts : tsize P e = some i.size := by simp [tsize, hi]
            have hbyI : ((i.bytes : Int) * (c : Int)) ≤ 2 ^ 40 := by
              have : ((i.bytes * c : Nat) : Int) ≤ ((2 ^ 40 : Nat) : Int) := by exact_mod_cast hby
              simpa using this
            have hrow : ∃ zs : Array Value, ((c * i.size = 0 ∧ zs = #[]) ∨ (c * i.size ≠ 0 ∧ zs = z.cells)) ∧ VRs ρ (repCells zc c) ((Array.range (c * i.size)).map (zs[· % zs.size]!)).toList := by
              by_cases h0 : c * i.size = 0
              · refine ⟨#[], .inl ⟨h0, rfl⟩, ?_⟩
                rw [h0]
                have : repCells zc c = [] := List.length_eq_zero_iff.1 (by rw [repCells_length, hzs]; exact h0)
                rw [this]; simp; exact .nil
              · refine ⟨z.cells, .inr ⟨h0, rfl⟩, ?_⟩
                have := hzr.rep c
                rw [hzn] at this
                rw [hzn]
                exact this
            obtain ⟨zs, hzs', hrow⟩ := hrow
            refine ⟨rfl, fun w => ⟨.cells ((Array.range (c * i.size)).map (zs[· % zs.size]!)) e (0, 0), ((Array.range (c * i.size)).map (zs[· % zs.size]!)).size, .slice (some ⟨w.heap.size, 0, none⟩) l c, ?_, fun ρ' id hle' hid => ⟨newOR hle' hrow.toCells (by rw [repCells_length, hzs]; simp) (fun ht => by
              simp only [Array.size_map, Array.size_range]
              rcases Nat.eq_zero_or_pos (c * i.size) with h0 | h0
              · rw [h0] at ht; simp at ht
              · exact h0), .sl hid hlc (.inr rfl) (.inr (by simp)) (fun n hn => by cases hn; rfl)⟩⟩⟩
            unfold Instr.makeSlice
            simp only [Sem.run_bind, run_underlying' hd, Result.andThen_ok, asInt, asIntOf, Sem.run_pure, run_typeInfo' hi, hw1, hw2]
            have c4 : decide ((i.bytes : Int) * (c : Int) > 2 ^ 48) = false := by simp only [decide_eq_false_iff_not]; omega
            have c5 : decide ((c : Int) < 0) = false := by simp only [decide_eq_false_iff_not]; omega
            have c6 : decide ((l : Int) < 0) = false := by simp only [decide_eq_false_iff_not]; omega
            have c7 : decide ((l : Int) > (c : Int)) = false := by simp only [decide_eq_false_iff_not]; omega
            simp only [c4, c5, c6, c7, Bool.or_self, Bool.false_eq_true, if_false, Sem.run_bind, run_askRoom, Result.andThen_ok, run_sizeOf' hts, Int.toNat_natCast]
            rcases hzs' with ⟨h0, rfl⟩ | ⟨h0, rfl⟩
            · rw [Sem.run_ite, if_pos h0]
              simp [newRow]
            · rw [Sem.run_ite, if_neg h0]
              simp only [Sem.run_bind, run_zeroValue' htz, Result.andThen_ok, Sem.run_pure]
              simp [newRow]
          · simp at hb
  · simp at hb

/-! ### What a slice or a string holds -/
theorem u8_map (s : ByteArray) (n : Nat) : VRs ρ (((bytesOf s).take n).map fun (b : Nat) => AV.int .u8 b) ((s.extract 0 n).data.map fun b => Value.int .u8 b.toNat).toList := by
  refine VRs.of_get ?_ fun i a v h1 h2 => ?_
  · simp [bytesOf_length]
  · have e : (s.extract 0 n).data.toList = s.data.toList.take n := by rw [Lib.extract_data]; simp
    rw [Array.toList_map, e] at h2
    simp only [List.getElem?_map, bytesOf, List.getElem?_take] at h1 h2
    by_cases hi : i < n
    · simp only [hi, if_true] at h1 h2
      cases hc : s.data.toList[i]? with
      | none => simp [hc] at h1
      | some b =>
        simp only [hc, Option.map_some, Option.some.injEq] at h1 h2
        subst h1; subst h2
        exact .int _ _
    · simp [hi] at h1

theorem lenA_sound {x : AV} {cx : Value} {n : Nat} (hx : VR ρ x cx) (hl : lenA x = some n) : (Builtin.lenOf cx).run P w = .ok n w := by
  cases hx <;> simp only [lenA, Option.some.injEq, reduceCtorEq] at hl <;> subst hl <;> simp [Builtin.lenOf, bytesOf_length]

theorem firstA_sound (hR : Rel K ρ h w) {x : AV} {cx : Value} {size n : Nat} {l : List AV} (hx : VR ρ x cx) (hf : firstA h size n x = some l) :
    ∃ vs, (Builtin.firstCells size n cx).run P w = .ok vs w ∧ VRs ρ l vs.toList := by
  unfold firstA at hf
  split at hf
  · cases hx
    split at hf
    · simp only [Option.some.injEq] at hf; subst hf; exact ⟨#[], by simp [Builtin.firstCells], .nil⟩
    · simp at hf
  · rename_i id off len sz c
    cases hx with
    | sl hp hlc ha hxx hc =>
    rename_i p ad cap
    split at hf
    · rename_i hcond
      simp only [Bool.and_eq_true, decide_eq_true_eq] at hcond
      obtain ⟨rfl, hn⟩ := hcond
      unfold cellsAt at hf
      split at hf
      · rename_i cs own text hg
        split at hf
        · rename_i hle
          simp only [Option.some.injEq] at hf
          subst hf
          rcases ha with h0 | rfl
          · have : n = 0 := by omega
            subst this
            refine ⟨#[], ?_, by simp; exact .nil⟩
            simp [Builtin.firstCells, loadCells, loadCellsFrom]
          · obtain ⟨vs, hvs, hr⟩ := hR.loadCells (P := P) hg hp hle
            exact ⟨vs, by simp [Builtin.firstCells, hvs], hr⟩
        · simp at hf
      · simp at hf
    · simp at hf
  · rename_i s
    cases hx
    rename_i bs
    split at hf
    · simp only [Option.some.injEq] at hf
      subst hf
      exact ⟨_, by simp only [Builtin.firstCells, Sem.run_pure], u8_map bs n⟩
    · simp at hf
  · simp at hf

end
end Go.Abs
