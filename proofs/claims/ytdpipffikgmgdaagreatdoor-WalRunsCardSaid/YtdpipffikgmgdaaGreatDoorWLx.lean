/- Arguments of a law: slices of texts. Conditions: none. -/
import Derived.Test.YtdpipffikgmgdaaGreatDoorTLb
import Derived.Test.YtdpipffikgmgdaaGreatDoorAb7
namespace Go.Proofs.YtdpipffikgmgdaaGreatDoor.tre
open Go Go.Abs Go.Proofs Go.ChangeShapes Go.RowKit
set_option linter.unusedVariables false
set_option linter.unusedSimpArgs false

theorem bytesOf_lt (s : ByteArray) : ∀ b ∈ bytesOf s, b < 256 := by
  intro b hb
  unfold bytesOf at hb
  obtain ⟨x, _, rfl⟩ := List.mem_map.1 hb
  exact x.toNat_lt
theorem Sl1.tx {h : AH} {x : AV} {cs : List AV} {e : TypeId} (hx : Sl1 h x cs) (he : ∀ (i : Nat) (c : AV), cs[i]? = some c → Ty Tryz.prog h e [c]) (hu : Tryz.prog.underlying e = some .string) :
    ∃ l : List (List Nat), Go.Abs.Cs h x (l.map AV.str) ∧ (∀ s ∈ l, ∀ b ∈ s, b < 256) ∧ l.length = cs.length := by
  have h1 : ∀ c ∈ cs, ∃ s : ByteArray, c = .str (bytesOf s) := by
    intro c hc
    obtain ⟨i, hi⟩ := List.mem_iff_getElem?.1 hc
    obtain ⟨s, hs, _⟩ := (he i c hi).str_inv hu
    exact ⟨s, by cases hs; rfl⟩
  let f : AV → List Nat := fun v => match v with | .str s => s | _ => []
  have h2 : cs = (cs.map f).map AV.str := by
    rw [List.map_map]
    have : cs.map (AV.str ∘ f) = cs.map id := List.map_congr_left fun c hc => by
      obtain ⟨n, rfl⟩ := h1 c hc
      rfl
    rw [this, List.map_id]
  refine ⟨cs.map f, ?_, ?_, by simp⟩
  · rw [← h2]
    rcases hx with ⟨rfl, rfl⟩ | ⟨id, rfl, hg, hid⟩
    · exact .inl ⟨rfl, rfl⟩
    · exact .inr ⟨id, 0, none, cs, false, false, rfl, hg, hid, by omega, fun k hk => (by cases hk), by rw [List.drop_zero, List.take_length]⟩
  · intro s hs
    obtain ⟨c, hc, rfl⟩ := List.mem_map.1 hs
    obtain ⟨n, rfl⟩ := h1 c hc
    exact bytesOf_lt n
theorem cs_le {h h2 : AH} {v : AV} {l : List AV} (hb : Go.Abs.Cs h v l) (hl : ∀ id o, h.get id = some o → h2.get id = some o) (hn : h.nx ≤ h2.nx) : Go.Abs.Cs h2 v l := by
  rcases hb with h1 | ⟨id, off, c, cs, o, t, h1, h3, h4, h5⟩
  · exact .inl h1
  · exact .inr ⟨id, off, c, cs, o, t, h1, hl _ _ h3, Nat.lt_of_lt_of_le h4 hn, h5⟩
section
variable {H : Type} {enc : TypeId × Value → H} {P : Program} {w : World} {base : Nat} {spare : Nat → Bool} {held : Bool}
theorem trodAll_six {t0 t1 t2 t3 t4 t5 : TypeId} {args : Array Value} {ds : List (DataW H)} {ps : List MemPlace} (h : DataW.TrodAll enc P w base spare held [t0, t1, t2, t3, t4, t5] args.toList ds ps) :
    ∃ v0 v1 v2 v3 v4 v5 d0 d1 d2 d3 d4 d5 p0 p1 p2 p3 p4 p5, args = #[v0, v1, v2, v3, v4, v5] ∧ ds = [d0, d1, d2, d3, d4, d5] ∧ ps = p0 ++ (p1 ++ (p2 ++ (p3 ++ (p4 ++ p5)))) ∧ DataW.Trod enc P w base spare held t0 v0 d0 p0 ∧ DataW.Trod enc P w base spare held t1 v1 d1 p1 ∧ DataW.Trod enc P w base spare held t2 v2 d2 p2 ∧ DataW.Trod enc P w base spare held t3 v3 d3 p3 ∧ DataW.Trod enc P w base spare held t4 v4 d4 p4 ∧ DataW.Trod enc P w base spare held t5 v5 d5 p5 := by
  obtain ⟨v0, vs, d0, ds', p0, q, hargs, rfl, rfl, hd0, hr0⟩ := trodAll_cons h
  obtain ⟨v1, vs1, d1, ds1, p1, q1, rfl, rfl, rfl, hd1, hr1⟩ := trodAll_cons hr0
  obtain ⟨v2, vs2, d2, ds2, p2, q2, rfl, rfl, rfl, hd2, hr2⟩ := trodAll_cons hr1
  obtain ⟨v3, vs3, d3, ds3, p3, q3, rfl, rfl, rfl, hd3, hr3⟩ := trodAll_cons hr2
  obtain ⟨v4, vs4, d4, ds4, p4, q4, rfl, rfl, rfl, hd4, hr4⟩ := trodAll_cons hr3
  obtain ⟨v5, vs5, d5, ds5, p5, q5, rfl, rfl, rfl, hd5, hr5⟩ := trodAll_cons hr4
  obtain ⟨rfl, rfl, rfl⟩ := trodAll_nil hr5
  exact ⟨v0, v1, v2, v3, v4, v5, d0, d1, d2, d3, d4, d5, p0, p1, p2, p3, p4, p5, by cases args; simp_all, rfl, by simp, hd0, hd1, hd2, hd3, hd4, hd5⟩
theorem trodAll_mk6 {t0 t1 t2 t3 t4 t5 : TypeId} {v0 v1 v2 v3 v4 v5 : Value} {d0 d1 d2 d3 d4 d5 : DataW H} {p0 p1 p2 p3 p4 p5 : List MemPlace} (h0 : DataW.Trod enc P w base spare held t0 v0 d0 p0) (h1 : DataW.Trod enc P w base spare held t1 v1 d1 p1) (h2 : DataW.Trod enc P w base spare held t2 v2 d2 p2) (h3 : DataW.Trod enc P w base spare held t3 v3 d3 p3) (h4 : DataW.Trod enc P w base spare held t4 v4 d4 p4) (h5 : DataW.Trod enc P w base spare held t5 v5 d5 p5) :
    DataW.TrodAll enc P w base spare held [t0, t1, t2, t3, t4, t5] [v0, v1, v2, v3, v4, v5] [d0, d1, d2, d3, d4, d5] (p0 ++ (p1 ++ (p2 ++ (p3 ++ (p4 ++ p5))))) := ⟨p0, _, h0, trodAll_mk5 h1 h2 h3 h4 h5, rfl⟩
end
end Go.Proofs.YtdpipffikgmgdaaGreatDoor.tre
