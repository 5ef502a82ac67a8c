/- Arguments of a law: five of them, numbers in a slice. Conditions: none. -/
import Derived.Test.YtdpipffikgmgdaaGreatDoorTLa
import Derived.Test.YtdpipffikgmgdaaGreatDoorAb6
import Derived.ChangeShapes
namespace Go.Proofs.YtdpipffikgmgdaaGreatDoor.tre
open Go Go.Abs Go.Proofs Go.ChangeShapes Go.RowKit
set_option linter.unusedVariables false
set_option linter.unusedSimpArgs false

section
variable {H : Type} {enc : TypeId × Value → H} {P : Program} {w : World} {base : Nat} {spare : Nat → Bool} {held : Bool}
theorem trodAll_five {t0 t1 t2 t3 t4 : TypeId} {args : Array Value} {ds : List (DataW H)} {ps : List MemPlace} (h : DataW.TrodAll enc P w base spare held [t0, t1, t2, t3, t4] args.toList ds ps) :
    ∃ v0 v1 v2 v3 v4 d0 d1 d2 d3 d4 p0 p1 p2 p3 p4, args = #[v0, v1, v2, v3, v4] ∧ ds = [d0, d1, d2, d3, d4] ∧ ps = p0 ++ (p1 ++ (p2 ++ (p3 ++ p4))) ∧ DataW.Trod enc P w base spare held t0 v0 d0 p0 ∧ DataW.Trod enc P w base spare held t1 v1 d1 p1 ∧ DataW.Trod enc P w base spare held t2 v2 d2 p2 ∧ DataW.Trod enc P w base spare held t3 v3 d3 p3 ∧ DataW.Trod enc P w base spare held t4 v4 d4 p4 := by
  obtain ⟨v0, vs, d0, ds', p0, q, hargs, rfl, rfl, hd0, hr0⟩ := trodAll_cons h
  obtain ⟨v1, vs1, d1, ds1, p1, q1, rfl, rfl, rfl, hd1, hr1⟩ := trodAll_cons hr0
  obtain ⟨v2, vs2, d2, ds2, p2, q2, rfl, rfl, rfl, hd2, hr2⟩ := trodAll_cons hr1
  obtain ⟨v3, vs3, d3, ds3, p3, q3, rfl, rfl, rfl, hd3, hr3⟩ := trodAll_cons hr2
  obtain ⟨v4, vs4, d4, ds4, p4, q4, rfl, rfl, rfl, hd4, hr4⟩ := trodAll_cons hr3
  obtain ⟨rfl, rfl, rfl⟩ := trodAll_nil hr4
  exact ⟨v0, v1, v2, v3, v4, d0, d1, d2, d3, d4, p0, p1, p2, p3, p4, by cases args; simp_all, rfl, by simp, hd0, hd1, hd2, hd3, hd4⟩
theorem trodAll_mk5 {t0 t1 t2 t3 t4 : TypeId} {v0 v1 v2 v3 v4 : Value} {d0 d1 d2 d3 d4 : DataW H} {p0 p1 p2 p3 p4 : List MemPlace} (h0 : DataW.Trod enc P w base spare held t0 v0 d0 p0) (h1 : DataW.Trod enc P w base spare held t1 v1 d1 p1) (h2 : DataW.Trod enc P w base spare held t2 v2 d2 p2) (h3 : DataW.Trod enc P w base spare held t3 v3 d3 p3) (h4 : DataW.Trod enc P w base spare held t4 v4 d4 p4) :
    DataW.TrodAll enc P w base spare held [t0, t1, t2, t3, t4] [v0, v1, v2, v3, v4] [d0, d1, d2, d3, d4] (p0 ++ (p1 ++ (p2 ++ (p3 ++ p4)))) := ⟨p0, _, h0, ⟨p1, _, h1, trodAll_mk3 h2 h3 h4, rfl⟩, rfl⟩
end
theorem Sl1.iv {h : AH} {x : AV} {cs : List AV} {e : TypeId} (hx : Sl1 h x cs) (he : ∀ (i : Nat) (c : AV), cs[i]? = some c → Ty Tryz.prog h e [c]) (hu : Tryz.prog.underlying e = some (.int .i64)) :
    ∃ l, Iv (fun _ => 0) h x l ∧ l.length = cs.length := by
  have h1 : ∀ c ∈ cs, ∃ n : Int, c = .int .i64 n := by
    intro c hc
    obtain ⟨i, hi⟩ := List.mem_iff_getElem?.1 hc
    obtain ⟨n, hn, h2, h3⟩ := (he i c hi).int_inv hu
    exact ⟨n, by cases hn; rfl⟩
  let f : AV → Int := fun v => match v with | .int _ n => n | _ => 0
  have h2 : cs = (cs.map f).map (AV.int .i64) := by
    rw [List.map_map]
    have : cs.map ((AV.int .i64) ∘ f) = cs.map id := List.map_congr_left fun c hc => by
      obtain ⟨n, rfl⟩ := h1 c hc
      rfl
    rw [this, List.map_id]
  refine ⟨cs.map f, ?_, by simp⟩
  rcases hx with ⟨rfl, rfl⟩ | ⟨id, rfl, hg, hid⟩
  · exact .inl ⟨rfl, rfl⟩
  · refine .inr ⟨id, 0, none, cs, false, false, by simp, hg, hid, rfl, fun k hk => (by cases hk), by simp, ?_⟩
    rw [List.drop_zero, ← h2, List.length_map, List.take_length]
theorem Iv.le {h h2 : AH} {v : AV} {l : List Int} (hb : Iv (fun _ => 0) h v l) (hl : ∀ id o, h.get id = some o → h2.get id = some o) (hn : h.nx ≤ h2.nx) : Iv (fun _ => 0) h2 v l := by
  rcases hb with h1 | ⟨id, off, c, cs, o, t, h1, h3, h4, h5⟩
  · exact .inl h1
  · exact .inr ⟨id, off, c, cs, o, t, h1, hl _ _ h3, Nat.lt_of_lt_of_le h4 hn, h5⟩
end Go.Proofs.YtdpipffikgmgdaaGreatDoor.tre
