/- The digest of bytes of whatever length: the program's function and the document's return the same thirty-two bytes. Conditions: the constants are summaries; none else. -/
import Derived.Test.YtfhcnoancepgcaaGreatDoorDGd
namespace Go.Proofs.YtfhcnoancepgcaaGreatDoor.dig
open Go Go.Abs Go.Proofs
set_option maxRecDepth 100000
set_option linter.unusedVariables false
set_option linter.unusedSimpArgs false

def z32 : List AV := byC (List.replicate 32 0)
theorem zc56w : zeroC Tryz.prog 62 = some z32 := by kernel_rfl
theorem wrow_all (W : Nat → W32) (i : Nat) : (wrow W i).all oneA = true := by
  rw [List.all_eq_true]
  intro c hc
  obtain ⟨j, _, rfl⟩ := List.mem_map.1 hc
  rfl
theorem wrow_take (W : Nat → W32) (i : Nat) : (wrow W i).take 64 = wrow W i := by rw [← wrow_len W i, List.take_length]
theorem wrow_drop (W : Nat → W32) (i : Nat) : (wrow W i).drop 64 = [] := by rw [List.drop_eq_nil_iff, wrow_len]; exact Nat.le_refl _
/-- The functions that are walked are no summaries; the constants are. -/
structure Dg (S : Sums) : Prop where
  no : ∀ f args h, f = 24 ∨ f = 61 ∨ f = 62 ∨ f = 65 ∨ f = 87 ∨ f = 91 ∨ f = 92 ∨ f = 93 ∨ f = 94 ∨ f = 108 ∨ f = 109 ∨ f = 110 ∨ f = 127 → S f args h = none
  kP : ∀ h, S 89 [] h = some (.agg (wrow Kc 64), h)
  hP : ∀ h, S 90 [] h = some (.agg (c8 H0), h)
  kR : ∀ h, S 59 [] h = some (.agg (wrow Kc 64), h)
  hR : ∀ h, S 60 [] h = some (.agg (c8 H0), h)
theorem Dg.nos {S : Sums} (d : Dg S) : NoS S := fun f a h hf => d.no f a h (by rcases hf with h | h | h | h | h <;> simp [h])

section
variable {S : Sums}

theorem chunk54 (hS : ∀ args h, S 93 args h = none) {h : AH} {v : AV} (ho : oneA v = true) : RnC Tryz.prog S 93 [v, .int .i64 64] h fun r h' => r = .func (.func 109) [] [.ptr h.nx 0, .ptr (h.nx + 1) 0] ∧ h' = (h.new (.cells [v] true false)).new (.cells [.int .i64 64] true false) := by
  refine RnC.enter' Tryz.f93 _ 9 [.tmp 4] (hS _ _) bd93 Tryz.func93 rfl rfl rfl ?_
  simp (maxSteps := 1000000) -dsimp (disch := (repeat first | rw [nxn] | rw [nxp]); try omega) only [go_sem, evLen, cellsA_one ho, ho]
  first
    | exact ⟨trivial, trivial⟩
    | exact ⟨trivial, rfl⟩
    | exact ⟨rfl, rfl⟩

theorem bo_put {n0 : Nat} {g : AH} {w : AV} {l : List Nat} {i : Nat} (hb : Bo n0 g w l) (hi : i < n0 ∨ ∀ cs o t, g.get i ≠ some (.cells cs o t)) (ob : AO) : Bo n0 (g.put i ob) w l := by
  obtain ⟨id, c, cs, tx, h1, h2, h3, h4, h5⟩ := hb
  have hne : id ≠ i := by
    rcases hi with h | h
    · omega
    · intro e; subst e; exact h _ _ _ h2
  exact ⟨id, c, cs, tx, h1, by rw [AH.get_put_ne hne]; exact h2, h3, h4, h5⟩
theorem bs_put {g : AH} {w : AV} {l : List Nat} {i : Nat} (hb : Bs g w l) (hi : ∀ cs o t, g.get i ≠ some (.cells cs o t)) (ob : AO) : Bs (g.put i ob) w l := by
  rcases hb with h1 | ⟨id, off, c, cs, o, t, h1, h2, h3, h4⟩
  · exact .inl h1
  · have hne : id ≠ i := by intro e; subst e; exact hi _ _ _ h2
    exact .inr ⟨id, off, c, cs, o, t, h1, by rw [AH.get_put_ne hne]; exact h2, h3, h4⟩
/-- What stays while the blocks are gone over. -/
structure Inv (h : AH) (l : List Nat) (w : AV) (D pb pn : Nat) (i : Nat) (g : AH) : Prop where
  fr : Fr h g
  z : g.get h.nx = some (.cells z32 true false)
  k : g.get (h.nx + 1) = some (.cells (wrow Kc 64) true false)
  s : g.get (h.nx + 1 + 1) = some (.cells (c8 (stt l i)) true false)
  d : g.get D = some (.defs true)
  b : g.get pb = some (.cells [w] true false)
  n : g.get pn = some (.cells [.int .i64 64] true false)
  w : Bo (h.nx + 3) g w (whole l)
  top : D < g.nx ∧ pb < g.nx ∧ pn < g.nx ∧ h.nx + 2 < D ∧ h.nx + 2 < pb ∧ h.nx + 2 < pn
theorem Inv.more {h : AH} {l : List Nat} {w : AV} {D pb pn i : Nat} {g : AH} (hi : Inv h l w D pb pn i g) {k : Nat} (hk : g.nx ≤ k) : Inv h l w D pb pn i { tr := g.tr, nx := k } := by
  have ht := hi.top
  exact ⟨hi.fr.more k hk, hi.z, hi.k, hi.s, hi.d, hi.b, hi.n, hi.w.fr ((Fr.refl g).more k hk), ⟨by show D < k; omega, by show pb < k; omega, by show pn < k; omega, ht.2.2.2.1, ht.2.2.2.2.1, ht.2.2.2.2.2⟩⟩

theorem w4_cells (x : W32) : byC (w4 x) = [.int .u8 (IntKind.u8.wrap (iw (x >>> 24))), .int .u8 (IntKind.u8.wrap (iw (x >>> 16))), .int .u8 (IntKind.u8.wrap (iw (x >>> 8))), .int .u8 (IntKind.u8.wrap (iw x))] := by
  simp only [byC, w4, List.map_cons, List.map_nil, w_byte, BitVec.toNat_ushiftRight, Nat.shiftRight_eq_div_pow]
theorem cv735 (h : AH) (n : Int) : evConvert Tryz.prog h 105 5 (.int .u32 n) = some (.val (.int .u8 (IntKind.u8.wrap n)) h) := by
  simp only [evConvert, Tryz.underlying105, Tryz.underlying5, val?]

theorem byC_app (a b : List Nat) : byC (a ++ b) = byC a ++ byC b := by simp [byC]
theorem out8_cells (s : W8) : byC (out8 s) = [.int .u8 (IntKind.u8.wrap (iw (s.a >>> 24))), .int .u8 (IntKind.u8.wrap (iw (s.a >>> 16))), .int .u8 (IntKind.u8.wrap (iw (s.a >>> 8))), .int .u8 (IntKind.u8.wrap (iw (s.a))), .int .u8 (IntKind.u8.wrap (iw (s.b >>> 24))), .int .u8 (IntKind.u8.wrap (iw (s.b >>> 16))), .int .u8 (IntKind.u8.wrap (iw (s.b >>> 8))), .int .u8 (IntKind.u8.wrap (iw (s.b))), .int .u8 (IntKind.u8.wrap (iw (s.c >>> 24))), .int .u8 (IntKind.u8.wrap (iw (s.c >>> 16))), .int .u8 (IntKind.u8.wrap (iw (s.c >>> 8))), .int .u8 (IntKind.u8.wrap (iw (s.c))), .int .u8 (IntKind.u8.wrap (iw (s.d >>> 24))), .int .u8 (IntKind.u8.wrap (iw (s.d >>> 16))), .int .u8 (IntKind.u8.wrap (iw (s.d >>> 8))), .int .u8 (IntKind.u8.wrap (iw (s.d))), .int .u8 (IntKind.u8.wrap (iw (s.e >>> 24))), .int .u8 (IntKind.u8.wrap (iw (s.e >>> 16))), .int .u8 (IntKind.u8.wrap (iw (s.e >>> 8))), .int .u8 (IntKind.u8.wrap (iw (s.e))), .int .u8 (IntKind.u8.wrap (iw (s.f >>> 24))), .int .u8 (IntKind.u8.wrap (iw (s.f >>> 16))), .int .u8 (IntKind.u8.wrap (iw (s.f >>> 8))), .int .u8 (IntKind.u8.wrap (iw (s.f))), .int .u8 (IntKind.u8.wrap (iw (s.g >>> 24))), .int .u8 (IntKind.u8.wrap (iw (s.g >>> 16))), .int .u8 (IntKind.u8.wrap (iw (s.g >>> 8))), .int .u8 (IntKind.u8.wrap (iw (s.g))), .int .u8 (IntKind.u8.wrap (iw (s.h >>> 24))), .int .u8 (IntKind.u8.wrap (iw (s.h >>> 16))), .int .u8 (IntKind.u8.wrap (iw (s.h >>> 8))), .int .u8 (IntKind.u8.wrap (iw (s.h)))] := by
  simp only [out8, byC_app, w4_cells, List.cons_append, List.nil_append]
theorem ix0 (s : W8) : evIndex Tryz.prog 108 (.agg (c8 s)) (.int .i64 0) = some (.int .u32 (iw s.a)) := by kernel_rfl
theorem ix1 (s : W8) : evIndex Tryz.prog 108 (.agg (c8 s)) (.int .i64 1) = some (.int .u32 (iw s.b)) := by kernel_rfl
theorem ix2 (s : W8) : evIndex Tryz.prog 108 (.agg (c8 s)) (.int .i64 2) = some (.int .u32 (iw s.c)) := by kernel_rfl
theorem ix3 (s : W8) : evIndex Tryz.prog 108 (.agg (c8 s)) (.int .i64 3) = some (.int .u32 (iw s.d)) := by kernel_rfl
theorem ix4 (s : W8) : evIndex Tryz.prog 108 (.agg (c8 s)) (.int .i64 4) = some (.int .u32 (iw s.e)) := by kernel_rfl
theorem ix5 (s : W8) : evIndex Tryz.prog 108 (.agg (c8 s)) (.int .i64 5) = some (.int .u32 (iw s.f)) := by kernel_rfl
theorem ix6 (s : W8) : evIndex Tryz.prog 108 (.agg (c8 s)) (.int .i64 6) = some (.int .u32 (iw s.g)) := by kernel_rfl
theorem ix7 (s : W8) : evIndex Tryz.prog 108 (.agg (c8 s)) (.int .i64 7) = some (.int .u32 (iw s.h)) := by kernel_rfl
def dcs (s : W8) : List AV := [.int .u8 (IntKind.u8.wrap (iw (s.a >>> 24))), .int .u8 (IntKind.u8.wrap (iw (s.a >>> 16))), .int .u8 (IntKind.u8.wrap (iw (s.a >>> 8))), .int .u8 (IntKind.u8.wrap (iw (s.a))), .int .u8 (IntKind.u8.wrap (iw (s.b >>> 24))), .int .u8 (IntKind.u8.wrap (iw (s.b >>> 16))), .int .u8 (IntKind.u8.wrap (iw (s.b >>> 8))), .int .u8 (IntKind.u8.wrap (iw (s.b))), .int .u8 (IntKind.u8.wrap (iw (s.c >>> 24))), .int .u8 (IntKind.u8.wrap (iw (s.c >>> 16))), .int .u8 (IntKind.u8.wrap (iw (s.c >>> 8))), .int .u8 (IntKind.u8.wrap (iw (s.c))), .int .u8 (IntKind.u8.wrap (iw (s.d >>> 24))), .int .u8 (IntKind.u8.wrap (iw (s.d >>> 16))), .int .u8 (IntKind.u8.wrap (iw (s.d >>> 8))), .int .u8 (IntKind.u8.wrap (iw (s.d))), .int .u8 (IntKind.u8.wrap (iw (s.e >>> 24))), .int .u8 (IntKind.u8.wrap (iw (s.e >>> 16))), .int .u8 (IntKind.u8.wrap (iw (s.e >>> 8))), .int .u8 (IntKind.u8.wrap (iw (s.e))), .int .u8 (IntKind.u8.wrap (iw (s.f >>> 24))), .int .u8 (IntKind.u8.wrap (iw (s.f >>> 16))), .int .u8 (IntKind.u8.wrap (iw (s.f >>> 8))), .int .u8 (IntKind.u8.wrap (iw (s.f))), .int .u8 (IntKind.u8.wrap (iw (s.g >>> 24))), .int .u8 (IntKind.u8.wrap (iw (s.g >>> 16))), .int .u8 (IntKind.u8.wrap (iw (s.g >>> 8))), .int .u8 (IntKind.u8.wrap (iw (s.g))), .int .u8 (IntKind.u8.wrap (iw (s.h >>> 24))), .int .u8 (IntKind.u8.wrap (iw (s.h >>> 16))), .int .u8 (IntKind.u8.wrap (iw (s.h >>> 8))), .int .u8 (IntKind.u8.wrap (iw (s.h)))]
def R32 (s : W8) (k : Nat) : List AV := (dcs s).take k ++ z32.drop k
theorem R32_len (s : W8) (k : Nat) (hk : k ≤ 32) : (R32 s k).length = 32 := by
  have h1 : (dcs s).length = 32 := rfl
  have h2 : z32.length = 32 := rfl
  rw [R32, List.length_append, List.length_take, List.length_drop, h1, h2]
  omega
theorem dcs_len (s : W8) : (dcs s).length = 32 := rfl
theorem dcs_all (s : W8) : (dcs s).all oneA = true := rfl
theorem dcs_take (s : W8) : (dcs s).take 32 = dcs s := rfl
theorem z32_len : z32.length = 32 := rfl
theorem z32_drop : z32.drop 32 = [] := rfl
theorem R32_ne (s : W8) : (R32 s 0).isEmpty = false := rfl
theorem R32_take (s : W8) : (R32 s 32).take 32 = dcs s := rfl
theorem zcR (s : W8) : zeroC Tryz.prog 62 = some (R32 s 0) := zc56w
theorem rput0 (s : W8) : (.int .u8 (IntKind.u8.wrap (iw (s.a >>> 24)))) :: (R32 s 0).drop 1 = R32 s 1 := rfl
theorem rput1 (s : W8) : (R32 s 1).take 1 ++ [.int .u8 (IntKind.u8.wrap (iw (s.a >>> 16)))] ++ (R32 s 1).drop 2 = R32 s 2 := rfl
theorem rput2 (s : W8) : (R32 s 2).take 2 ++ [.int .u8 (IntKind.u8.wrap (iw (s.a >>> 8)))] ++ (R32 s 2).drop 3 = R32 s 3 := rfl
theorem rput3 (s : W8) : (R32 s 3).take 3 ++ [.int .u8 (IntKind.u8.wrap (iw (s.a)))] ++ (R32 s 3).drop 4 = R32 s 4 := rfl
theorem rput4 (s : W8) : (R32 s 4).take 4 ++ [.int .u8 (IntKind.u8.wrap (iw (s.b >>> 24)))] ++ (R32 s 4).drop 5 = R32 s 5 := rfl
theorem rput5 (s : W8) : (R32 s 5).take 5 ++ [.int .u8 (IntKind.u8.wrap (iw (s.b >>> 16)))] ++ (R32 s 5).drop 6 = R32 s 6 := rfl
theorem rput6 (s : W8) : (R32 s 6).take 6 ++ [.int .u8 (IntKind.u8.wrap (iw (s.b >>> 8)))] ++ (R32 s 6).drop 7 = R32 s 7 := rfl
theorem rput7 (s : W8) : (R32 s 7).take 7 ++ [.int .u8 (IntKind.u8.wrap (iw (s.b)))] ++ (R32 s 7).drop 8 = R32 s 8 := rfl
theorem rput8 (s : W8) : (R32 s 8).take 8 ++ [.int .u8 (IntKind.u8.wrap (iw (s.c >>> 24)))] ++ (R32 s 8).drop 9 = R32 s 9 := rfl
theorem rput9 (s : W8) : (R32 s 9).take 9 ++ [.int .u8 (IntKind.u8.wrap (iw (s.c >>> 16)))] ++ (R32 s 9).drop 10 = R32 s 10 := rfl
theorem rput10 (s : W8) : (R32 s 10).take 10 ++ [.int .u8 (IntKind.u8.wrap (iw (s.c >>> 8)))] ++ (R32 s 10).drop 11 = R32 s 11 := rfl
theorem rput11 (s : W8) : (R32 s 11).take 11 ++ [.int .u8 (IntKind.u8.wrap (iw (s.c)))] ++ (R32 s 11).drop 12 = R32 s 12 := rfl
theorem rput12 (s : W8) : (R32 s 12).take 12 ++ [.int .u8 (IntKind.u8.wrap (iw (s.d >>> 24)))] ++ (R32 s 12).drop 13 = R32 s 13 := rfl
theorem rput13 (s : W8) : (R32 s 13).take 13 ++ [.int .u8 (IntKind.u8.wrap (iw (s.d >>> 16)))] ++ (R32 s 13).drop 14 = R32 s 14 := rfl
theorem rput14 (s : W8) : (R32 s 14).take 14 ++ [.int .u8 (IntKind.u8.wrap (iw (s.d >>> 8)))] ++ (R32 s 14).drop 15 = R32 s 15 := rfl
theorem rput15 (s : W8) : (R32 s 15).take 15 ++ [.int .u8 (IntKind.u8.wrap (iw (s.d)))] ++ (R32 s 15).drop 16 = R32 s 16 := rfl
theorem rput16 (s : W8) : (R32 s 16).take 16 ++ [.int .u8 (IntKind.u8.wrap (iw (s.e >>> 24)))] ++ (R32 s 16).drop 17 = R32 s 17 := rfl
theorem rput17 (s : W8) : (R32 s 17).take 17 ++ [.int .u8 (IntKind.u8.wrap (iw (s.e >>> 16)))] ++ (R32 s 17).drop 18 = R32 s 18 := rfl
theorem rput18 (s : W8) : (R32 s 18).take 18 ++ [.int .u8 (IntKind.u8.wrap (iw (s.e >>> 8)))] ++ (R32 s 18).drop 19 = R32 s 19 := rfl
theorem rput19 (s : W8) : (R32 s 19).take 19 ++ [.int .u8 (IntKind.u8.wrap (iw (s.e)))] ++ (R32 s 19).drop 20 = R32 s 20 := rfl
theorem rput20 (s : W8) : (R32 s 20).take 20 ++ [.int .u8 (IntKind.u8.wrap (iw (s.f >>> 24)))] ++ (R32 s 20).drop 21 = R32 s 21 := rfl
theorem rput21 (s : W8) : (R32 s 21).take 21 ++ [.int .u8 (IntKind.u8.wrap (iw (s.f >>> 16)))] ++ (R32 s 21).drop 22 = R32 s 22 := rfl
theorem rput22 (s : W8) : (R32 s 22).take 22 ++ [.int .u8 (IntKind.u8.wrap (iw (s.f >>> 8)))] ++ (R32 s 22).drop 23 = R32 s 23 := rfl
theorem rput23 (s : W8) : (R32 s 23).take 23 ++ [.int .u8 (IntKind.u8.wrap (iw (s.f)))] ++ (R32 s 23).drop 24 = R32 s 24 := rfl
theorem rput24 (s : W8) : (R32 s 24).take 24 ++ [.int .u8 (IntKind.u8.wrap (iw (s.g >>> 24)))] ++ (R32 s 24).drop 25 = R32 s 25 := rfl
theorem rput25 (s : W8) : (R32 s 25).take 25 ++ [.int .u8 (IntKind.u8.wrap (iw (s.g >>> 16)))] ++ (R32 s 25).drop 26 = R32 s 26 := rfl
theorem rput26 (s : W8) : (R32 s 26).take 26 ++ [.int .u8 (IntKind.u8.wrap (iw (s.g >>> 8)))] ++ (R32 s 26).drop 27 = R32 s 27 := rfl
theorem rput27 (s : W8) : (R32 s 27).take 27 ++ [.int .u8 (IntKind.u8.wrap (iw (s.g)))] ++ (R32 s 27).drop 28 = R32 s 28 := rfl
theorem rput28 (s : W8) : (R32 s 28).take 28 ++ [.int .u8 (IntKind.u8.wrap (iw (s.h >>> 24)))] ++ (R32 s 28).drop 29 = R32 s 29 := rfl
theorem rput29 (s : W8) : (R32 s 29).take 29 ++ [.int .u8 (IntKind.u8.wrap (iw (s.h >>> 16)))] ++ (R32 s 29).drop 30 = R32 s 30 := rfl
theorem rput30 (s : W8) : (R32 s 30).take 30 ++ [.int .u8 (IntKind.u8.wrap (iw (s.h >>> 8)))] ++ (R32 s 30).drop 31 = R32 s 31 := rfl
theorem rput31 (s : W8) : (R32 s 31).take 31 ++ [.int .u8 (IntKind.u8.wrap (iw (s.h)))] ++ (R32 s 31).drop 32 = R32 s 32 := rfl
theorem bo_ex {n0 : Nat} {h : AH} {v : AV} {l : List Nat} (hb : Bo n0 h v l) : ∃ id c, v = .sl id 0 l.length 1 c := by
  obtain ⟨id, c, cs, tx, h1, _⟩ := hb
  exact ⟨id, c, h1⟩
set_option maxHeartbeats 40000000 in
theorem of43 (hd : Dg S) {h : AH} {v : AV} {l : List Nat} (hb : Bs h v l) (hl : ∀ b ∈ l, b < 256) (hn : l.length ≤ 137438953472) : RnC Tryz.prog S 65 [v] h fun r h' => r = .agg (byC (ofS l)) ∧ Fr h h' := by
  refine RnC.enter' Tryz.f65 _ 57 [.cell 2 62] (hd.no _ _ _ (by simp)) bd65 Tryz.func65 rfl rfl rfl ?_
  obtain ⟨lv, ov⟩ := conv_len hb
  have hz32 : z32.isEmpty = false := rfl
  simp (maxSteps := 1000000) -dsimp (disch := (repeat first | rw [nxn] | rw [nxp]); try omega) only [go_sem, evLen, zc56w, hz32]
  refine callK_of (RnC.sum (hd.kP _) (Q := fun v h' => v = .agg (wrow Kc 64) ∧ h' = h.new (.cells z32 true false)) ⟨rfl, rfl⟩) ?_
  rintro r h' ⟨rfl, rfl⟩
  try simp (maxSteps := 1000000) -dsimp (disch := (repeat first | rw [nxn] | rw [nxp]); try omega) only [go_sem, evLen]
  refine callK_of (RnC.sum (hd.hP _) (Q := fun v h' => v = .agg (c8 H0) ∧ h' = h.new (.cells z32 true false)) ⟨rfl, rfl⟩) ?_
  rintro r h' ⟨rfl, rfl⟩
  have hle : ((l.length : Nat) : Int) = ((l.length : Nat) : Int) := rfl
  simp (maxSteps := 1000000) -dsimp (disch := (repeat first | rw [nxn] | rw [nxp]); try omega) only [go_sem, zc74w Kc, zc76w, wrow_all, wrow_drop, lv]
  refine callK_of (pad53 (fun _ _ => hd.no _ _ _ (by simp)) (n := l.length) (by omega)) ?_
  rintro pv h2 ⟨hbo, hf2⟩
  have hn2 : h.nx + 1 + 1 + 1 ≤ h2.nx := hf2.nx
  have hg2 : ∀ j, j < h.nx + 1 + 1 + 1 → h2.get j = (AH.put _ _ _).get j := hf2.get
  have fr2 : Fr h h2 := ((((((Fr.refl h).news _).news _).news _).put _ (by omega)).put _ (by omega)).trans hf2
  simp (maxSteps := 1000000) -dsimp (disch := (repeat first | rw [nxn] | rw [nxp]); try omega) only [go_sem, evLen, cellsA_one ov, cellsA_one hbo.one, ov, hbo.one]
  refine callK_of (concat52 (fun f _ _ hf => hd.no _ _ _ (by rcases hf with h | h <;> simp [h])) (AH.get_new_eq rfl) (Nat.lt_succ_self _) ((hb.fr fr2).fr (Fr.new _ _)) (hbo.fr (Fr.new _ _)) (by rw [padS_len]; have := zs_lt l.length; omega) (by rw [padS_len]; omega)) ?_
  rintro wv h3 ⟨hbw, hf3⟩
  have hn3 : h2.nx + 1 ≤ h3.nx := hf3.nx
  have hg3 : ∀ j, j < h2.nx + 1 → h3.get j = (AH.new _ _).get j := hf3.get
  try simp (maxSteps := 1000000) -dsimp (disch := (repeat first | rw [nxn] | rw [nxp]); try omega) only [go_sem, evLen]
  refine callK_of (chunk54 (fun _ _ => hd.no _ _ _ (by simp)) hbw.one) ?_
  rintro r h4 ⟨rfl, rfl⟩
  have gz : h3.get h.nx = some (.cells z32 true false) := by rw [hg3 _ (by omega), AH.get_new_ne (by omega), hg2 _ (by omega), AH.get_put_ne (by omega), AH.get_put_ne (by omega), AH.get_new_ne (by simp only [AH.nx_new]; omega), AH.get_new_ne (by simp only [AH.nx_new]; omega), AH.get_new_eq rfl]
  have gk : h3.get (h.nx + 1) = some (.cells (wrow Kc 64) true false) := by rw [hg3 _ (by omega), AH.get_new_ne (by omega), hg2 _ (by omega), AH.get_put_ne (by omega), AH.get_put_eq rfl]
  have gs : h3.get (h.nx + 1 + 1) = some (.cells (c8 H0) true false) := by rw [hg3 _ (by omega), AH.get_new_ne (by omega), hg2 _ (by omega), AH.get_put_eq rfl]
  have fr3 : Fr h h3 := (fr2.news _).trans hf3
  obtain ⟨wi, wc, hwv⟩ := bo_ex hbw
  simp (maxSteps := 1000000) -dsimp (disch := (repeat first | rw [nxn] | rw [nxp]); try omega) only [go_sem, evLen, loopHead, bd109]
  refine range_chunk (fun _ _ => hd.no _ _ _ (by simp)) (v := wv) (hv := hwv) (hvn := rfl) (L := whole l) (q := qs l) (Inv h l wv (h3.nx + 1 + 1) h3.nx (h3.nx + 1)) (whole_len l) (by unfold whole; rw [List.length_append, padS_len]; have := zs_lt l.length; omega) (by simp only [AH.nx_new]) (by simp only [AH.nx_new]) (fun i g hi => ⟨⟨_, _, hi.b⟩, ⟨_, _, hi.n⟩, hi.w.bs⟩) (fun i g k hi hk => hi.more hk) ?_ ?_ ?_
  · intro i g w hi hI hgl hyn hbs
    have htop := hI.top
    have gz' := hI.z
    have gk' := hI.k
    have gs' := hI.s
    have gd' := hI.d
    have gb' := hI.b
    have gn' := hI.n
    have hnl : ∀ cs o t, g.get (h3.nx + 1 + 1 + 1) ≠ some (.cells cs o t) := fun cs o t hh => by rw [hgl] at hh; cases hh
    refine RnR.enter hgl (by simp [setArgs]; rfl) ?_
    try simp (maxSteps := 1000000) -dsimp (disch := (repeat first | rw [nxn] | rw [nxp]); try omega) only [go_sem, evLen]
    refine ⟨rfl, _, _, _, _, _, _, _, _, hgl, ?_⟩
    simp (maxSteps := 1000000) -dsimp (disch := (repeat first | rw [nxn] | rw [nxp]); try omega) only [go_sem, evLen, Nat.mul_one, gs']
    refine callK_of (blkP hd.nos Kc (stt l i) (kid := h.nx + 1) (ko := true) (kt := false) (by rw [AH.get_put_ne (by omega)]; exact gk') (by rw [AH.nx_put]; omega) (bs_put hbs hnl _) (part_lt hl i) (part_len hi)) ?_
    rintro r g2 ⟨rfl, hf⟩
    have hng : g.nx ≤ g2.nx := hf.nx
    have hgg : ∀ j, j < g.nx → g2.get j = (AH.put _ _ _).get j := hf.get
    simp (maxSteps := 1000000) -dsimp (disch := (repeat first | rw [nxn] | rw [nxp]); try omega) only [go_sem, evLen, Nat.mul_one, hgg, gs']
    refine ⟨.busy, none, 65, _, _, _, _, _, _, by rw [AH.get_put_ne (by omega), hgg _ hyn, AH.get_put_eq rfl], rfl, ?_, AH.get_put_eq rfl, by rw [AH.nx_put, AH.nx_put]; omega⟩
    have get3 : ∀ j, j < g.nx → j ≠ h.nx + 1 + 1 → j ≠ h3.nx + 1 + 1 + 1 → ∀ o1 o2, ((g2.put (h.nx + 1 + 1) o1).put (h3.nx + 1 + 1 + 1) o2).get j = g.get j := fun j h1 h2 h4 o1 o2 => by
      rw [AH.get_put_ne h4, AH.get_put_ne h2, hgg j h1, AH.get_put_ne h4]
    refine ⟨?_, ?_, ?_, ?_, ?_, ?_, ?_, ?_, ?_⟩
    · exact (((hI.fr.put _ (by omega)).trans hf).put _ (by omega)).put _ (by omega)
    · rw [get3 _ (by omega) (by omega) (by omega)]; exact gz'
    · rw [get3 _ (by omega) (by omega) (by omega)]; exact gk'
    · rw [AH.get_put_ne (by omega), AH.get_put_eq rfl]; rfl
    · rw [get3 _ (by omega) (by omega) (by omega)]; exact gd'
    · rw [get3 _ (by omega) (by omega) (by omega)]; exact gb'
    · rw [get3 _ (by omega) (by omega) (by omega)]; exact gn'
    · exact bo_put (bo_put ((bo_put hI.w (.inr hnl) _).fr hf) (.inl (by omega)) _) (.inr (fun cs o t hh => by rw [AH.get_put_ne (by omega), hgg _ hyn, AH.get_put_eq rfl] at hh; cases hh)) _
    · refine ⟨?_, ?_, ?_, htop.2.2.2.1, htop.2.2.2.2.1, htop.2.2.2.2.2⟩ <;> (rw [AH.nx_put, AH.nx_put]; omega)
  · refine ⟨(((((fr3.news _).news _).news _).news _)), ?_, ?_, ?_, ?_, ?_, ?_, ?_, ?_⟩
    · rw [AH.get_new_ne (by simp only [AH.nx_new]; omega), AH.get_new_ne (by simp only [AH.nx_new]; omega), AH.get_new_ne (by simp only [AH.nx_new]; omega), AH.get_new_ne (by omega)]; exact gz
    · rw [AH.get_new_ne (by simp only [AH.nx_new]; omega), AH.get_new_ne (by simp only [AH.nx_new]; omega), AH.get_new_ne (by simp only [AH.nx_new]; omega), AH.get_new_ne (by omega)]; exact gk
    · rw [AH.get_new_ne (by simp only [AH.nx_new]; omega), AH.get_new_ne (by simp only [AH.nx_new]; omega), AH.get_new_ne (by simp only [AH.nx_new]; omega), AH.get_new_ne (by omega)]; exact gs
    · rw [AH.get_new_ne (by simp only [AH.nx_new]; omega)]; exact AH.get_new_eq rfl
    · rw [AH.get_new_ne (by simp only [AH.nx_new]; omega), AH.get_new_ne (by simp only [AH.nx_new]; omega), AH.get_new_ne (by simp only [AH.nx_new]; omega)]; exact AH.get_new_eq rfl
    · rw [AH.get_new_ne (by simp only [AH.nx_new]; omega), AH.get_new_ne (by simp only [AH.nx_new]; omega)]; exact AH.get_new_eq rfl
    · obtain ⟨id, c, cs, tx, q1, q2, q3, q4, q5⟩ := hbw
      have : Bo (h.nx + 3) h3 wv (whole l) := ⟨id, c, cs, tx, q1, q2, q3, by rw [AH.nx_new] at q4; omega, q5⟩
      exact this.fr ((((Fr.new h3 _).news _).news _).news _)
    · simp only [AH.nx_new]; omega
  · intro g hI hgl
    have htop := hI.top
    have gz' := hI.z
    have gs' := hI.s
    have gd' := hI.d
    have frg := hI.fr
    have hgn0 := frg.nx
    obtain ⟨sv, hsv⟩ : ∃ s, s = stt l (qs l) := ⟨_, rfl⟩
    rw [← hsv] at gs'
    simp (maxSteps := 1000000) -dsimp (disch := (repeat first | rw [nxn] | rw [nxp]); try omega) only [go_sem, evLen, zcR sv, R32_ne, Nat.mul_one, gs']
    refine loopK_of (RnL.rounds (Q := fun ex s => ex = .exit 2 ∧ Fr h s.h ∧ s.d = [h3.nx + 1 + 1] ∧ s.t.get 2 = some (.ptr h.nx 0) ∧ s.t.get 7 = some (.ptr g.nx 0) ∧ s.t.get 24 = some (.agg (c8 sv)) ∧ s.h.get h.nx = some (.cells z32 true false) ∧ s.h.get (h3.nx + 1 + 1) = some (.defs true) ∧ g.nx < s.h.nx ∧ s.h.get g.nx = some (.cells (R32 sv 32) true false))
      (fun m s => Fr h s.h ∧ s.d = [h3.nx + 1 + 1] ∧ s.t.get 2 = some (.ptr h.nx 0) ∧ s.t.get 7 = some (.ptr g.nx 0) ∧ s.t.get 24 = some (.agg (c8 sv)) ∧ s.h.get h.nx = some (.cells z32 true false) ∧ s.h.get (h3.nx + 1 + 1) = some (.defs true) ∧ g.nx < s.h.nx ∧ ∃ i : Nat, s.t.get 25 = some (.int .i64 (i : Nat)) ∧ s.h.get g.nx = some (.cells (R32 sv (4 * i)) true false) ∧ i ≤ 8 ∧ m = 8 - i) ?_ 8 ?_) ?_
    · rintro m ⟨t, h5, d⟩ ⟨f1, e2, g2, g7, g24, g0, gD, gn, i, g25, gA, hi8, rfl⟩
      dsimp only at f1 e2 g2 g7 g24 g0 gD gn g25 gA
      subst e2
      have hc : i = 0 ∨ i = 1 ∨ i = 2 ∨ i = 3 ∨ i = 4 ∨ i = 5 ∨ i = 6 ∨ i = 7 ∨ i = 8 := by omega
      rcases hc with rfl | rfl | rfl | rfl | rfl | rfl | rfl | rfl | rfl
      · simp (maxSteps := 1000000) -dsimp (disch := (repeat first | rw [nxn] | rw [nxp]); try omega) only [go_sem, evLen, Nat.mul_one, ix0, cv735, R32_len, g2, g7, g24, g0, gD, g25, gA, rput0, rput1, rput2, rput3]
        refine ⟨8 - 1, by omega, (((f1.put _ (by omega)).put _ (by omega)).put _ (by omega)).put _ (by omega), trivial, trivial, trivial, trivial, trivial, trivial, by omega, 1, rfl, rfl, by omega, rfl⟩
      · simp (maxSteps := 1000000) -dsimp (disch := (repeat first | rw [nxn] | rw [nxp]); try omega) only [go_sem, evLen, Nat.mul_one, ix1, cv735, R32_len, g2, g7, g24, g0, gD, g25, gA, rput4, rput5, rput6, rput7]
        refine ⟨8 - 2, by omega, (((f1.put _ (by omega)).put _ (by omega)).put _ (by omega)).put _ (by omega), trivial, trivial, trivial, trivial, trivial, trivial, by omega, 2, rfl, rfl, by omega, rfl⟩
      · simp (maxSteps := 1000000) -dsimp (disch := (repeat first | rw [nxn] | rw [nxp]); try omega) only [go_sem, evLen, Nat.mul_one, ix2, cv735, R32_len, g2, g7, g24, g0, gD, g25, gA, rput8, rput9, rput10, rput11]
        refine ⟨8 - 3, by omega, (((f1.put _ (by omega)).put _ (by omega)).put _ (by omega)).put _ (by omega), trivial, trivial, trivial, trivial, trivial, trivial, by omega, 3, rfl, rfl, by omega, rfl⟩
      · simp (maxSteps := 1000000) -dsimp (disch := (repeat first | rw [nxn] | rw [nxp]); try omega) only [go_sem, evLen, Nat.mul_one, ix3, cv735, R32_len, g2, g7, g24, g0, gD, g25, gA, rput12, rput13, rput14, rput15]
        refine ⟨8 - 4, by omega, (((f1.put _ (by omega)).put _ (by omega)).put _ (by omega)).put _ (by omega), trivial, trivial, trivial, trivial, trivial, trivial, by omega, 4, rfl, rfl, by omega, rfl⟩
      · simp (maxSteps := 1000000) -dsimp (disch := (repeat first | rw [nxn] | rw [nxp]); try omega) only [go_sem, evLen, Nat.mul_one, ix4, cv735, R32_len, g2, g7, g24, g0, gD, g25, gA, rput16, rput17, rput18, rput19]
        refine ⟨8 - 5, by omega, (((f1.put _ (by omega)).put _ (by omega)).put _ (by omega)).put _ (by omega), trivial, trivial, trivial, trivial, trivial, trivial, by omega, 5, rfl, rfl, by omega, rfl⟩
      · simp (maxSteps := 1000000) -dsimp (disch := (repeat first | rw [nxn] | rw [nxp]); try omega) only [go_sem, evLen, Nat.mul_one, ix5, cv735, R32_len, g2, g7, g24, g0, gD, g25, gA, rput20, rput21, rput22, rput23]
        refine ⟨8 - 6, by omega, (((f1.put _ (by omega)).put _ (by omega)).put _ (by omega)).put _ (by omega), trivial, trivial, trivial, trivial, trivial, trivial, by omega, 6, rfl, rfl, by omega, rfl⟩
      · simp (maxSteps := 1000000) -dsimp (disch := (repeat first | rw [nxn] | rw [nxp]); try omega) only [go_sem, evLen, Nat.mul_one, ix6, cv735, R32_len, g2, g7, g24, g0, gD, g25, gA, rput24, rput25, rput26, rput27]
        refine ⟨8 - 7, by omega, (((f1.put _ (by omega)).put _ (by omega)).put _ (by omega)).put _ (by omega), trivial, trivial, trivial, trivial, trivial, trivial, by omega, 7, rfl, rfl, by omega, rfl⟩
      · simp (maxSteps := 1000000) -dsimp (disch := (repeat first | rw [nxn] | rw [nxp]); try omega) only [go_sem, evLen, Nat.mul_one, ix7, cv735, R32_len, g2, g7, g24, g0, gD, g25, gA, rput28, rput29, rput30, rput31]
        refine ⟨8 - 8, by omega, (((f1.put _ (by omega)).put _ (by omega)).put _ (by omega)).put _ (by omega), trivial, trivial, trivial, trivial, trivial, trivial, by omega, 8, rfl, rfl, by omega, rfl⟩
      · simp (maxSteps := 1000000) -dsimp (disch := (repeat first | rw [nxn] | rw [nxp]); try omega) only [go_sem, evLen, g25]
        exact ⟨trivial, f1, trivial, g2, g7, g24, g0, gD, gn, gA⟩
    · simp (maxSteps := 1000000) -dsimp (disch := (repeat first | rw [nxn] | rw [nxp]); try omega) only [go_sem, evLen, gz', gd']
      exact ⟨(frg.put _ (by omega)).news _, trivial, trivial, trivial, trivial, trivial, trivial, by omega, 0, rfl, rfl, by omega, rfl⟩
    · rintro ex ⟨t, h5, d⟩ ⟨rfl, f1, rfl, g2, g7, g24, g0, gD, gn, gA⟩
      dsimp only at f1 g2 g7 g24 g0 gD gn gA
      simp (maxSteps := 1000000) -dsimp (disch := (repeat first | rw [nxn] | rw [nxp]); try omega) only [go_sem, evLen, Nat.mul_one, g2, g7, g0, gD, gA, takeMarks, R32_len, R32_take, dcs_len, dcs_all, dcs_take, z32_len, z32_drop]
      refine ⟨?_, (f1.put _ (by omega)).put _ (by omega)⟩
      rw [ofS, ← hsv, out8_cells]
      rfl
end
end Go.Proofs.YtfhcnoancepgcaaGreatDoor.dig
