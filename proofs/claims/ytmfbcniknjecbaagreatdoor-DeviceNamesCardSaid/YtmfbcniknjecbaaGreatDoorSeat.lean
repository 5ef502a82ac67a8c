/- What the library functions that this seat calls do, and that a function without arguments that the evaluator answers with true returns true. Conditions: none beyond the stated premises. -/
import Derived.Test.YtmfbcniknjecbaaGreatDoorAb6
import Derived.Shelf.SlIter.Nil
import Derived.Shelf.SlIter.AllValues
import Derived.Shelf.SortM.Plain
import Derived.Shelf.SortM.SortNone
import Derived.Ground.GgzProg
import Derived.Ground.SlgmProg
import Derived.RangeFuncFrom
import Derived.Test.YtmfbcniknjecbaaGreatDoorProg
import Derived.KernelRfl
namespace Go.Proofs.YtmfbcniknjecbaaGreatDoor
open Go.RowKit Go.Maps Go.Sort Go.Shelf Go.Abs Go.Proofs
set_option linter.unusedVariables false

def keysA_ren : Go.Shelf.Ren := ⟨fun | 7 => 243 | 10 => 359 | n => n, fun | 23 => 39 | 26 => 9 | 3 => 222 | 28 => 352 | 0 => 0 | 27 => 351 | 33 => 180 | 4 => 4 | n => n, fun | n => n⟩
theorem keysA : Go.Proofs.SlLaysZ.n7 Tryz.prog keysA_ren where
  mixed := by kernel_rfl
  f7 := ⟨Tryz.f243.name, by decide, Tryz.func243.trans (congrArg some (by kernel_rfl))⟩
  f10 := ⟨Tryz.f359.name, by decide, Tryz.func359.trans (congrArg some (by kernel_rfl))⟩
  t0 := Tryz.underlying0
  a0 := Tryz.isAgg0
  z0 := Tryz.sizeOf0
  v0 := Tryz.zeroValue0
  t4 := Tryz.underlying4
  a4 := Tryz.isAgg4
  z4 := Tryz.sizeOf4
  v4 := Tryz.zeroValue4
  t23 := Tryz.underlying39
  a23 := Tryz.isAgg39
  z23 := Tryz.sizeOf39
  v23 := Tryz.zeroValue39
  t26 := Tryz.underlying9
  a26 := Tryz.isAgg9
  z26 := Tryz.sizeOf9
  v26 := Tryz.zeroValue9
  t27 := Tryz.underlying351
  a27 := Tryz.isAgg351
  z27 := Tryz.sizeOf351
  v27 := Tryz.zeroValue351
  t28 := Tryz.underlying352
  a28 := Tryz.isAgg352
  z28 := Tryz.sizeOf352
  v28 := Tryz.zeroValue352
  t33 := Tryz.underlying180
  a33 := Tryz.isAgg180
  z33 := Tryz.sizeOf180
  v33 := Tryz.zeroValue180
def sortedA_ren : Go.Shelf.Ren := ⟨fun | 6 => 242 | 8 => 357 | 9 => 358 | 11 => 445 | 13 => 208 | 12 => 446 | 23 => 327 | 24 => 328 | 14 => 508 | 15 => 509 | 16 => 510 | 17 => 511 | 18 => 512 | 19 => 513 | 20 => 514 | 21 => 515 | 22 => 516 | 25 => 566 | 26 => 423 | 27 => 424 | 28 => 567 | 29 => 568 | 30 => 356 | 31 => 604 | n => n, fun | 26 => 9 | 28 => 352 | 24 => 57 | 0 => 0 | 3 => 3 | 37 => 310 | 48 => 227 | 50 => 41 | 4 => 4 | 40 => 434 | 39 => 433 | 45 => 200 | 5 => 5 | 9 => 9 | 51 => 512 | 55 => 515 | 57 => 594 | 58 => 426 | 33 => 180 | n => n, fun | n => n⟩
theorem sortedA : Go.Proofs.SlLaysZ.n6 Tryz.prog sortedA_ren where
  mixed := by kernel_rfl
  f6 := ⟨Tryz.f242.name, by decide, Tryz.func242.trans (congrArg some (by kernel_rfl))⟩
  f8 := ⟨Tryz.f357.name, by decide, Tryz.func357.trans (congrArg some (by kernel_rfl))⟩
  f11 := ⟨Tryz.f445.name, by decide, Tryz.func445.trans (congrArg some (by kernel_rfl))⟩
  t0 := Tryz.underlying0
  a0 := Tryz.isAgg0
  z0 := Tryz.sizeOf0
  v0 := Tryz.zeroValue0
  t24 := Tryz.underlying57
  a24 := Tryz.isAgg57
  z24 := Tryz.sizeOf57
  v24 := Tryz.zeroValue57
  t26 := Tryz.underlying9
  a26 := Tryz.isAgg9
  z26 := Tryz.sizeOf9
  v26 := Tryz.zeroValue9
  t28 := Tryz.underlying352
  a28 := Tryz.isAgg352
  z28 := Tryz.sizeOf352
  v28 := Tryz.zeroValue352
  i26 := by kernel_rfl
def sortA_ren : Go.Shelf.Ren := ⟨fun | 6 => 358 | 8 => 208 | 9 => 446 | 19 => 327 | 20 => 328 | 21 => 508 | 22 => 509 | 23 => 510 | 24 => 511 | 25 => 512 | 26 => 513 | 27 => 514 | 28 => 515 | 29 => 516 | 36 => 566 | 31 => 423 | 32 => 424 | 37 => 567 | 38 => 568 | 39 => 356 | 41 => 604 | n => n, fun | 27 => 57 | 29 => 9 | 3 => 3 | 32 => 310 | 26 => 57 | 0 => 0 | 44 => 227 | 46 => 41 | 4 => 4 | 36 => 434 | 35 => 433 | 41 => 200 | 5 => 5 | 9 => 9 | 53 => 512 | 57 => 515 | 63 => 594 | 64 => 426 | n => n, fun | n => n⟩
theorem sortA : Go.Proofs.SlLaysM.n6 Tryz.prog sortA_ren where
  mixed := by kernel_rfl
  f6 := ⟨Tryz.f358.name, by decide, Tryz.func358.trans (congrArg some (by kernel_rfl))⟩
  f8 := Tryz.func208.trans (congrArg some (by kernel_rfl))
  f9 := ⟨Tryz.f446.name, by decide, Tryz.func446.trans (congrArg some (by kernel_rfl))⟩
  f19 := Tryz.func327.trans (congrArg some (by kernel_rfl))
  f20 := Tryz.func328.trans (congrArg some (by kernel_rfl))
  f21 := ⟨Tryz.f508.name, by decide, Tryz.func508.trans (congrArg some (by kernel_rfl))⟩
  f22 := ⟨Tryz.f509.name, by decide, Tryz.func509.trans (congrArg some (by kernel_rfl))⟩
  f23 := ⟨Tryz.f510.name, by decide, Tryz.func510.trans (congrArg some (by kernel_rfl))⟩
  f24 := ⟨Tryz.f511.name, by decide, Tryz.func511.trans (congrArg some (by kernel_rfl))⟩
  f25 := ⟨Tryz.f512.name, by decide, Tryz.func512.trans (congrArg some (by kernel_rfl))⟩
  f26 := ⟨Tryz.f513.name, by decide, Tryz.func513.trans (congrArg some (by kernel_rfl))⟩
  f27 := ⟨Tryz.f514.name, by decide, Tryz.func514.trans (congrArg some (by kernel_rfl))⟩
  f28 := ⟨Tryz.f515.name, by decide, Tryz.func515.trans (congrArg some (by kernel_rfl))⟩
  f29 := ⟨Tryz.f516.name, by decide, Tryz.func516.trans (congrArg some (by kernel_rfl))⟩
  f31 := Tryz.func423.trans (congrArg some (by kernel_rfl))
  f32 := Tryz.func424.trans (congrArg some (by kernel_rfl))
  f36 := ⟨Tryz.f566.name, by decide, Tryz.func566.trans (congrArg some (by kernel_rfl))⟩
  f37 := ⟨Tryz.f567.name, by decide, Tryz.func567.trans (congrArg some (by kernel_rfl))⟩
  f38 := ⟨Tryz.f568.name, by decide, Tryz.func568.trans (congrArg some (by kernel_rfl))⟩
  f39 := ⟨Tryz.f356.name, by decide, Tryz.func356.trans (congrArg some (by kernel_rfl))⟩
  f41 := ⟨Tryz.f604.name, by decide, Tryz.func604.trans (congrArg some (by kernel_rfl))⟩
  t0 := Tryz.underlying0
  a0 := Tryz.isAgg0
  z0 := Tryz.sizeOf0
  v0 := Tryz.zeroValue0
  t3 := Tryz.underlying3
  a3 := Tryz.isAgg3
  z3 := Tryz.sizeOf3
  v3 := Tryz.zeroValue3
  t4 := Tryz.underlying4
  a4 := Tryz.isAgg4
  z4 := Tryz.sizeOf4
  v4 := Tryz.zeroValue4
  t5 := Tryz.underlying5
  a5 := Tryz.isAgg5
  z5 := Tryz.sizeOf5
  v5 := Tryz.zeroValue5
  t9 := Tryz.underlying9
  a9 := Tryz.isAgg9
  z9 := Tryz.sizeOf9
  v9 := Tryz.zeroValue9
  t26 := Tryz.underlying57
  a26 := Tryz.isAgg57
  z26 := Tryz.sizeOf57
  v26 := Tryz.zeroValue57
  t27 := Tryz.underlying57
  a27 := Tryz.isAgg57
  z27 := Tryz.sizeOf57
  v27 := Tryz.zeroValue57
  t29 := Tryz.underlying9
  a29 := Tryz.isAgg9
  z29 := Tryz.sizeOf9
  v29 := Tryz.zeroValue9
  t32 := Tryz.underlying310
  a32 := Tryz.isAgg310
  z32 := Tryz.sizeOf310
  v32 := Tryz.zeroValue310
  t35 := Tryz.underlying433
  a35 := Tryz.isAgg433
  z35 := Tryz.sizeOf433
  v35 := Tryz.zeroValue433
  t36 := Tryz.underlying434
  a36 := Tryz.isAgg434
  z36 := Tryz.sizeOf434
  v36 := Tryz.zeroValue434
  t41 := Tryz.underlying200
  a41 := Tryz.isAgg200
  z41 := Tryz.sizeOf200
  v41 := Tryz.zeroValue200
  t44 := Tryz.underlying227
  a44 := Tryz.isAgg227
  z44 := Tryz.sizeOf227
  v44 := Tryz.zeroValue227
  t46 := Tryz.underlying41
  a46 := Tryz.isAgg41
  z46 := Tryz.sizeOf41
  v46 := Tryz.zeroValue41
  t53 := Tryz.underlying512
  a53 := Tryz.isAgg512
  z53 := Tryz.sizeOf512
  v53 := Tryz.zeroValue512
  t57 := Tryz.underlying515
  a57 := Tryz.isAgg515
  z57 := Tryz.sizeOf515
  v57 := Tryz.zeroValue515
  t63 := Tryz.underlying594
  a63 := Tryz.isAgg594
  z63 := Tryz.sizeOf594
  v63 := Tryz.zeroValue594
  t64 := Tryz.underlying426
  a64 := Tryz.isAgg426
  z64 := Tryz.sizeOf426
  v64 := Tryz.zeroValue426
theorem sortsA (m : Nat) : AnyZ.SortsIn Tryz.prog sortedA_ren Fence.wide m :=
  ⟨fun blk off cap ss W hH hblk hsz => callsIn_wide.2 (AnyM.slices_Sort_string sortA blk off cap ss W hH hblk hsz),
   fun p cap W => callsIn_wide.2 (AnyM.slices_Sort_string_none sortA p cap W)⟩

theorem sortedAt : SortedAt Tryz.prog 242 359 (keysA_ren.t 26) where
  key := by kernel_rfl
  body := by kernel_rfl
  all bm b nn D0 w hcell hlt hown hmax hbytes := by
    have hseq : SeqGives Fence.wide 2 Tryz.prog 359 #[.pointer (some ⟨bm, 0, none⟩)] encStr (fun ss => ss.Perm (strKeys D0)) (Maps.size D0) w :=
      AnyZ.keys_gives (ρ := keysA_ren) { keysA with } Fence.wide _ trivial rfl (by omega) bm b nn D0 w hlt hcell hown
    have cS := AnyZ.sorted_in sortedA Fence.wide 5 trivial trivial trivial trivial rfl (by omega) (sortsA _) (enters_of Tryz.func358 (by kernel_rfl) rfl) 359 #[.pointer (some ⟨bm, 0, none⟩)] trivial (enters_of Tryz.func359 (by kernel_rfl) rfl) _ _ hmax hbytes _ hseq
    change CallsIn _ _ Tryz.prog 242 _ _ _ at cS
    refine (callsIn_wide.1 cS).mono fun e w' h => ?_
    obtain ⟨v, ss, h1, h2, h3, h4, h5⟩ := h
    exact ⟨v, ss, _, h1, h2, h3, h4, h5⟩
  nil bm w hcell hlt := by
    have hseq : SeqGives Fence.wide 2 Tryz.prog 359 #[.pointer (some ⟨bm, 0, none⟩)] encStr (fun ss : List (List UInt8) => ss = []) 0 w :=
      AnyZ.keys_gives_nil (ρ := keysA_ren) { keysA with } Fence.wide _ trivial rfl bm w hlt hcell
    have cS := AnyZ.sorted_in sortedA Fence.wide 5 trivial trivial trivial trivial rfl (by omega) (sortsA _) (enters_of Tryz.func358 (by kernel_rfl) rfl) 359 #[.pointer (some ⟨bm, 0, none⟩)] trivial (enters_of Tryz.func359 (by kernel_rfl) rfl) _ 0 (Nat.zero_le _) (by omega) _ hseq
    change CallsIn _ _ Tryz.prog 242 _ _ _ at cS
    refine (callsIn_wide.1 cS).mono fun e w' h => ?_
    obtain ⟨v, ss, h1, h2, h3, h4, h5⟩ := h
    rw [h1, h4.2 h2]
    exact ⟨rfl, h5⟩

theorem ext98 : ExtOK Tryz.prog 430 Extern.BytealgCount.count := ⟨_, Tryz.func430, by kernel_rfl, by kernel_rfl, by kernel_rfl, by kernel_rfl⟩
theorem ext105 : ExtOK Tryz.prog 557 Extern.BytealgIndexByte.indexByte := ⟨_, Tryz.func557, by kernel_rfl, by kernel_rfl, by kernel_rfl, by kernel_rfl⟩


section
open Go.Proofs.Tryz
set_option maxRecDepth 100000 in
set_option maxHeartbeats 1000000 in
theorem values1_in (w0 : World) (F : Fence) (n : Nat) (h8 : F.fn 494) (hro : F.round = none) (hn : 1 ≤ n) (l Bm b nn : Nat) (D0 : DataW Value) (J Jx : List (File w0) → World → Prop)
    (hY : ∀ pre x W, J pre W → pre.length < Maps.size D0 → YieldAt F (n - 1) prog l #[encF x] W fun e W' =>
      (e = .returned (.bool true) ∧ J (pre ++ [x]) W' ∧ KeepsWalks W W') ∨ (e = .returned (.bool false) ∧ Jx (pre ++ [x]) W'))
    (W : World) (hJ : AbidesFrom W.heap.size J) (hm : W.cell? ⟨Bm, 0, none⟩ = some (.map (some b))) (hown : W.ownsMap prog 9 (relF w0) b nn D0) (h0 : J [] W) :
    CallsIn F n prog 494 #[.func (.yield l) #[] #[], .pointer (some ⟨Bm, 0, none⟩)] W fun e W' => (∃ v, e = .returned v) ∧
      ((∃ xs, (∃ ps : List (List UInt8 × File w0), (ps.map (·.1)).Perm (strKeys D0) ∧ (∀ p ∈ ps, ValAtF D0 p) ∧ xs = ps.map (·.2)) ∧ J xs W') ∨ (∃ pre, True ∧ Jx pre W')) := by
  have ks := string_keyed underlying9
  refine callsIn_of_wp func494 rfl h8 ?_ hro
  simp only [ntmps494, List.size_toArray, List.length_cons, List.length_nil, Nat.reduceAdd, Nat.reduceSub, Array.replicate_succ, Array.replicate_zero, List.push_toArray, List.append_toArray, List.nil_append, List.cons_append]
  gi_wp2_with (first
    | (gi_at_range; refine wpListIn_range_own _ rfl _ 39 rfl 9 222 (string_keyed underlying9) underlying39 _ b nn _ rfl hown ?_; intro w0' hrg0 hg0 hs0)
    | gi_in)
  go_frame
  gi_loopw [4] (fun _ wr => ∃ (left : Lit → Bool) (cnt : Nat) (ps : List (List UInt8 × File w0)), wr.ranges prog 9 (relF w0) b W.heap.size nn D0 left cnt ∧ ps.length + cnt ≤ Maps.size D0 ∧ Collected D0 left (ps.map (·.1)) ∧ (∀ p ∈ ps, ValAtF D0 p) ∧ J (ps.map (·.2)) wr)
    (fun _ wr => wr.rangeLeft b W.heap.size)
  case atStart =>
    exact ⟨_, _, [], hrg0, by simp, Collected.start D0, by simp, hJ [] W w0' none h0 hg0 (fun r e => by cases e)⟩
  case round =>
    obtain ⟨left, cnt, ps, hrg, hcs, hC, hV, hJs⟩ := hrel
    gi_wp2_with (first
      | (gi_at_next; refine wpListIn_next_ranges _ rfl _ rfl 9 (string_keyed underlying9) (relF w0) encStr encF (fun key kl hk => by obtain ⟨x, hx, _⟩ := Maps.keyOf_str underlying9 hk; exact ⟨x, hx⟩) relF_inv b W.heap.size nn _ _ _ rfl hrg ?_ ?_)
      | gi_in)
    · -- NOTHING IS LEFT
      intro hc0 hl0
      gi_wp2
      go_end0
      exact ⟨⟨_, rfl⟩, .inl ⟨_, ⟨ps, hC.perm hown (string_keyed underlying9) underlying9 hl0, hV, rfl⟩, hJs⟩⟩
    · -- AN ENTRY HAS COME: yield(v)
      intro x ca cp kl yd yp w2 cnt2 hkey hlk hv hat hrg2 hlt hg2 hs2 hen
      obtain ⟨x', ex, rfl, _⟩ := Maps.keyOf_str underlying9 hkey
      obtain rfl : x = x' := encStr_inj ex
      have hat' : ∀ zd, D0.atKey (.string x) zd = .held (encF (w := w0) ⟨ca, cp⟩) := fun zd => by have := congrArg Prod.fst (relF_eq hv); rw [hat zd]; exact this
      have hJ2 : J (ps.map (·.2)) w2 := hJ _ wr w2 (some W.heap.size) hJs hg2 (fun r e => by cases e; exact ⟨Nat.le_refl _, hrg.iter_walk⟩)
      obtain ⟨fn, tmps, assign, body, hy, hR⟩ := hY (ps.map (·.2)) ⟨ca, cp⟩ w2 hJ2 (by simp; omega)
      clear hs2
      gi_wp2
      refine hR.mono ?_
      have hC2 : Collected D0 (fun z => left z && !z.sameKey (.string x)) ((ps ++ [(x, (⟨ca, cp⟩ : File w0))]).map (·.1)) := by simpa using hC.step hlk hat
      have hV2 : ∀ p ∈ ps ++ [(x, (⟨ca, cp⟩ : File w0))], ValAtF D0 p := fun p hp => (List.mem_append.1 hp).elim (hV p) (fun e => by simp at e; subst e; exact hat')
      rintro e W3 (⟨rfl, hJ3, hk3⟩ | ⟨rfl, hJx3⟩)
      · gi_wp2
        have hrg3 := hrg2.of_walks hk3
        go_roundw
        case rel => exact ⟨_, cnt2, ps ++ [(x, (⟨ca, cp⟩ : File w0))], hrg3, by simp; omega, hC2, hV2, by simpa using hJ3⟩
        case measure => rw [hrg3.left_eq, hrg.left_eq]; exact hlt
      · gi_wp2
        refine bodyPost_ret (results_none rfl _ _ _) rfl ?_
        exact ⟨⟨_, rfl⟩, .inr ⟨_, trivial, hJx3⟩⟩


set_option maxHeartbeats 1000000 in
theorem values_in (F : Fence) (n : Nat) (hf : F.fn 421) (hro : F.round = none) (mb : Option Nat) (w : World) :
    CallsIn F n prog 421 #[.map mb] w fun e w' => e = .returned (.func (.func 494) #[] #[.pointer (some ⟨w.heap.size, 0, none⟩)]) ∧ w' = w.alloc (.cells #[.map mb] 39) := by
  refine callsIn_of_wp func421 rfl hf ?_ hro
  simp only [ntmps421, List.size_toArray, List.length_cons, List.length_nil, Nat.reduceAdd, Nat.reduceSub, Array.replicate_succ, Array.replicate_zero, List.push_toArray, List.append_toArray, List.nil_append, List.cons_append]
  gi_wp2
  go_ret
  exact ⟨rfl, rfl⟩

theorem values_stops (w0 : World) (F : Fence) (n : Nat) (h7 : F.fn 494) (hro : F.round = none) (hn : 1 ≤ n) (Bm b nn : Nat) (D0 : DataW Value) (w : World) (hBm : Bm < w.heap.size)
    (hm : w.cell? ⟨Bm, 0, none⟩ = some (.map (some b))) (hown : w.ownsMap prog 9 (relF w0) b nn D0) :
    SeqStops F n prog 494 #[.pointer (some ⟨Bm, 0, none⟩)] (encF (w := w0)) (AllF D0) (fun _ => True) (Maps.size D0) w := fun l J Jx W hW hJ _ hY h0 => by
  have hown' : W.ownsMap prog 9 (relF w0) b nn D0 := by
    have hbl := hown.lt
    obtain ⟨es, clock, hb, Ft, hs, hD⟩ := hown
    exact ⟨es, clock, (hW.block b hbl).trans hb, Ft, hs, hD⟩
  exact values1_in w0 F n h7 hro hn l Bm b nn D0 J Jx hY W hJ ((hW.cell (p := ⟨Bm, 0, none⟩) hBm).trans hm) hown' h0


/-- The loop's one region. -/
def regionsOf : Code → List (Array Oper)
  | .region _ ops true => [ops]
  | .seq a b => regionsOf a ++ regionsOf b
  | .block _ c => regionsOf c
  | .rangeFunc _ _ a b => regionsOf a ++ regionsOf b
  | _ => []
noncomputable def ops4 : Array Oper := ((f317.body.map regionsOf).getD []).headD #[]
noncomputable def R0 : Rec := evN prog (fun _ _ _ => none) 0
theorem R0_ok : RecOK prog 0 R0 := evN_sound (fun _ _ _ _ _ _ _ _ _ _ _ hs => by cases hs) 0
noncomputable def h4 (S : Int) (sv : AV) : AH := { tr := (Tr.set (Tr.set .nil 0 (some (.cells [.int .i64 S] true false))) 1 (some (.cells [sv] false false))), nx := 3 }
noncomputable def env4 : Env := Tr.set (Tr.set .nil 3 (some (.ptr 0 0))) 4 (some (.ptr 1 0))
theorem ev4 (S : Int) (nl : Nat) : (evDraw prog R0 19 ops4 env4 (h4 S (.sl 2 0 nl 1 none))).map (fun r => r.2.get 0) = some (some (.cells [.int .i64 (IntKind.i64.wrap (S + Int.ofNat nl))] true false)) := by kernel_rfl
theorem ev4n (S : Int) : (evDraw prog R0 19 ops4 env4 (h4 S .nilsl)).map (fun r => r.2.get 0) = some (some (.cells [.int .i64 (IntKind.i64.wrap (S + 0))] true false)) := by kernel_rfl


/-- One round: the file's length is added. -/
theorem round4 (l nb : Nat) (S : Int) (blk off : Nat) (base : Option Addr) (nl cap : Nat) (a : Act) (W : World) (Q : Exit → Act → World → Prop)
    (hsz : a.tmps.size = 19) (ht3 : a.tmps[3]? = some (.pointer (some ⟨nb, 0, none⟩))) (ht4 : a.tmps[4]? = some (.pointer (some ⟨blk, off, none⟩))) (hne : blk ≠ nb)
    (hn : ∃ ty, W.heap[nb]? = some (.cells #[.int .i64 S] ty (0, 0))) (hx : W.cell? ⟨blk, off, none⟩ = some (.slice base nl cap)) (hs : (base = none ∧ nl = 0 ∧ cap = 0) ∨ ∃ c, base = some c ∧ nl ≤ cap ∧ (cap = 0 ∨ c.spot = none))
    (hQ : ∀ a' W', (∃ ty, W'.heap[nb]? = some (.cells #[.int .i64 (IntKind.i64.wrap (S + Int.ofNat nl))] ty (0, 0))) → W'.os = W.os → W'.tape = W.tape → W'.output = W.output → W.heap.size ≤ W'.heap.size → (∀ b, b < W.heap.size → b ≠ nb → W'.heap[b]? = W.heap[b]?) → Q .normal a' W') :
    (Code.region 4 ops4 true).wpIn (Wd (some l)) 0 prog Q a W := by
  obtain ⟨ty, hn⟩ := hn
  have hnlt : nb < W.heap.size := (Array.getElem?_eq_some_iff.1 hn).1
  obtain ⟨c, ty2, fr2, hb, hbc⟩ : ∃ c ty2 fr2, W.heap[blk]? = some (.cells c ty2 fr2) ∧ c[off]? = some (.slice base nl cap) := by
    unfold World.cell? at hx
    split at hx
    · rename_i c ty2 fr2 hh
      exact ⟨c, ty2, fr2, hh, by simpa using hx⟩
    · cases hx
  have hoff : off < c.size := (Array.getElem?_eq_some_iff.1 hbc).1
  have hblt : blk < W.heap.size := (Array.getElem?_eq_some_iff.1 hb).1
  let K : Kp := { os := W.os, tape := W.tape, output := W.output, size := nb, at_ := fun b => if b = nb then none else W.heap[b]?, ro := fun b => decide (b ≠ nb) && decide (b < W.heap.size),
                  roAt := fun b hb => by simp only [Bool.and_eq_true, decide_eq_true_eq] at hb; simp [hb.1, hb.2] }
  obtain ⟨sv, q, hsv, hev⟩ : ∃ (sv : AV) (q : Pl), (∀ ρ : Pm, ρ 2 = some q → VR ρ sv (.slice base nl cap)) ∧ (evDraw prog R0 19 ops4 env4 (h4 S sv)).map (fun r => r.2.get 0) = some (some (.cells [.int .i64 (IntKind.i64.wrap (S + Int.ofNat nl))] true false)) := by
    rcases hs with ⟨rfl, rfl, rfl⟩ | ⟨c, rfl, h1, h2⟩
    · exact ⟨.nilsl, ⟨0, 0, 0⟩, fun _ _ => .nilsl, ev4n S⟩
    · obtain ⟨cb, co, cs⟩ := c
      refine ⟨.sl 2 0 nl 1 none, ⟨cb, co, co + cap⟩, fun ρ hρ => .sl hρ h1 ?_ (.inr (by simp)) (fun n hn => by cases hn), ev4 S nl⟩
      rcases h2 with h2 | h2
      · exact .inl h2
      · simp only at h2; subst h2; exact .inr rfl
  let ρ : Pm := fun id => if id = 0 then some ⟨nb, 0, 1⟩ else if id = 1 then some ⟨blk, off, off + 1⟩ else if id = 2 then some q else none
  have hg0 : ∀ id o, (h4 S sv).get id = some o → (id = 0 ∧ o = .cells [.int .i64 S] true false) ∨ (id = 1 ∧ o = .cells [sv] false false) := fun id o hg => by
    unfold AH.get h4 at hg
    rw [Tr.get_set, Tr.get_set] at hg
    split at hg
    · rename_i e; exact .inr ⟨e, (Option.some.inj hg).symm⟩
    · split at hg
      · rename_i e; exact .inl ⟨e, (Option.some.inj hg).symm⟩
      · (rw [Tr.get_nil] at hg; cases hg)
  have hRel : Abs.Rel K ρ (h4 S sv) W := by
    refine ⟨rfl, rfl, rfl, Nat.le_of_lt hnlt, fun b o hbo => ?_, fun id hid => ?_, fun id o hg => ?_, ?_⟩
    · simp only [K] at hbo; split at hbo
      · cases hbo
      · exact hbo
    · have : 3 ≤ id := hid
      simp only [ρ]
      rw [if_neg (by omega), if_neg (by omega), if_neg (by omega)]
    · rcases hg0 id o hg with ⟨rfl, rfl⟩ | ⟨rfl, rfl⟩
      · refine ⟨⟨nb, 0, 1⟩, rfl, ⟨#[.int .i64 S], ty, (0, 0), hn, rfl, by simp, fun i b hi => ?_, fun _ => .inl rfl, fun _ _ => ⟨rfl, by simp, rfl⟩⟩, fun _ => ⟨by simp [K], Nat.le_refl _⟩, (fun h => by cases h)⟩
        have : i = 0 := by cases i with
          | zero => rfl
          | succ i => simp at hi
        subst this
        simp at hi; subst hi
        exact ⟨.int .i64 S, by simp, .int _ _⟩
      · refine ⟨⟨blk, off, off + 1⟩, rfl, ⟨c, ty2, fr2, hb, (by simp; omega), by simp, fun i b hi => ?_, (fun h => by cases h), (fun h => by cases h)⟩, (fun h => by cases h), fun _ => ?_⟩
        · have : i = 0 := by cases i with
            | zero => rfl
            | succ i => simp at hi
          subst this
          simp at hi; subst hi
          exact ⟨_, hbc, hsv ρ rfl⟩
        · simp [K, hne, hblt]
    · intro i j oi oj pi pj hi hj ho1 ho2 _ _ _
      rcases hg0 i oi hi with ⟨rfl, rfl⟩ | ⟨rfl, rfl⟩
      · rcases hg0 j oj hj with ⟨rfl, rfl⟩ | ⟨rfl, rfl⟩
        · rfl
        · cases ho2
      · cases ho1
  have hER : ER ρ env4 19 a.tmps := by
    refine ⟨hsz, fun i b hi => ?_⟩
    unfold env4 at hi
    rw [Tr.get_set, Tr.get_set] at hi
    split at hi
    · rename_i e; subst e
      cases hi
      exact ⟨_, ht4, by have := VR.ptr (ρ := ρ) (id := 1) (off := 0) (p := ⟨blk, off, off + 1⟩) rfl; simpa using this⟩
    · split at hi
      · rename_i e; subst e
        cases hi
        exact ⟨_, ht3, by have := VR.ptr (ρ := ρ) (id := 0) (off := 0) (p := ⟨nb, 0, 1⟩) rfl; simpa using this⟩
      · (rw [Tr.get_nil] at hi; cases hi)
  cases hd : evDraw prog R0 19 ops4 env4 (h4 S sv) with
  | none => rw [hd] at hev; cases hev
  | some r =>
    obtain ⟨t', h'⟩ := r
    rw [hd] at hev
    simp only [Option.map_some, Option.some.injEq] at hev
    refine wpIn_region_draw fun T => drawOK R0_ok K ρ _ a (some l) 19 ops4 env4 t' (h4 S sv) h' [] T Q (hRel.drawn _) hER hd fun ρ' a' W' hE hR' _ _ => ?_
    have h0 : ρ' 0 = some ⟨nb, 0, 1⟩ := hE.le 0 _ rfl
    obtain ⟨p, hp, ⟨c', e', fr', g1, g2, g3, g4, g5, g6⟩, _⟩ := hR'.obj 0 _ hev
    rw [h0] at hp; cases hp
    simp only [if_true] at g2
    obtain ⟨v, hv, hvr⟩ := g4 0 _ rfl
    cases hvr
    have hc' : c' = #[.int .i64 (IntKind.i64.wrap (S + Int.ofNat nl))] := by
      apply Array.ext
      · rw [g2]; rfl
      · intro i h1 h2
        have : i = 0 := by rw [g2] at h1; simp at h1; omega
        subst this
        have := (Array.getElem?_eq_some_iff.1 hv).2
        simpa using this
    have hfr := (g6 rfl rfl).1
    subst hc'; subst hfr
    have hkeep : ∀ b, b < W.heap.size → b ≠ nb → W'.heap[b]? = W.heap[b]? := fun b h1 h2 => by
      have : W.heap[b]? = some W.heap[b] := by simp
      rw [this]
      exact hR'.keep b _ (by simp only [K, if_neg h2]; exact this)
    refine hQ a' W' ⟨_, g1⟩ hR'.os hR'.tape hR'.output ?_ hkeep
    refine Nat.le_of_not_lt fun hlt => ?_
    have h1 : W'.heap[W'.heap.size]? = none := by simp
    by_cases e : W'.heap.size = nb
    · rw [e] at h1; rw [h1] at g1; cases g1
    · rw [hkeep _ hlt e] at h1
      have : W.heap[W'.heap.size]? = some (W.heap[W'.heap.size]'hlt) := by simp
      rw [this] at h1; cases h1

set_option maxRecDepth 100000 in
set_option maxHeartbeats 2000000 in
theorem used_in (tb to b nn : Nat) (D0 : DataW Value) (w : World) (hcell : w.cell? ⟨tb, to + 2, none⟩ = some (.map (some b))) (hown : w.ownsMap prog 9 (relF w) b nn D0) :
    CallsIn Fence.wide 2 prog 317 #[.pointer (some ⟨tb, to, none⟩)] w fun e W' =>
      (∃ xs : List (File w), AllF D0 xs ∧ e = .returned (.int .i64 (wrap64 ((xs.map lenF).sum)))) ∧ Below w.heap.size w W' := by
  obtain ⟨F, hF⟩ : ∃ F, Fence.wide = F := ⟨_, rfl⟩
  rw [hF]
  have h3 : F.fn 317 := by rw [← hF]; trivial
  have h4 : F.fn 421 := by rw [← hF]; trivial
  have h5 : F.fn 494 := by rw [← hF]; trivial
  have hro : F.round = none := by rw [← hF]; rfl
  have hbl := hown.lt
  have htl : tb < w.heap.size := by
    unfold World.cell? at hcell
    split at hcell
    · rename_i hh; exact (Array.getElem?_eq_some_iff.1 hh).1
    · cases hcell
  refine callsIn_of_wp_marks func317 rfl h3 ?_ hro
  simp only [ntmps317, List.size_toArray, List.length_cons, List.length_nil, Nat.reduceAdd, Nat.reduceSub, Array.replicate_succ, Array.replicate_zero, List.push_toArray, List.append_toArray, List.nil_append, List.cons_append]
  gi_wp2_with (gi_at_call 421; refine (values_in F (2 - 1) h4 hro _ _).mono ?_; rintro e w' ⟨rfl, rfl⟩)
  obtain ⟨W0, hW0⟩ : ∃ W0, (w.alloc (.cells #[.int .i64 0] 3)).alloc (.cells #[.map (some b)] 39) = W0 := ⟨_, rfl⟩
  have hs0 : W0.heap.size = w.heap.size + 2 := by rw [← hW0]; simp
  have hB1 : W0.heap[w.heap.size]? = some (.cells #[.int .i64 0] 3 (0, 0)) := by
    rw [← hW0]; exact (Below.heap_alloc _ _ _ (by simp)).trans (World.alloc_heap_new w _)
  have hB2 : W0.heap[w.heap.size + 1]? = some (.cells #[.map (some b)] 39 (0, 0)) := by
    rw [← hW0]; have := World.alloc_heap_new (w.alloc (.cells #[.int .i64 0] 3)) (.cells #[.map (some b)] 39); rwa [World.size_alloc] at this
  have hown0 : W0.ownsMap prog 9 (relF w) b nn D0 := by
    obtain ⟨es, clock, hb, Ft, hs, hD⟩ := hown
    exact ⟨es, clock, (by rw [← hW0]; exact (Below.heap_alloc _ _ b (by simp; omega)).trans (Below.heap_alloc _ _ b hbl) : W0.heap[b]? = w.heap[b]?).trans hb, Ft, hs, hD⟩
  have hBW : Below w.heap.size w W0 := by rw [← hW0]; exact ((Below.refl _ w).alloc (Nat.le_refl _) _).alloc (by simp) _
  have c1 : W0.cell? ⟨w.heap.size, 0, none⟩ = some (.int .i64 0) := by simp [World.cell?, hB1]
  have c2 : W0.cell? ⟨w.heap.size + 1, 0, none⟩ = some (.map (some b)) := by simp [World.cell?, hB2]
  have f1 : W0.frozen? ⟨w.heap.size, 0, none⟩ = false := by simp [World.frozen?, hB1]
  rw [hW0]
  refine wpIn_rangeFunc_ownF hro (by omega) (gf := 494) (lb := #[.pointer (some ⟨w.heap.size + 1, 0, none⟩)]) rfl h5 (enters_of func494 (by kernel_rfl) rfl)
    (values_stops w F (2 - 1) h5 hro (by omega) (w.heap.size + 1) b nn D0 W0 (by omega) c2 hown0) walksK_t walksK_b (Below.refl _ _) (fun _ => rfl)
    (fun pre W => (∃ ty, W.heap[w.heap.size]? = some (.cells #[.int .i64 (wrap64 ((pre.map lenF).sum))] ty (0, 0))) ∧ Below w.heap.size w W)
    (fun c pre W => False)
    (OwnFrom.and (Own.from (fun s A B row hs hg hr => ⟨hs.choose, (grownBy_keeps_cells hg hr hs.choose_spec rfl).trans hs.choose_spec⟩) _) (ownFrom_below (Nat.le_refl _) (by omega)))
    (fun c s A B row hs hg hr => hs.elim)
    ⟨⟨3, by rw [hB1]; simp [wrap64]⟩, hBW⟩
    (fun x => { tmps := #[.pointer (some ⟨tb, to, none⟩), undef, .int .i64 0, .pointer (some ⟨w.heap.size, 0, none⟩), encF x, .pointer (some ⟨tb, to, none⟩), .pointer (some ⟨tb, to, none⟩), .pointer (some ⟨tb, to + 2, none⟩), .map (some b), .func (.func 494) #[] #[.pointer (some ⟨w.heap.size + 1, 0, none⟩)], encF x, undef, undef, undef, undef, undef, undef, undef, undef], defers := [] }) ?assign ?body ?done ?stop
  case assign =>
    intro l x W K hK
    gi_wp2_with (rw [Oper.semAt_eq _ _ _ (fun c h => by cases h)]; go_simp; try go_bits)
    exact hK
  case body =>
    rintro l pre x W ⟨hcr, hB⟩ _
    obtain ⟨⟨blk, off, sp⟩, hlt, hsp, base, nl, cap, hxc, hxs⟩ := x
    simp only at hsp hlt
    subst hsp
    have hxW : W.cell? ⟨blk, off, none⟩ = some (.slice base nl cap) := (hB.cell (p := ⟨blk, off, none⟩) hlt).trans hxc
    have hlen : lenF (w := w) ⟨⟨blk, off, none⟩, hlt, rfl, base, nl, cap, hxc, hxs⟩ = (nl : Int) := by simp [lenF, hxc]
    subst hF
    refine wpIn_block ?_
    obtain ⟨ty, hcn⟩ : ∃ ty, W.heap[w.heap.size]? = some (.cells #[.int .i64 (wrap64 ((pre.map lenF).sum))] ty (0, 0)) := hcr
    refine round4 l w.heap.size (wrap64 ((pre.map lenF).sum)) blk off base nl cap _ W _ rfl rfl rfl (Nat.ne_of_lt hlt) ⟨ty, hcn⟩ hxW hxs fun a' W' hn' ho1 ho2 ho3 hs' hk' => ?_
    refine ⟨⟨hs', fun k o hk ho => ?_⟩, ⟨hs', fun k o hk ho => ?_⟩, ?_, ⟨ho1.trans hB.os, ho2.trans hB.tape, ho3.trans hB.output, Nat.le_trans hB.size hs', fun k hk => ?_⟩⟩
    · have hkl := (Array.getElem?_eq_some_iff.1 hk).1
      have hne : k ≠ w.heap.size := fun e => by rw [e, hcn] at hk; cases hk; cases ho
      rw [hk' k hkl hne]; exact hk
    · have hkl := (Array.getElem?_eq_some_iff.1 hk).1
      have hne : k ≠ w.heap.size := fun e => by rw [e, hcn] at hk; cases hk; cases ho
      rw [hk' k hkl hne]; exact hk
    · obtain ⟨ty', hn'⟩ := hn'
      refine ⟨ty', ?_⟩
      rw [hn', List.map_append, List.sum_append]
      simp only [List.map_cons, List.map_nil, List.sum_cons, List.sum_nil, hlen]
      congr 3
      have : IntKind.i64.wrap (wrap64 (List.map lenF pre).sum + Int.ofNat nl) = wrap64 ((List.map lenF pre).sum + (nl + 0)) := by
        have hw : ∀ z : Int, IntKind.i64.wrap z = wrap64 z := fun z => by simp [wrap64, IntKind.wrap, IntKind.bits, IntKind.signed]; try omega
        rw [hw]
        unfold wrap64
        simp only [Int.ofNat_eq_natCast]
        omega
      rw [this]
    · rw [hk' k (by have := hB.size; omega) (by omega)]; exact hB.block k hk
  case done =>
    rintro D xs W hD hall ⟨⟨ty, hcr⟩, hB⟩ hK
    have hcr' : W.cell? ⟨w.heap.size, 0, none⟩ = some (.int .i64 (wrap64 ((xs.map lenF).sum))) := by simp [World.cell?, hcr]
    gi_wp2
    refine ⟨by simp, .inl ⟨_, _, rfl, run_takeDeferred hK, ?_⟩⟩
    refine ⟨.int .i64 (wrap64 ((xs.map lenF).sum)), ?_, ⟨xs, hall, rfl⟩, hB.trans (belowK_b (w := w) (Nat.le_refl _) _ D _ _ (by omega) hK rfl rfl)⟩
    simp [results, f317, go_sem]
  case stop =>
    rintro D c pre W hD _ h hK
    exact h.elim

end
theorem usedAt : UsedAt Tryz.prog 317 9 where
  key := by kernel_rfl
  body := by kernel_rfl
  used tb to b nn D0 w h1 h2 := callsIn_wide.1 (used_in tb to b nn D0 w h1 h2)

noncomputable def sums : Sums := fun f args h =>
  cond (Nat.beq f 430) (sumCount args h) <|
  cond (Nat.beq f 557) (sumIndex args h) <|
  cond (Nat.beq f 242) (sumSorted 359 args h) <|
  cond (Nat.beq f 317) (sumUsed args h) none

theorem sums_ok : SumsOK Tryz.prog sums := by
  intro K ρ h w f args cargs v h' hR hv hs
  unfold sums at hs
  by_cases h1 : f = 430
  · subst h1; exact sumCount_ok ext98 hR hv hs
  by_cases h2 : f = 557
  · subst h2; exact sumIndex_ok ext105 hR hv hs
  have h3 : True := trivial
  by_cases h4 : f = 242
  · subst h4; exact sumSorted_ok sortedAt hR hv hs
  by_cases h5 : f = 317
  · subst h5; exact sumUsed_ok usedAt hR hv hs
  simp only [nbeq, h1, h2, h3, h4, h5, decide_false, cond_false] at hs
  cases hs

def isTrue : Option (AV × AH) → Bool
  | some (.bool true, _) => true
  | _ => false

theorem isTrue_eq {r : Option (AV × AH)} (h : isTrue r = true) : ∃ h', r = some (.bool true, h') := by
  unfold isTrue at h
  split at h
  · exact ⟨_, rfl⟩
  · cases h

/-- What a function without arguments answers, by the evaluator. -/
theorem closed_walk {S : Sums} (hS : SumsOK Tryz.prog S) {f : FuncId} {k : Nat} (hb : bodied Tryz.prog f = true) (hrun : isTrue ((fN Tryz.prog S k).call f [] { tr := .nil, nx := 0 }) = true) (w : World) :
    Calls Tryz.prog f #[] w fun e w' => e = .returned (.bool true) ∧ Below w.heap.size w w' := by
  rw [fN_eq] at hrun
  obtain ⟨h', hc⟩ := isTrue_eq hrun
  exact walk_of_run hS hb (rel_empty w) (avs := []) .nil ⟨k, _, _, hc, rfl⟩

end Go.Proofs.YtmfbcniknjecbaaGreatDoor
