/- The law DeviceNames holds: called in whatever memory, the Go function returns true and turns nothing that lay before. Conditions: none but that the listed tables and variables hold what the text lays (the card ties them). -/
import Derived.Test.YtmfbcniknjecbaaGreatDoorDeviceNamesLa
import Derived.Test.YtmfbcniknjecbaaGreatDoorDeviceNamesLc
import Derived.Test.YtmfbcniknjecbaaGreatDoorDeviceNamesLg
import Derived.Test.YtmfbcniknjecbaaGreatDoorDeviceNamesLm
import Derived.Test.YtmfbcniknjecbaaGreatDoorDeviceNamesCa
import Derived.Test.YtmfbcniknjecbaaGreatDoorDeviceNamesCb
import Derived.Test.YtmfbcniknjecbaaGreatDoorDeviceNamesCc
import Derived.Test.YtmfbcniknjecbaaGreatDoorDeviceNamesCd
import Derived.Test.YtmfbcniknjecbaaGreatDoorDeviceNamesCl
import Derived.Test.YtmfbcniknjecbaaGreatDoorDeviceNamesCg
import Derived.JoinedOf
import Derived.Test.YtmfbcniknjecbaaGreatDoorDeviceNamesXa
import Derived.Test.YtmfbcniknjecbaaGreatDoorDeviceNamesRun
import Derived.Test.YtmfbcniknjecbaaGreatDoorCards
import Derived.Test.YtmfbcniknjecbaaGreatDoorTieE
import Derived.Test.YtmfbcniknjecbaaGreatDoorDeviceNamesJ1
import Derived.Test.YtmfbcniknjecbaaGreatDoorDeviceNamesJ5
import Derived.Test.YtmfbcniknjecbaaGreatDoorDeviceNamesJ6
import Derived.Test.YtmfbcniknjecbaaGreatDoorDeviceNamesJ8
import Derived.Test.YtmfbcniknjecbaaGreatDoorDeviceNamesJ9
import Derived.Test.YtmfbcniknjecbaaGreatDoorDeviceNamesWa
import Derived.Test.YtmfbcniknjecbaaGreatDoorDeviceNamesWb
import Derived.Test.YtmfbcniknjecbaaGreatDoorDeviceNamesWc
import Derived.Test.YtmfbcniknjecbaaGreatDoorDeviceNamesWd
import Derived.Test.YtmfbcniknjecbaaGreatDoorDeviceNamesWe
import Derived.Test.YtmfbcniknjecbaaGreatDoorDeviceNamesXb
import Derived.WalkKit
import Derived.ProofKit
import Derived.OpenShut
import Derived.LaidMore
import Derived.Lay
import Derived.SevenTiedAt
import Derived.Stop.Joined

section
namespace Go.Proofs.YtmfbcniknjecbaaGreatDoor.deviceNames
open Go
set_option maxRecDepth 100000
theorem tyAll : (List.range 730).all (rowFine Tryz.prog) = true := by
  rw [List.all_eq_true]
  intro t ht
  have h := List.mem_range.1 ht
  have c : ((0 ≤ t ∧ t < 183) ∨ (183 ≤ t ∧ t < 366) ∨ (366 ≤ t ∧ t < 549) ∨ (549 ≤ t ∧ t < 730)) := by omega
  rcases c with ha | hb | hc | hd
  · exact List.all_eq_true.1 tya t (List.mem_range'_1.2 ⟨by omega, by omega⟩)
  · exact List.all_eq_true.1 tyb t (List.mem_range'_1.2 ⟨by omega, by omega⟩)
  · exact List.all_eq_true.1 tyc t (List.mem_range'_1.2 ⟨by omega, by omega⟩)
  · exact List.all_eq_true.1 tyd t (List.mem_range'_1.2 ⟨by omega, by omega⟩)
theorem j1 : (laidOutB Tryz.prog) = true := by
  unfold laidOutB
  rw [tySize, tyAll, tyGlob, tyPar]
  rfl
end Go.Proofs.YtmfbcniknjecbaaGreatDoor.deviceNames
end

section
namespace Go.Proofs.YtmfbcniknjecbaaGreatDoor.deviceNames
open Go
set_option maxRecDepth 100000
theorem j9 : ((Rows.deviceNamesRow.inPlace == Tryz.prog.inPlace 3)) = true := by
  unfold Program.inPlace
  rw [cl]
  simp only [List.filterMap_append, ina, inb, inc, ind]
  kernel_rfl
theorem j12 : ((Rows.deviceNamesRow.named == Tryz.prog.varsNamed 3)) = true := by
  unfold Program.varsNamed
  rw [cl]
  simp only [List.flatMap_append, List.filterMap_append, gla, glb, glc, gld, eya, eyb, eyc, eyd]
  kernel_rfl
theorem goesF : Tryz.prog.goes 3 = false := by
  unfold Program.goes
  rw [cl]
  simp only [List.any_append, goa, gob, goc, god, goAll, Bool.or_false, Bool.and_false]
end Go.Proofs.YtmfbcniknjecbaaGreatDoor.deviceNames
end

section
namespace Go.Proofs.YtmfbcniknjecbaaGreatDoor.deviceNames
open Go
set_option maxRecDepth 100000
theorem goes_of {P : Program} {c : OpenClaim} {f : FuncId} (hs : c.start = .entering) (hn : P.funcNamed c.func = some f) (hg : P.goes f = false) : false = c.goesBy P := by
  unfold OpenClaim.goesBy Program.goesAt Program.goesFrom
  rw [hn, hs]
  simp [hg]
theorem xg : false = Rows.deviceNamesRow.goesBy Tryz.checked.prog := goes_of (P := Tryz.prog) rfl xn goesF
end Go.Proofs.YtmfbcniknjecbaaGreatDoor.deviceNames
end

section
namespace Go.Proofs.YtmfbcniknjecbaaGreatDoor.deviceNames
open Go.ChangeShapes Go.WideShapes Go.ChangeAt Go.RowKit
set_option maxRecDepth 100000
set_option linter.unusedVariables false
theorem walk (w : World) : Calls Tryz.prog 3 #[] w fun e w' => e = .returned (.bool true) ∧ Below w.heap.size w w' :=
  closed_walk (k := 3000) sums_ok (by kernel_rfl) run w
set_option maxHeartbeats 10000000 in
theorem lifted (os : Os) (started : os.Started) (H : Type) (enc : TypeId × Value → H) :
    ReturnsInHanded {} Tryz.checked os 3 .any (fun w args => (Rows.deviceNamesSpec.pre enc Tryz.prog Tryz.f3 Rows.deviceNamesRow.domain false w args ∧ laidMetH Tryz.prog laid w) ∧ sizedMet enc Tryz.prog Tryz.f3 (OpenSpec.ofChange Rows.deviceNamesSpec) false w args)
      (Rows.deviceNamesSpec.post enc Tryz.prog Tryz.f3 false true false false) := by
  refine returnsInHanded_of_change_and (C := Tryz.checked) (X := fun w _ => laidMetH Tryz.prog laid w) (fun _ _ _ hh h => h.of_heap hh) own started noInit Tryz.func3
    (ChangeSpec.witness_shaped (enc := enc) (C := Tryz.checked) (os := os) (X := fun w _ => laidMetH Tryz.prog laid w) false (World.laidAll Tryz.prog os laid) #[] 8 (World.laidAll_os _ _ _)
      (World.shaped_of_ZipB (wv os) (wr os)) (wk os) (wp os H enc) (ws os H enc)
      (by rw [MakeChecks.laidMetH_plain _ _ _ plainL]; exact laidMet_laidAll _ (wf os) (wi os))) ?_
  intro W base args ds gs before hval0 hW hc _ hL _
  have hW' := hW
  obtain ⟨p, q, hA0, hV, rfl, _, _⟩ := hW
  have hA : DataW.TrodAll enc Tryz.prog W 0 (fun _ => true) true Tryz.f3.params.toList args.toList ds p := hA0
  rw [Tryz.params3] at hA
  obtain ⟨rfl, rfl, rfl⟩ := trodAll_none hA
  obtain ⟨rfl, rfl⟩ := trodVars_none hV
  simp only [List.append_nil] at hW'
  refine (walk W).mono fun e W' ⟨he, bel⟩ => ?_
  subst he
  exact ⟨_, rfl, _, _, _, [], _, [], hW', trodAll_mk1 (shut_bool Tryz.underlying4 _), trodAll_mk0, rfl, bel.frame _, fun h => by cases h⟩
theorem both {a b : Bool} (ha : a = true) (hb : b = true) : (a && b) = true := by rw [ha, hb]; rfl
set_option maxHeartbeats 10000000 in
theorem closed : joinedFacts Tryz.prog 3 Tryz.f3 Rows.deviceNamesSpec Rows.deviceNamesRow = true :=
  both (both (both (both (both (both (both (both (both (both (both (both (both (both (both (both (both (both (both (both (both (both (both (both (both (both (both (both (both (both (both j0 j1) j2) j3) j4) j5) j6) j7) j8) j9) j10) j11) j12) j13) j14) j15) j16) j17) j18) j19) j20) j21) j22) j23) j24) j25) j26) j27) j28) j29) j30) j31
set_option maxHeartbeats 10000000 in
theorem holds : Rows.DeviceNamesSaid :=
  OpenClaim.holds_of_wide 3 Tryz.f3 rfl rfl rfl rfl rfl rfl rfl ⟨rfl, rfl, rfl, rfl, rfl⟩ rfl rfl rfl rfl rfl xn Tryz.func3
    closed xi xr
    (fun os started H enc _ => lifted os started H enc)
set_option maxHeartbeats 10000000 in
theorem proved : Rows.DeviceNamesCardSaid :=
  Claim7.holds_tied_plain_at .later [] [.pinned, .data, .sentinel, .sentinel, .data, .data, .data] true (true, "4dfc451b2ef3bdcc1fcd4b9f478f41c65c4696a3a2877438d285a200ff618afb") true holds (fun _ h => by cases h) xw (fun _ h => by cases h) deviceNames_row_tie rfl ⟨rfl, rfl⟩ xm rfl
    (fun f fn hf hfn => by
      obtain rfl : f = 3 := Option.some.inj (xn.symm.trans hf) |>.symm
      obtain rfl : fn = Tryz.f3 := (Option.some.inj (Tryz.func3.symm.trans hfn)).symm
      exact ⟨xl, fun j t ht => by
        rw [Tryz.params3] at ht
        simp at ht⟩)
    xg
#print axioms proved
end Go.Proofs.YtmfbcniknjecbaaGreatDoor.deviceNames
end
