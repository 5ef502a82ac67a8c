/- What strings.Join and the comparison of texts do in this seat's program, and all summaries together. Conditions: none. -/
import Derived.Test.YtmfbcniknjecbaaGreatDoorDigC
import Derived.Test.YtmfbcniknjecbaaGreatDoorAb6
import Derived.Shelf.Strings.OnBuilder
namespace Go.Proofs.YtmfbcniknjecbaaGreatDoor
open Go.RowKit Go.Maps Go.Sort Go.Shelf Go.Abs Go.Proofs Go
set_option linter.unusedVariables false
set_option maxRecDepth 100000
def joinA_ren : Go.Shelf.Ren := ⟨fun | 156 => 221 | 165 => 343 | 166 => 344 | 169 => 345 | 240 => 438 | 241 => 439 | 276 => 505 | 277 => 506 | n => n, fun | 31 => 57 | 9 => 9 | 3 => 3 | 4 => 4 | 0 => 0 | 20 => 20 | 72 => 446 | 76 => 329 | 70 => 444 | 37 => 55 | 75 => 328 | 127 => 528 | 164 => 603 | 5 => 5 | 80 => 218 | n => n, fun | n => n⟩
theorem joinA : Go.Proofs.Lays.n156 Tryz.prog joinA_ren where
  mixed := by kernel_rfl
  f156 := Tryz.func221.trans (congrArg some (by kernel_rfl))
  f165 := Tryz.func343.trans (congrArg some (by kernel_rfl))
  f166 := Tryz.func344.trans (congrArg some (by kernel_rfl))
  f169 := Tryz.func345.trans (congrArg some (by kernel_rfl))
  f240 := Tryz.func438.trans (congrArg some (by kernel_rfl))
  f241 := Tryz.func439.trans (congrArg some (by kernel_rfl))
  f276 := Tryz.func505.trans (congrArg some (by kernel_rfl))
  f277 := Tryz.func506.trans (congrArg some (by kernel_rfl))
  t0 := Tryz.underlying0
  a0 := Tryz.isAgg0
  z0 := Tryz.sizeOf0
  v0 := Tryz.zeroValue0
  t3 := Tryz.underlying3
  a3 := Tryz.isAgg3
  z3 := Tryz.sizeOf3
  v3 := Tryz.zeroValue3
  t4 := Tryz.underlying4
  a4 := Tryz.isAgg4
  z4 := Tryz.sizeOf4
  v4 := Tryz.zeroValue4
  t9 := Tryz.underlying9
  a9 := Tryz.isAgg9
  z9 := Tryz.sizeOf9
  v9 := Tryz.zeroValue9
  t20 := Tryz.underlying20
  a20 := Tryz.isAgg20
  z20 := Tryz.sizeOf20
  v20 := Tryz.zeroValue20
  t31 := Tryz.underlying57
  a31 := Tryz.isAgg57
  z31 := Tryz.sizeOf57
  v31 := Tryz.zeroValue57
  t37 := Tryz.underlying55
  a37 := Tryz.isAgg55
  z37 := Tryz.sizeOf55
  v37 := Tryz.zeroValue55
  t70 := Tryz.underlying444
  a70 := Tryz.isAgg444
  z70 := Tryz.sizeOf444
  v70 := Tryz.zeroValue444
  t72 := Tryz.underlying446
  a72 := Tryz.isAgg446
  z72 := Tryz.sizeOf446
  v72 := Tryz.zeroValue446
  t75 := Tryz.underlying328
  a75 := Tryz.isAgg328
  z75 := Tryz.sizeOf328
  v75 := Tryz.zeroValue328
  t76 := Tryz.underlying329
  a76 := Tryz.isAgg329
  z76 := Tryz.sizeOf329
  v76 := Tryz.zeroValue329
  t127 := Tryz.underlying528
  a127 := Tryz.isAgg528
  z127 := Tryz.sizeOf528
  v127 := Tryz.zeroValue528
  t164 := Tryz.underlying603
  a164 := Tryz.isAgg603
  z164 := Tryz.sizeOf603
  v164 := Tryz.zeroValue603
theorem joinX : Builder.Extra Tryz.prog joinA_ren where
  sizeBuilder := by kernel_rfl
  liesBuilder := by kernel_rfl
  t5 := Tryz.underlying5
  a5 := Tryz.isAgg5
  z5 := Tryz.sizeOf5
  v5 := Tryz.zeroValue5
  infoByte := by kernel_rfl
  cellsByte := by kernel_rfl
  sizeByte := by kernel_rfl
  neB5 := by decide
theorem joinAt : JoinAt Tryz.prog 221 := fun bk o c xs sep w h1 h2 h3 h4 h5 => Any.strings_Join joinA joinX bk o c xs sep w h1 h2 h3 h4 h5
theorem extCmp : ExtOK Tryz.prog 534 Extern.BytealgCompare.compare := ⟨_, Tryz.func534, by kernel_rfl, by kernel_rfl, by kernel_rfl, by kernel_rfl⟩
noncomputable def sumsCJ : Sums := fun f args h =>
  cond (Nat.beq f 534) (sumCmp args h)
  (cond (Nat.beq f 221) (sumJoin args h) none)
theorem sumsCJ_ok : SumsOK Tryz.prog sumsCJ := by
  intro K ρ h w f args cargs v h' hR hv hs
  unfold sumsCJ at hs
  by_cases h1 : f = 534
  · subst h1; exact sumCmp_ok extCmp hR hv hs
  by_cases h2 : f = 221
  · subst h2; exact sumJoin_ok joinAt (by kernel_rfl) hR hv hs
  simp only [nbeq, h1, h2, decide_false, cond_false] at hs
  cases hs
noncomputable def sumsAll : Sums := orS sumsCJ sDig
theorem sumsAll_ok : SumsOK Tryz.prog sumsAll := orS_ok sumsCJ_ok sDig_ok
end Go.Proofs.YtmfbcniknjecbaaGreatDoor
