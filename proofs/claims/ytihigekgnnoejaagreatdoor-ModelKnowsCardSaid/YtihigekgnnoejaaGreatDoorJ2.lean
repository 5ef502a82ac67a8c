/- Texts joined: MLi. -/
import Derived.Test.YtihigekgnnoejaaGreatDoorJ0
import Derived.Test.YtihigekgnnoejaaGreatDoorH9
import Derived.Test.YtihigekgnnoejaaGreatDoorJ1
set_option maxRecDepth 100000
set_option linter.unusedVariables false
set_option linter.unusedSimpArgs false
section
namespace Go.Proofs.YtihigekgnnoejaaGreatDoor.mdl
open Go Go.Abs Go.Proofs
structure Nz (S:Sums):Prop extends Nw S,Nx S where
 lives:∀h,S 5 [] h=some (.bool true,h)
 nz27:∀f args h,f∈[3,4]→S f args h=none
theorem szM.mono {m:Mt} {a b:Nat} (h:szM m a) (hab:a≤b):szM m b:=⟨Nat.le_trans h.1 hab,fun r hr=>Nat.le_trans (h.2 r hr) hab⟩
def K9 (q j:Nat):Nat:=if j=q then 9 else 0
theorem sag2 {K:Nat→Nat} {h:AH} {hv sv:AV} {l:List Hd} {s:List Mt} (hH:Hs K h hv l) (hM:Ms K h sv s):sameAV 20 (.agg [hv,sv]) (.agg [hv,sv])=true:=by
 rcases Sl.shape hH.1 with ⟨rfl,_⟩ | ⟨_,_,_,rfl⟩ <;> rcases Sl.shape hM.1 with ⟨rfl,_⟩ | ⟨_,_,_,rfl⟩ <;> simp [sameAV,Go.Abs.sameL]
theorem K9_ne {q j:Nat} (h:j≠q):K9 q j=0:=if_neg h
theorem K9_eq {q:Nat}:K9 q q=9:=if_pos rfl
theorem K9_or (q j:Nat):K9 q j=0∨K9 q j=9:=by
 unfold K9;split
 ·exact .inr rfl
 ·exact .inl rfl
section
variable {S : Sums}
end
end Go.Proofs.YtihigekgnnoejaaGreatDoor.mdl
end