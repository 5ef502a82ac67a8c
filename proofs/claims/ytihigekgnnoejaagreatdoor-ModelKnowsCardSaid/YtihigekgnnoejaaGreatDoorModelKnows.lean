/- The law ModelKnows holds: called with whatever arguments in whatever memory, the Go function returns true and turns nothing that lay before. Conditions: the listed tables of the library hold what the text lays (the card ties them); none else. -/
import Derived.Test.YtihigekgnnoejaaGreatDoorJ3
import Derived.Test.YtihigekgnnoejaaGreatDoorJ5
import Derived.Test.YtihigekgnnoejaaGreatDoorCards
import Derived.Test.YtihigekgnnoejaaGreatDoorTie
import Derived.Test.YtihigekgnnoejaaGreatDoorJ4
import Derived.Lib.LaidTab
import Derived.WalkKit
import Derived.ProofKit
import Derived.OpenShut
import Derived.LaidMore
import Derived.Lay
import Derived.SevenTiedAt
import Derived.Stop.Joined
set_option linter.unusedSimpArgs false
set_option linter.unusedVariables false
set_option maxRecDepth 100000
set_option maxHeartbeats 10000000
namespace Go.Proofs.YtihigekgnnoejaaGreatDoor.modelKnows
open Go.ChangeShapes Go.WideShapes Go.ChangeAt Go.RowKit Go Go.Abs Go.Proofs.YtihigekgnnoejaaGreatDoor.mdl
theorem ownKnobs:ownKnob Tryz.prog.godebug=none:=by kernel_rfl
theorem laidOut:laidOutB Tryz.prog=true:=by kernel_rfl
abbrev laid0:List (String×DataW Unit):=Rows.modelKnowsRow.laid
theorem laid0_tab : laid0 = laid0[0] :: laid0[1] :: ("internal/strconv.uint64pow10", Lib.tabData .u64 Lib.pow10Tab) :: laid0.drop 3 := by kernel_rfl
theorem gl_of_laid {W:World} (h:laidMetH Tryz.prog laid0 W):glOK fun b=>W.heap[b]?:=by
 unfold laidMetH at h
 rw [show (laid0.filter fun x=>x.2.handleName?.isSome)=[] by kernel_rfl] at h
 obtain ⟨ps,h1,_⟩:=h
 rw [laid0_tab] at h1
 obtain ⟨_,_,_,_,_,_,_,_,_,_,h1,_⟩:=h1
 obtain ⟨_,_,_,_,_,_,_,_,_,_,h1,_⟩:=h1
 obtain ⟨g,t,cs,fuel,p,q,hg,ht,hvar,hd,_,_⟩:=h1
 obtain rfl : glN = g := Option.some.inj ((show Tryz.prog.globalNamed "internal/strconv.uint64pow10" = some glN by kernel_rfl).symm.trans hg)
 obtain rfl:249=t:=Option.some.inj ((show (Tryz.prog.globals[glN]?).map (·.type)=some 249 by kernel_rfl).symm.trans ht)
 have hc:=Lib.cells_of_tab Tryz.underlying249 Tryz.underlying62 (by kernel_rfl) (by kernel_rfl) hd
 unfold World.var? at hvar
 rw [hg] at hvar
 simp only [Option.bind_some] at hvar
 split at hvar
 ·rename_i c e fr hh
  cases hvar
  have hcs:cs=(Lib.pow10Tab.map fun z=>Value.int .u64 z).toArray:=by
   apply Array.ext'
   rw [hc]
  exact ⟨e,fr,by show W.heap[glN]? = _;rw [hh,hcs];rfl⟩
 ·cases hvar
theorem walk {H:Type} {enc:TypeId×Value→H} {W:World} {a0:Option Addr} {n0 c0:Nat} {v1:Value} {x2:Int} {d0 d1:DataW H} {p0 p1:List MemPlace} (hd:∃(b:Nat) (c:Array Value) (e:TypeId) (fr:Nat×Nat),W.heap[b]? = some (Obj.cells c e fr)) (hw:glOK fun b=>W.heap[b]?)
  (hv0:DataW.Trod enc Tryz.prog W 0 (fun _=>true) true 22 (.slice a0 n0 c0) d0 p0) (hv1:DataW.Trod enc Tryz.prog W 0 (fun _=>true) true 36 v1 d1 p1) :
  Calls Tryz.prog 4 #[.slice a0 n0 c0,v1,.int .i64 x2] W fun e w'=>e=.returned (.bool true)∧Below W.heap.size W w':=by
 obtain ⟨ρ0,h0,b0,g0⟩:=got_arg (k:=12) hd (by kernel_rfl) hv0 (rel_empty W hw)
 obtain ⟨x0,L,rfl,hx⟩:=ty_seens g0.ty (rel_lt g0.rel)
 have r0:VR ρ0 x0 (.slice a0 n0 c0):=by cases g0.vr with | cons h _=>exact h
 obtain ⟨ρ1,h1,b1,g1⟩:=got_arg (k:=12) hd (by kernel_rfl) hv1 g0.rel
 obtain ⟨r,hr⟩:=ty_rc g1.ty (rel_lt g1.rel)
 have hb1:b1.length≠1:=by obtain ⟨_,_,e,_⟩:=hr;rw [e];simp
 exact walk_of_run s2_ok (by kernel_rfl) g1.rel (avs:=[x0,.agg b1,.int .i64 x2]) (.cons (r0.mono g1.ext.le) (.cons (vr_agg g1.vr hb1) (.cons (.int _ _) .nil))) (knowsL s2_nz x2 (sl_le g1.le g1.ext.nx hx fun _ _ h=>sa_le g1.le g1.ext.nx h) hr)
abbrev laid:List (String×DataW Unit):=Rows.modelKnowsRow.laid
theorem lifted (os:Os) (started:os.Started) (H:Type) (enc:TypeId×Value→H) :
  ReturnsInHanded {} Tryz.checked os 4 .any (fun w args=>(Rows.modelKnowsSpec.pre enc Tryz.prog Tryz.f4 Rows.modelKnowsRow.domain false w args∧laidMetH Tryz.prog laid w)∧sizedMet enc Tryz.prog Tryz.f4 (OpenSpec.ofChange Rows.modelKnowsSpec) false w args)
   (Rows.modelKnowsSpec.post enc Tryz.prog Tryz.f4 false true false false):=by
 refine returnsInHanded_of_change_and (C:=Tryz.checked) (X:=fun w _=>laidMetH Tryz.prog laid w) (fun _ _ _ hh h=>h.of_heap hh) ownKnobs started (by kernel_rfl) Tryz.func4
  (ChangeSpec.witness_shaped (enc:=enc) (C:=Tryz.checked) (os:=os) (X:=fun w _=>laidMetH Tryz.prog laid w) false (World.laidAll Tryz.prog os laid) #[.slice none 0 0,.agg #[.string ⟨#[]⟩,.slice none 0 0,.int .i64 0,.bool false,.int .i64 0,.int .i64 0,.slice none 0 0],.int .i64 0] 8 (World.laidAll_os _ _ _)
   (World.shaped_of_ZipB (by kernel_rfl) (by kernel_rfl)) (by kernel_rfl) (by kernel_rfl) (by kernel_rfl)
   (by rw [MakeChecks.laidMetH_plain _ _ _ (by kernel_rfl)];exact laidMet_laidAll _ (by kernel_rfl) (by kernel_rfl))) ?_
 intro W base args ds gs before hval0 hW hc _ hL _
 have hW':=hW
 obtain ⟨p,q,hA0,hV,rfl,_,_⟩:=hW
 have hA:DataW.TrodAll enc Tryz.prog W 0 (fun _=>true) true Tryz.f4.params.toList args.toList ds p:=hA0
 have hval:∀(j:Nat) t v,Tryz.f4.params[j]? = some t→args[j]? = some v→Value.okWide Tryz.prog W .any base t v:=hval0
 rw [Tryz.params4] at hA
 obtain ⟨v0,v1,v2,d0,d1,d2,p0,p1,p2,rfl,rfl,rfl,hv0,hv1,hv2⟩:=trodAll_three hA
 obtain ⟨a0,n0,c0,rfl⟩:=okWide_slice Tryz.underlying22 (hval 0 22 _ rfl rfl)
 obtain ⟨x2,rfl⟩:=okWide_int (k:=.i64) Tryz.underlying3 (hval 2 3 _ rfl rfl)
 obtain ⟨rfl,rfl⟩:=trodVars_none hV
 simp only [List.append_nil] at hW'
 have hd:=cells_of_laid _ _ _ hL (by kernel_rfl) rfl
 refine (walk hd (gl_of_laid hL) hv0 hv1).mono fun e W' ⟨he,bel⟩=>?_
 subst he
 exact ⟨_,rfl,_,_,_,[],_,[],hW',trodAll_mk1 (shut_bool Tryz.underlying4 _),trodAll_mk3 (trod_below laidOut (by kernel_rfl) (of_decide_eq_true (by kernel_rfl)) hv0 bel) (trod_below laidOut (by kernel_rfl) (of_decide_eq_true (by kernel_rfl)) hv1 bel) (trod_below laidOut (by kernel_rfl) (of_decide_eq_true (by kernel_rfl)) hv2 bel),rfl,bel.frame _,fun h=>by cases h⟩
theorem both {a b:Bool} (ha:a=true) (hb:b=true):(a&&b)=true:=by rw [ha,hb];rfl
theorem closed:joinedFacts Tryz.prog 4 Tryz.f4 Rows.modelKnowsSpec Rows.modelKnowsRow=true:=by
 unfold joinedFacts
 repeat' (with_reducible refine both ?_ ?_)
 all_goals (as_aux_lemma=>kernel_rfl)
theorem holds:Rows.ModelKnowsSaid :=
 OpenClaim.holds_of_wide 4 Tryz.f4 rfl rfl rfl rfl rfl rfl rfl ⟨rfl,rfl,rfl,rfl,rfl⟩ rfl rfl rfl rfl rfl (by as_aux_lemma=>kernel_rfl) Tryz.func4
  closed
  (of_decide_eq_true (by as_aux_lemma=>kernel_rfl)) (by unfold Func.isWrapper;first | (rw [if_pos (by decide +kernel)];kernel_rfl) | (rw [if_neg (by decide +kernel)];exact ⟨rfl,rfl⟩))
  (fun os started H enc _=>lifted os started H enc)
theorem proved:Rows.ModelKnowsCardSaid :=
 Claim7.holds_tied_plain_at .later [] [.data, .data, .data, .data, .sentinel, .sentinel, .pinned] true (true, "611f31bc47e1d9efde16e26d5c1e8cdc0b5ae93954670b0c42d4cd34c61d5c9c") true holds (fun _ h => by cases h) (by as_aux_lemma => kernel_rfl) (fun _ h => by cases h) modelKnows_row_tie rfl ⟨rfl, rfl⟩ (by as_aux_lemma => kernel_rfl) rfl
  (fun f fn hf hfn=>by
   obtain rfl : f = 4 := Option.some.inj ((show Tryz.prog.funcNamed "packtrain/packtrainlaw27.ModelKnows" = some 4 by as_aux_lemma => kernel_rfl).symm.trans hf) |>.symm
   obtain rfl:fn=Tryz.f4:=(Option.some.inj (Tryz.func4.symm.trans hfn)).symm
   refine ⟨by as_aux_lemma=>kernel_rfl,fun j t ht=>?_⟩
   rw [Tryz.params4] at ht
   match j with
   | 0 =>
    obtain rfl:t=22:=by simpa using ht.symm
    show Tryz.prog.wantsStandIn 22=false
    kernel_rfl
   | 1 =>
    obtain rfl:t=36:=by simpa using ht.symm
    show Tryz.prog.wantsStandIn 36=false
    kernel_rfl
   | 2 =>
    obtain rfl:t=3:=by simpa using ht.symm
    show Tryz.prog.wantsStandIn 3=false
    kernel_rfl
   | j+3=>simp at ht)
  (by as_aux_lemma=>kernel_rfl)
#print axioms proved
end Go.Proofs.YtihigekgnnoejaaGreatDoor.modelKnows