/- The law StoreOrders holds: called with whatever arguments in whatever memory, the Go function returns true and turns nothing that lay before. Conditions: the two listed tables of unicode/utf8 hold what the text lays (the card ties them); none else. -/
import Derived.Test.YtaooopaemphfjaaGreatDoorJ4
import Derived.Test.YtaooopaemphfjaaGreatDoorSeat
import Derived.Test.YtaooopaemphfjaaGreatDoorCards
import Derived.Test.YtaooopaemphfjaaGreatDoorTie
import Derived.WalkKit
import Derived.ProofKit
import Derived.OpenShut
import Derived.LaidMore
import Derived.Lay
import Derived.SevenTiedAt
import Derived.Stop.Joined
set_option linter.unusedSimpArgs false
namespace Go.Proofs.YtaooopaemphfjaaGreatDoor.storeOrders
open Go.ChangeShapes Go.WideShapes Go.ChangeAt Go.RowKit Go Go.Abs Go.Proofs.YtaooopaemphfjaaGreatDoor.tbl
set_option linter.unusedVariables false

set_option maxRecDepth 100000 in
theorem livesRun:isTrue ((evN Tryz.prog sums 3000).call 6 [] { tr:=.nil,nx:=0 })=true:=by rw [←fN_eq];kernel_rfl
noncomputable def sumsL:Sums:=fun f args h=>cond (Nat.beq f 6) (match args with | []=>some (.bool true,h) | _=>none) (sums f args h)
theorem sumsL_ok:SumsOK Tryz.prog sumsL:=by
 intro K ρ h w f args cargs v h' hR hv hs
 unfold sumsL at hs
 rw [nat_beq_dec] at hs
 by_cases h8:f=6
 ·subst h8
  simp only [decide_true,cond_true] at hs
  split at hs
  ·cases hs
   obtain ⟨h0,hc⟩:=isTrue_eq livesRun
   exact sumClosed_ok sums_ok hc (fun ρ ρ' cv hx=>by cases hx;exact .bool _) hR hv
  ·cases hs
 ·simp only [h8,decide_false,cond_false] at hs
  exact sums_ok K ρ h w f args cargs v h' hR hv hs
theorem sumsL_lives (h:AH):sumsL 6 [] h=some (.bool true,h):=rfl
theorem sumsL_none (f:FuncId) (args:List AV) (h:AH) (hf:f∉([6,177,185,83,49,141]:List Nat)):sumsL f args h=none:=by
 simp only [List.mem_cons,not_or,List.not_mem_nil,not_false_eq_true,and_true] at hf
 obtain ⟨h1,h2,h3,h4,h5,h6⟩:=hf
 simp only [sumsL,sums,nbeq,h1,h2,h3,h4,h5,h6,decide_false,cond_false]
theorem nin {l m:List Nat} (hd:∀x∈l,x∉m) {f:Nat} (hf:f∈l):f∉m:=hd f hf
theorem sumsL_st:Go.Proofs.YtaooopaemphfjaaGreatDoor.tre.St sumsL where
 nu f args h hf:=sumsL_none f args h (nin (by decide) hf)
 cnt args h:=rfl
 idx args h:=rfl
 nt f args h hf:=sumsL_none f args h (nin (by decide) hf)
 used args h:=rfl
 clone args h:=rfl
 sorted args h:=rfl
theorem sumsL_wl:Go.Proofs.YtaooopaemphfjaaGreatDoor.tre.Wl sumsL:={ sumsL_st with nw:=fun f args h hf=>sumsL_none f args h (nin (by decide) hf) }
theorem sumsL_to:To sumsL:={ nw:=fun f args h hf=>sumsL_none f args h (nin (by decide) hf),nr:=fun f args h hf=>sumsL_none f args h (nin (by decide) hf),nq:=fun f args h hf=>sumsL_none f args h (nin (by decide) hf),ns:=fun f args h hf=>sumsL_none f args h (nin (by decide) hf),nt:=fun f args h hf=>sumsL_none f args h (nin (by decide) hf),no:=fun f args h hf=>sumsL_none f args h (nin (by decide) hf),nd:=fun f args h hf=>sumsL_none f args h (nin (by decide) hf) }
theorem sumsL_sw:Sw sumsL:={ to:=sumsL_to,wl:=sumsL_wl,nb:=fun f args h hf=>sumsL_none f args h (nin (by decide) hf) }
theorem ownKnobs:ownKnob Tryz.prog.godebug=none:=by kernel_rfl
theorem laidOut:laidOutB Tryz.prog=true:=by kernel_rfl

set_option maxRecDepth 100000 in
theorem walk {H:Type} {enc:TypeId×Value→H} {W:World} {a0:Option Addr} {n0 c0:Nat} {d0:DataW H} {p0:List MemPlace} (hd:∃(b:Nat) (c:Array Value) (e:TypeId) (fr:Nat×Nat),W.heap[b]? = some (Obj.cells c e fr))
  (hv0:DataW.Trod enc Tryz.prog W 0 (fun _=>true) true 43 (.slice a0 n0 c0) d0 p0) :
  Calls Tryz.prog 5 #[.slice a0 n0 c0] W fun e w'=>e=.returned (.bool true)∧Below W.heap.size W w':=by
 obtain ⟨ρ0,h0,s0,g0⟩:=got_arg (k:=8) hd (by kernel_rfl) hv0 (rel_empty W)
 obtain ⟨x0,l0,rfl,hx0,hb0⟩:=ty_pairss g0.ty (rel_lt g0.rel)
 have r0:VR ρ0 x0 (.slice a0 n0 c0):=by cases g0.vr with | cons h _=>exact h
 exact walk_of_run sumsL_ok (by kernel_rfl) g0.rel (avs:=[x0]) (.cons r0 .nil)
  (orders5 sumsL_sw (fun args h=>sumsL_none _ args h (by decide)) sumsL_lives hx0 hb0)


abbrev laid:List (String×DataW Unit):=Rows.storeOrdersRow.laid

set_option maxRecDepth 100000 in
set_option maxHeartbeats 10000000 in
theorem lifted (os:Os) (started:os.Started) (H:Type) (enc:TypeId×Value→H) :
  ReturnsInHanded {} Tryz.checked os 5 .any (fun w args=>(Rows.storeOrdersSpec.pre enc Tryz.prog Tryz.f5 Rows.storeOrdersRow.domain false w args∧laidMetH Tryz.prog laid w)∧sizedMet enc Tryz.prog Tryz.f5 (OpenSpec.ofChange Rows.storeOrdersSpec) false w args)
   (Rows.storeOrdersSpec.post enc Tryz.prog Tryz.f5 false true false false):=by
 refine returnsInHanded_of_change_and (C:=Tryz.checked) (X:=fun w _=>laidMetH Tryz.prog laid w) (fun _ _ _ hh h=>h.of_heap hh) ownKnobs started (by kernel_rfl) Tryz.func5
  (ChangeSpec.witness_shaped (enc:=enc) (C:=Tryz.checked) (os:=os) (X:=fun w _=>laidMetH Tryz.prog laid w) false (World.laidAll Tryz.prog os laid) #[.slice none 0 0] 8 (World.laidAll_os _ _ _)
   (World.shaped_of_ZipB (by kernel_rfl) (by kernel_rfl)) (by kernel_rfl) (by kernel_rfl) (by kernel_rfl)
   (by rw [MakeChecks.laidMetH_plain _ _ _ (by kernel_rfl)];exact laidMet_laidAll _ (by kernel_rfl) (by kernel_rfl))) ?_
 intro W base args ds gs before hval0 hW hc _ hL _
 have hW':=hW
 obtain ⟨p,q,hA0,hV,rfl,_,_⟩:=hW
 have hA:DataW.TrodAll enc Tryz.prog W 0 (fun _=>true) true Tryz.f5.params.toList args.toList ds p:=hA0
 have hval:∀(j:Nat) t v,Tryz.f5.params[j]? = some t→args[j]? = some v→Value.okWide Tryz.prog W .any base t v:=hval0
 rw [Tryz.params5] at hA
 obtain ⟨v0,d0,rfl,rfl,hv0⟩:=trodAll_one hA
 obtain ⟨a0,n0,c0,rfl⟩:=okWide_slice Tryz.underlying43 (hval 0 43 _ rfl rfl)
 obtain ⟨rfl,rfl⟩:=trodVars_none hV
 simp only [List.append_nil] at hW'
 have hd:=cells_of_laid _ _ _ hL (by kernel_rfl) rfl
 refine (walk hd hv0).mono fun e W' ⟨he,bel⟩=>?_
 subst he
 exact ⟨_,rfl,_,_,_,[],_,[],hW',trodAll_mk1 (shut_bool Tryz.underlying4 _),trodAll_mk1 (trod_below laidOut (by kernel_rfl) (of_decide_eq_true (by kernel_rfl)) hv0 bel),rfl,bel.frame _,fun h=>by cases h⟩

theorem both {a b:Bool} (ha:a=true) (hb:b=true):(a&&b)=true:=by rw [ha,hb];rfl

set_option maxRecDepth 100000 in
set_option maxHeartbeats 10000000 in
theorem closed:joinedFacts Tryz.prog 5 Tryz.f5 Rows.storeOrdersSpec Rows.storeOrdersRow=true:=by
 unfold joinedFacts
 repeat' (with_reducible refine both ?_ ?_)
 all_goals (as_aux_lemma=>kernel_rfl)

set_option maxRecDepth 100000 in
set_option maxHeartbeats 10000000 in
theorem holds:Rows.StoreOrdersSaid :=
 OpenClaim.holds_of_wide 5 Tryz.f5 rfl rfl rfl rfl rfl rfl rfl ⟨rfl,rfl,rfl,rfl,rfl⟩ rfl rfl rfl rfl rfl (by as_aux_lemma=>kernel_rfl) Tryz.func5
  closed
  (of_decide_eq_true (by as_aux_lemma=>kernel_rfl)) (by unfold Func.isWrapper;first | (rw [if_pos (by decide +kernel)];kernel_rfl) | (rw [if_neg (by decide +kernel)];exact ⟨rfl,rfl⟩))
  (fun os started H enc _=>lifted os started H enc)

set_option maxRecDepth 100000 in
set_option maxHeartbeats 10000000 in
theorem proved:Rows.StoreOrdersCardSaid :=
 Claim7.holds_tied_plain_at .later [] [.data, .pinned] true (true, "9cc47dc3117e6ecbf2bae7c3ae1497731f404a12884ed84bdc40befde0096721") true holds (fun _ h => by cases h) (by as_aux_lemma => kernel_rfl) (fun _ h => by cases h) storeOrders_row_tie rfl ⟨rfl, rfl⟩ (by as_aux_lemma => kernel_rfl) rfl
  (fun f fn hf hfn=>by
   obtain rfl : f = 5 := Option.some.inj ((show Tryz.prog.funcNamed "packtrain/packtrainlaw07.StoreOrders" = some 5 by as_aux_lemma => kernel_rfl).symm.trans hf) |>.symm
   obtain rfl:fn=Tryz.f5:=(Option.some.inj (Tryz.func5.symm.trans hfn)).symm
   refine ⟨by as_aux_lemma=>kernel_rfl,fun j t ht=>?_⟩
   rw [Tryz.params5] at ht
   match j with
   | 0 =>
    obtain rfl:t=43:=by simpa using ht.symm
    show Tryz.prog.wantsStandIn 43=false
    kernel_rfl
   | j+1=>simp at ht)
  (by as_aux_lemma=>kernel_rfl)
#print axioms proved
end Go.Proofs.YtaooopaemphfjaaGreatDoor.storeOrders
