/- The law StoreKeeps holds: called with whatever arguments in whatever memory, the Go function returns true and turns nothing that lay before. Conditions: the two listed tables of unicode/utf8 hold what the text lays (the card ties them); none else. -/
import Derived.Test.YtaooopaemphfjaaGreatDoorJ5
import Derived.Test.YtaooopaemphfjaaGreatDoorSeat
import Derived.Test.YtaooopaemphfjaaGreatDoorCards
import Derived.Test.YtaooopaemphfjaaGreatDoorTie
import Derived.WalkKit
import Derived.ProofKit
import Derived.OpenShut
import Derived.LaidMore
import Derived.Lay
import Derived.SevenTiedAt
import Derived.Stop.Joined
set_option linter.unusedSimpArgs false
set_option linter.unusedVariables false
set_option maxRecDepth 100000
set_option maxHeartbeats 10000000
namespace Go.Proofs.YtaooopaemphfjaaGreatDoor.storeKeeps
open Go.ChangeShapes Go.WideShapes Go.ChangeAt Go.RowKit Go Go.Abs Go.Proofs.YtaooopaemphfjaaGreatDoor.tbl
theorem livesRun:isTrue ((evN Tryz.prog sums 3000).call 6 [] { tr:=.nil,nx:=0 })=true:=by kernel_rfl
noncomputable def sumsL:Sums:=fun f args h=>cond (Nat.beq f 6) (match args with | []=>some (.bool true,h) | _=>none) (sums f args h)
theorem sumsL_ok:SumsOK Tryz.prog sumsL:=by
 intro K ρ h w f args cargs v h' hR hv hs
 unfold sumsL at hs
 rw [nat_beq_dec] at hs
 by_cases h8:f=6
 ·subst h8
  simp only [decide_true,cond_true] at hs
  split at hs
  ·cases hs
   obtain ⟨h0,hc⟩:=isTrue_eq livesRun
   exact sumClosed_ok sums_ok hc (fun ρ ρ' cv hx=>by cases hx;exact .bool _) hR hv
  ·cases hs
 ·simp only [h8,decide_false,cond_false] at hs
  exact sums_ok K ρ h w f args cargs v h' hR hv hs
theorem sumsL_lives (h:AH):sumsL 6 [] h=some (.bool true,h):=rfl
theorem sumsL_none (f:FuncId) (args:List AV) (h:AH) (hf:f∉([6,177,185,83,49,141]:List Nat)):sumsL f args h=none:=by
 simp only [List.mem_cons,not_or,List.not_mem_nil,not_false_eq_true,and_true] at hf
 obtain ⟨h1,h2,h3,h4,h5,h6⟩:=hf
 simp only [sumsL,sums,nbeq,h1,h2,h3,h4,h5,h6,decide_false,cond_false]
theorem nin {l m:List Nat} (hd:∀x∈l,x∉m) {f:Nat} (hf:f∈l):f∉m:=hd f hf
theorem sumsL_st:Go.Proofs.YtaooopaemphfjaaGreatDoor.tre.St sumsL where
 nu f args h hf:=sumsL_none f args h (nin (by decide) hf)
 cnt args h:=rfl
 idx args h:=rfl
 nt f args h hf:=sumsL_none f args h (nin (by decide) hf)
 used args h:=rfl
 clone args h:=rfl
 sorted args h:=rfl
theorem sumsL_wl:Go.Proofs.YtaooopaemphfjaaGreatDoor.tre.Wl sumsL:={ sumsL_st with nw:=fun f args h hf=>sumsL_none f args h (nin (by decide) hf) }
theorem sumsL_to:To sumsL:={ nw:=fun f args h hf=>sumsL_none f args h (nin (by decide) hf),nr:=fun f args h hf=>sumsL_none f args h (nin (by decide) hf),nq:=fun f args h hf=>sumsL_none f args h (nin (by decide) hf),ns:=fun f args h hf=>sumsL_none f args h (nin (by decide) hf),nt:=fun f args h hf=>sumsL_none f args h (nin (by decide) hf),no:=fun f args h hf=>sumsL_none f args h (nin (by decide) hf),nd:=fun f args h hf=>sumsL_none f args h (nin (by decide) hf) }
theorem sumsL_sw:Sw sumsL:={ to:=sumsL_to,wl:=sumsL_wl,nb:=fun f args h hf=>sumsL_none f args h (nin (by decide) hf) }
theorem sumsL_te:Te sumsL:={ toTx:={ toTr2:=sumsL_to.toTr2,nx:=fun f args h hf=>sumsL_none f args h (nin (by decide) hf) },nt:=sumsL_to.nt,nd:=fun f args h hf=>sumsL_none f args h (nin (by decide) hf),ne:=fun f args h hf=>sumsL_none f args h (nin (by decide) hf) }
theorem sumsL_sk:Sk sumsL:={ toSw:=sumsL_sw,toTe:=sumsL_te,nk:=fun f args h hf=>sumsL_none f args h (nin (by decide) hf) }
theorem ownKnobs:ownKnob Tryz.prog.godebug=none:=by kernel_rfl
theorem laidOut:laidOutB Tryz.prog=true:=by kernel_rfl
theorem walk {H:Type} {enc:TypeId×Value→H} {W:World} {a0 a4:Option Addr} {n0 c0 n4 c4:Nat} {x1 x2 x3:Int} {d0 d1 d2 d4:DataW H} {p0 p1 p2 p4:List MemPlace} (hd:∃(b:Nat) (c:Array Value) (e:TypeId) (fr:Nat×Nat),W.heap[b]? = some (Obj.cells c e fr))
  (hv0:DataW.Trod enc Tryz.prog W 0 (fun _=>true) true 43 (.slice a0 n0 c0) d0 p0) (hv1:DataW.Trod enc Tryz.prog W 0 (fun _=>true) true 3 (.int .i64 x1) d1 p1) (hv2:DataW.Trod enc Tryz.prog W 0 (fun _=>true) true 3 (.int .i64 x2) d2 p2) (hv4:DataW.Trod enc Tryz.prog W 0 (fun _=>true) true 44 (.slice a4 n4 c4) d4 p4) :
  Calls Tryz.prog 4 #[.slice a0 n0 c0,.int .i64 x1,.int .i64 x2,.int .i64 x3,.slice a4 n4 c4] W fun e w'=>e=.returned (.bool true)∧Below W.heap.size W w':=by
 obtain ⟨ρ0,h0,s0,g0⟩:=got_arg (k:=8) hd (by kernel_rfl) hv0 (rel_empty W)
 obtain ⟨x0,l0,rfl,hx0,hb0⟩:=ty_pairss g0.ty (rel_lt g0.rel)
 have r0:VR ρ0 x0 (.slice a0 n0 c0):=by cases g0.vr with | cons h _=>exact h
 obtain ⟨ρ1,h1,s1,g1⟩:=got_arg (k:=8) hd (by kernel_rfl) hv1 g0.rel
 have hf1:x1≤9223372036854775807:=by
  obtain ⟨n,e,hn⟩:=g1.ty.int_inv Tryz.underlying3
  have r3:VR ρ1 (.int .i64 n) (.int .i64 x1):=by
   have:=g1.vr
   rw [e] at this
   cases this with | cons h _=>exact h
  cases r3
  exact hn.2
 obtain ⟨ρ2,h2,s2,g2⟩:=got_arg (k:=8) hd (by kernel_rfl) hv2 g1.rel
 have hf2:x2≤9223372036854775807:=by
  obtain ⟨n,e,hn⟩:=g2.ty.int_inv Tryz.underlying3
  have r3:VR ρ2 (.int .i64 n) (.int .i64 x2):=by
   have:=g2.vr
   rw [e] at this
   cases this with | cons h _=>exact h
  cases r3
  exact hn.2
 obtain ⟨ρ4,h4,s4,g4⟩:=got_arg (k:=8) hd (by kernel_rfl) hv4 g2.rel
 obtain ⟨y4,z4,rfl,hx4,hxa4,hxl4,hxe4⟩:=g4.ty.sl1 Tryz.underlying44 (by kernel_rfl) (fun fs hh=>by rw [Tryz.underlying3] at hh;cases hh) (fun n e hh=>by rw [Tryz.underlying3] at hh;cases hh) (rel_lt g4.rel)
 have r4:VR ρ4 y4 (.slice a4 n4 c4):=by cases g4.vr with | cons h _=>exact h
 obtain ⟨l4,hb4,_⟩:=Go.Proofs.YtaooopaemphfjaaGreatDoor.tre.Sl1.iv hx4 hxe4 Tryz.underlying3
 exact walk_of_run sumsL_ok (by kernel_rfl) g4.rel (avs:=[x0,.int .i64 x1,.int .i64 x2,.int .i64 x3,y4]) (.cons (((r0.mono g1.ext.le).mono g2.ext.le).mono g4.ext.le) (.cons (.int _ _) (.cons (.int _ _) (.cons (.int _ _) (.cons r4 .nil)))))
  (keeps7 sumsL_sk (fun args h=>sumsL_none _ args h (by decide)) sumsL_lives (qs_le (qs_le (qs_le hx0 g1.le g1.ext.nx) g2.le g2.ext.nx) g4.le g4.ext.nx) hb0 hb4 hf2 hf1)
abbrev laid:List (String×DataW Unit):=Rows.storeKeepsRow.laid
theorem lifted (os:Os) (started:os.Started) (H:Type) (enc:TypeId×Value→H) :
  ReturnsInHanded {} Tryz.checked os 4 .any (fun w args=>(Rows.storeKeepsSpec.pre enc Tryz.prog Tryz.f4 Rows.storeKeepsRow.domain false w args∧laidMetH Tryz.prog laid w)∧sizedMet enc Tryz.prog Tryz.f4 (OpenSpec.ofChange Rows.storeKeepsSpec) false w args)
   (Rows.storeKeepsSpec.post enc Tryz.prog Tryz.f4 false true false false):=by
 refine returnsInHanded_of_change_and (C:=Tryz.checked) (X:=fun w _=>laidMetH Tryz.prog laid w) (fun _ _ _ hh h=>h.of_heap hh) ownKnobs started (by kernel_rfl) Tryz.func4
  (ChangeSpec.witness_shaped (enc:=enc) (C:=Tryz.checked) (os:=os) (X:=fun w _=>laidMetH Tryz.prog laid w) false (World.laidAll Tryz.prog os laid) #[.slice none 0 0,.int .i64 0,.int .i64 0,.int .i64 0,.slice none 0 0] 8 (World.laidAll_os _ _ _)
   (World.shaped_of_ZipB (by kernel_rfl) (by kernel_rfl)) (by kernel_rfl) (by kernel_rfl) (by kernel_rfl)
   (by rw [MakeChecks.laidMetH_plain _ _ _ (by kernel_rfl)];exact laidMet_laidAll _ (by kernel_rfl) (by kernel_rfl))) ?_
 intro W base args ds gs before hval0 hW hc _ hL _
 have hW':=hW
 obtain ⟨p,q,hA0,hV,rfl,_,_⟩:=hW
 have hA:DataW.TrodAll enc Tryz.prog W 0 (fun _=>true) true Tryz.f4.params.toList args.toList ds p:=hA0
 have hval:∀(j:Nat) t v,Tryz.f4.params[j]? = some t→args[j]? = some v→Value.okWide Tryz.prog W .any base t v:=hval0
 rw [Tryz.params4] at hA
 obtain ⟨v0,v1,v2,v3,v4,d0,d1,d2,d3,d4,p0,p1,p2,p3,p4,rfl,rfl,rfl,hv0,hv1,hv2,hv3,hv4⟩:=trodAll_five hA
 obtain ⟨a0,n0,c0,rfl⟩:=okWide_slice Tryz.underlying43 (hval 0 43 _ rfl rfl)
 obtain ⟨x1,rfl⟩:=okWide_int (k:=.i64) Tryz.underlying3 (hval 1 3 _ rfl rfl)
 obtain ⟨x2,rfl⟩:=okWide_int (k:=.i64) Tryz.underlying3 (hval 2 3 _ rfl rfl)
 obtain ⟨x3,rfl⟩:=okWide_int (k:=.i64) Tryz.underlying3 (hval 3 3 _ rfl rfl)
 obtain ⟨a4,n4,c4,rfl⟩:=okWide_slice Tryz.underlying44 (hval 4 44 _ rfl rfl)
 obtain ⟨rfl,rfl⟩:=trodVars_none hV
 simp only [List.append_nil] at hW'
 have hd:=cells_of_laid _ _ _ hL (by kernel_rfl) rfl
 refine (walk hd hv0 hv1 hv2 hv4).mono fun e W' ⟨he,bel⟩=>?_
 subst he
 exact ⟨_,rfl,_,_,_,[],_,[],hW',trodAll_mk1 (shut_bool Tryz.underlying4 _),trodAll_mk5 (trod_below laidOut (by kernel_rfl) (of_decide_eq_true (by kernel_rfl)) hv0 bel) (trod_below laidOut (by kernel_rfl) (of_decide_eq_true (by kernel_rfl)) hv1 bel) (trod_below laidOut (by kernel_rfl) (of_decide_eq_true (by kernel_rfl)) hv2 bel) (trod_below laidOut (by kernel_rfl) (of_decide_eq_true (by kernel_rfl)) hv3 bel) (trod_below laidOut (by kernel_rfl) (of_decide_eq_true (by kernel_rfl)) hv4 bel),rfl,bel.frame _,fun h=>by cases h⟩
theorem both {a b:Bool} (ha:a=true) (hb:b=true):(a&&b)=true:=by rw [ha,hb];rfl
theorem closed:joinedFacts Tryz.prog 4 Tryz.f4 Rows.storeKeepsSpec Rows.storeKeepsRow=true:=by
 unfold joinedFacts
 repeat' (with_reducible refine both ?_ ?_)
 all_goals (as_aux_lemma=>kernel_rfl)
theorem holds:Rows.StoreKeepsSaid :=
 OpenClaim.holds_of_wide 4 Tryz.f4 rfl rfl rfl rfl rfl rfl rfl ⟨rfl,rfl,rfl,rfl,rfl⟩ rfl rfl rfl rfl rfl (by as_aux_lemma=>kernel_rfl) Tryz.func4
  closed
  (of_decide_eq_true (by as_aux_lemma=>kernel_rfl)) (by unfold Func.isWrapper;first | (rw [if_pos (by decide +kernel)];kernel_rfl) | (rw [if_neg (by decide +kernel)];exact ⟨rfl,rfl⟩))
  (fun os started H enc _=>lifted os started H enc)
theorem proved:Rows.StoreKeepsCardSaid :=
 Claim7.holds_tied_plain_at .later [] [.data, .pinned] true (true, "9cc47dc3117e6ecbf2bae7c3ae1497731f404a12884ed84bdc40befde0096721") true holds (fun _ h => by cases h) (by as_aux_lemma => kernel_rfl) (fun _ h => by cases h) storeKeeps_row_tie rfl ⟨rfl, rfl⟩ (by as_aux_lemma => kernel_rfl) rfl
  (fun f fn hf hfn=>by
   obtain rfl : f = 4 := Option.some.inj ((show Tryz.prog.funcNamed "packtrain/packtrainlaw07.StoreKeeps" = some 4 by as_aux_lemma => kernel_rfl).symm.trans hf) |>.symm
   obtain rfl:fn=Tryz.f4:=(Option.some.inj (Tryz.func4.symm.trans hfn)).symm
   refine ⟨by as_aux_lemma=>kernel_rfl,fun j t ht=>?_⟩
   rw [Tryz.params4] at ht
   match j with
   | 0 =>
    obtain rfl:t=43:=by simpa using ht.symm
    show Tryz.prog.wantsStandIn 43=false
    kernel_rfl
   | 1 =>
    obtain rfl:t=3:=by simpa using ht.symm
    show Tryz.prog.wantsStandIn 3=false
    kernel_rfl
   | 2 =>
    obtain rfl:t=3:=by simpa using ht.symm
    show Tryz.prog.wantsStandIn 3=false
    kernel_rfl
   | 3 =>
    obtain rfl:t=3:=by simpa using ht.symm
    show Tryz.prog.wantsStandIn 3=false
    kernel_rfl
   | 4 =>
    obtain rfl:t=44:=by simpa using ht.symm
    show Tryz.prog.wantsStandIn 44=false
    kernel_rfl
   | j+5=>simp at ht)
  (by as_aux_lemma=>kernel_rfl)
#print axioms proved
end Go.Proofs.YtaooopaemphfjaaGreatDoor.storeKeeps