/- What the library functions that this seat calls do, and that a function without arguments that the evaluator answers with true returns true. Conditions: none beyond the stated premises. -/
import Derived.Test.YtaooopaemphfjaaGreatDoorAb4
import Derived.Shelf.SlIter.Nil
import Derived.Shelf.SlIter.AllValues
import Derived.Shelf.SortM.Plain
import Derived.Shelf.SortM.SortNone
import Derived.Ground.GgzProg
import Derived.Ground.SlgmProg
import Derived.RangeFuncFrom
import Derived.Test.YtaooopaemphfjaaGreatDoorProg
import Derived.KernelRfl
set_option linter.unusedSimpArgs false
set_option linter.unusedVariables false
set_option maxRecDepth 100000
set_option maxHeartbeats 2000000
namespace Go.Proofs.YtaooopaemphfjaaGreatDoor
open Go.RowKit Go.Maps Go.Sort Go.Shelf Go.Abs Go.Proofs
def keysA_ren:Go.Shelf.Ren:=⟨fun | 7=>50 | 10=>86 | n=>n,fun | 23=>60 | 26=>9 | 3=>93 | 28=>98 | 0=>0 | 27=>97 | 33=>137 | 4=>4 | n=>n,fun | n=>n⟩
theorem keysA:Go.Proofs.SlLaysZ.n7 Tryz.prog keysA_ren where
  mixed:=by kernel_rfl
  f7:=⟨Tryz.f50.name,by decide,Tryz.func50.trans (congrArg some (by kernel_rfl))⟩
  f10:=⟨Tryz.f86.name,by decide,Tryz.func86.trans (congrArg some (by kernel_rfl))⟩
  t0:=Tryz.underlying0
  a0:=Tryz.isAgg0
  z0:=Tryz.sizeOf0
  v0:=Tryz.zeroValue0
  t4:=Tryz.underlying4
  a4:=Tryz.isAgg4
  z4:=Tryz.sizeOf4
  v4:=Tryz.zeroValue4
  t23:=Tryz.underlying60
  a23:=Tryz.isAgg60
  z23:=Tryz.sizeOf60
  v23:=Tryz.zeroValue60
  t26:=Tryz.underlying9
  a26:=Tryz.isAgg9
  z26:=Tryz.sizeOf9
  v26:=Tryz.zeroValue9
  t27:=Tryz.underlying97
  a27:=Tryz.isAgg97
  z27:=Tryz.sizeOf97
  v27:=Tryz.zeroValue97
  t28:=Tryz.underlying98
  a28:=Tryz.isAgg98
  z28:=Tryz.sizeOf98
  v28:=Tryz.zeroValue98
  t33:=Tryz.underlying137
  a33:=Tryz.isAgg137
  z33:=Tryz.sizeOf137
  v33:=Tryz.zeroValue137
def sortedA_ren:Go.Shelf.Ren:=⟨fun | 6=>49 | 8=>84 | 9=>85 | 11=>126 | 13=>128 | 12=>127 | 23=>156 | 24=>157 | 14=>147 | 15=>148 | 16=>149 | 17=>150 | 18=>151 | 19=>152 | 20=>153 | 21=>154 | 22=>155 | 25=>163 | 26=>164 | 27=>165 | 28=>166 | 29=>167 | 30=>125 | 31=>174 | n=>n,fun | 26=>9 | 28=>98 | 24=>66 | 0=>0 | 3=>3 | 37=>151 | 48=>81 | 50=>62 | 4=>4 | 40=>184 | 39=>183 | 45=>189 | 5=>5 | 9=>9 | 51=>198 | 55=>201 | 57=>205 | 58=>206 | 33=>137 | n=>n,fun | n=>n⟩
theorem sortedA:Go.Proofs.SlLaysZ.n6 Tryz.prog sortedA_ren where
  mixed:=by kernel_rfl
  f6:=⟨Tryz.f49.name,by decide,Tryz.func49.trans (congrArg some (by kernel_rfl))⟩
  f8:=⟨Tryz.f84.name,by decide,Tryz.func84.trans (congrArg some (by kernel_rfl))⟩
  f11:=⟨Tryz.f126.name,by decide,Tryz.func126.trans (congrArg some (by kernel_rfl))⟩
  t0:=Tryz.underlying0
  a0:=Tryz.isAgg0
  z0:=Tryz.sizeOf0
  v0:=Tryz.zeroValue0
  t24:=Tryz.underlying66
  a24:=Tryz.isAgg66
  z24:=Tryz.sizeOf66
  v24:=Tryz.zeroValue66
  t26:=Tryz.underlying9
  a26:=Tryz.isAgg9
  z26:=Tryz.sizeOf9
  v26:=Tryz.zeroValue9
  t28:=Tryz.underlying98
  a28:=Tryz.isAgg98
  z28:=Tryz.sizeOf98
  v28:=Tryz.zeroValue98
  i26:=by kernel_rfl
def sortA_ren:Go.Shelf.Ren:=⟨fun | 6=>85 | 8=>128 | 9=>127 | 19=>156 | 20=>157 | 21=>147 | 22=>148 | 23=>149 | 24=>150 | 25=>151 | 26=>152 | 27=>153 | 28=>154 | 29=>155 | 36=>163 | 31=>164 | 32=>165 | 37=>166 | 38=>167 | 39=>125 | 41=>174 | n=>n,fun | 27=>66 | 29=>9 | 3=>3 | 32=>151 | 26=>66 | 0=>0 | 44=>81 | 46=>62 | 4=>4 | 36=>184 | 35=>183 | 41=>189 | 5=>5 | 9=>9 | 53=>198 | 57=>201 | 63=>205 | 64=>206 | n=>n,fun | n=>n⟩
theorem sortA:Go.Proofs.SlLaysM.n6 Tryz.prog sortA_ren where
  mixed:=by kernel_rfl
  f6:=⟨Tryz.f85.name,by decide,Tryz.func85.trans (congrArg some (by kernel_rfl))⟩
  f8:=Tryz.func128.trans (congrArg some (by kernel_rfl))
  f9:=⟨Tryz.f127.name,by decide,Tryz.func127.trans (congrArg some (by kernel_rfl))⟩
  f19:=Tryz.func156.trans (congrArg some (by kernel_rfl))
  f20:=Tryz.func157.trans (congrArg some (by kernel_rfl))
  f21:=⟨Tryz.f147.name,by decide,Tryz.func147.trans (congrArg some (by kernel_rfl))⟩
  f22:=⟨Tryz.f148.name,by decide,Tryz.func148.trans (congrArg some (by kernel_rfl))⟩
  f23:=⟨Tryz.f149.name,by decide,Tryz.func149.trans (congrArg some (by kernel_rfl))⟩
  f24:=⟨Tryz.f150.name,by decide,Tryz.func150.trans (congrArg some (by kernel_rfl))⟩
  f25:=⟨Tryz.f151.name,by decide,Tryz.func151.trans (congrArg some (by kernel_rfl))⟩
  f26:=⟨Tryz.f152.name,by decide,Tryz.func152.trans (congrArg some (by kernel_rfl))⟩
  f27:=⟨Tryz.f153.name,by decide,Tryz.func153.trans (congrArg some (by kernel_rfl))⟩
  f28:=⟨Tryz.f154.name,by decide,Tryz.func154.trans (congrArg some (by kernel_rfl))⟩
  f29:=⟨Tryz.f155.name,by decide,Tryz.func155.trans (congrArg some (by kernel_rfl))⟩
  f31:=Tryz.func164.trans (congrArg some (by kernel_rfl))
  f32:=Tryz.func165.trans (congrArg some (by kernel_rfl))
  f36:=⟨Tryz.f163.name,by decide,Tryz.func163.trans (congrArg some (by kernel_rfl))⟩
  f37:=⟨Tryz.f166.name,by decide,Tryz.func166.trans (congrArg some (by kernel_rfl))⟩
  f38:=⟨Tryz.f167.name,by decide,Tryz.func167.trans (congrArg some (by kernel_rfl))⟩
  f39:=⟨Tryz.f125.name,by decide,Tryz.func125.trans (congrArg some (by kernel_rfl))⟩
  f41:=⟨Tryz.f174.name,by decide,Tryz.func174.trans (congrArg some (by kernel_rfl))⟩
  t0:=Tryz.underlying0
  a0:=Tryz.isAgg0
  z0:=Tryz.sizeOf0
  v0:=Tryz.zeroValue0
  t3:=Tryz.underlying3
  a3:=Tryz.isAgg3
  z3:=Tryz.sizeOf3
  v3:=Tryz.zeroValue3
  t4:=Tryz.underlying4
  a4:=Tryz.isAgg4
  z4:=Tryz.sizeOf4
  v4:=Tryz.zeroValue4
  t5:=Tryz.underlying5
  a5:=Tryz.isAgg5
  z5:=Tryz.sizeOf5
  v5:=Tryz.zeroValue5
  t9:=Tryz.underlying9
  a9:=Tryz.isAgg9
  z9:=Tryz.sizeOf9
  v9:=Tryz.zeroValue9
  t26:=Tryz.underlying66
  a26:=Tryz.isAgg66
  z26:=Tryz.sizeOf66
  v26:=Tryz.zeroValue66
  t27:=Tryz.underlying66
  a27:=Tryz.isAgg66
  z27:=Tryz.sizeOf66
  v27:=Tryz.zeroValue66
  t29:=Tryz.underlying9
  a29:=Tryz.isAgg9
  z29:=Tryz.sizeOf9
  v29:=Tryz.zeroValue9
  t32:=Tryz.underlying151
  a32:=Tryz.isAgg151
  z32:=Tryz.sizeOf151
  v32:=Tryz.zeroValue151
  t35:=Tryz.underlying183
  a35:=Tryz.isAgg183
  z35:=Tryz.sizeOf183
  v35:=Tryz.zeroValue183
  t36:=Tryz.underlying184
  a36:=Tryz.isAgg184
  z36:=Tryz.sizeOf184
  v36:=Tryz.zeroValue184
  t41:=Tryz.underlying189
  a41:=Tryz.isAgg189
  z41:=Tryz.sizeOf189
  v41:=Tryz.zeroValue189
  t44:=Tryz.underlying81
  a44:=Tryz.isAgg81
  z44:=Tryz.sizeOf81
  v44:=Tryz.zeroValue81
  t46:=Tryz.underlying62
  a46:=Tryz.isAgg62
  z46:=Tryz.sizeOf62
  v46:=Tryz.zeroValue62
  t53:=Tryz.underlying198
  a53:=Tryz.isAgg198
  z53:=Tryz.sizeOf198
  v53:=Tryz.zeroValue198
  t57:=Tryz.underlying201
  a57:=Tryz.isAgg201
  z57:=Tryz.sizeOf201
  v57:=Tryz.zeroValue201
  t63:=Tryz.underlying205
  a63:=Tryz.isAgg205
  z63:=Tryz.sizeOf205
  v63:=Tryz.zeroValue205
  t64:=Tryz.underlying206
  a64:=Tryz.isAgg206
  z64:=Tryz.sizeOf206
  v64:=Tryz.zeroValue206
theorem sortsA (m:Nat):AnyZ.SortsIn Tryz.prog sortedA_ren Fence.wide m :=
  ⟨fun blk off cap ss W hH hblk hsz=>callsIn_wide.2 (AnyM.slices_Sort_string sortA blk off cap ss W hH hblk hsz),
   fun p cap W=>callsIn_wide.2 (AnyM.slices_Sort_string_none sortA p cap W)⟩
theorem sortedAt:SortedAt Tryz.prog 49 86 (keysA_ren.t 26) where
  key:=by kernel_rfl
  body:=by kernel_rfl
  all bm b nn D0 w hcell hlt hown hmax hbytes:=by
    have hseq:SeqGives Fence.wide 2 Tryz.prog 86 #[.pointer (some ⟨bm,0,none⟩)] encStr (fun ss=>ss.Perm (strKeys D0)) (Maps.size D0) w :=
      AnyZ.keys_gives (ρ:=keysA_ren) { keysA with } Fence.wide _ trivial rfl (by omega) bm b nn D0 w hlt hcell hown
    have cS:=AnyZ.sorted_in sortedA Fence.wide 5 trivial trivial trivial trivial rfl (by omega) (sortsA _) (enters_of Tryz.func85 (by kernel_rfl) rfl) 86 #[.pointer (some ⟨bm,0,none⟩)] trivial (enters_of Tryz.func86 (by kernel_rfl) rfl) _ _ hmax hbytes _ hseq
    change CallsIn _ _ Tryz.prog 49 _ _ _ at cS
    refine (callsIn_wide.1 cS).mono fun e w' h=>?_
    obtain ⟨v,ss,h1,h2,h3,h4,h5⟩:=h
    exact ⟨v,ss,_,h1,h2,h3,h4,h5⟩
  nil bm w hcell hlt:=by
    have hseq:SeqGives Fence.wide 2 Tryz.prog 86 #[.pointer (some ⟨bm,0,none⟩)] encStr (fun ss:List (List UInt8)=>ss=[]) 0 w :=
      AnyZ.keys_gives_nil (ρ:=keysA_ren) { keysA with } Fence.wide _ trivial rfl bm w hlt hcell
    have cS:=AnyZ.sorted_in sortedA Fence.wide 5 trivial trivial trivial trivial rfl (by omega) (sortsA _) (enters_of Tryz.func85 (by kernel_rfl) rfl) 86 #[.pointer (some ⟨bm,0,none⟩)] trivial (enters_of Tryz.func86 (by kernel_rfl) rfl) _ 0 (Nat.zero_le _) (by omega) _ hseq
    change CallsIn _ _ Tryz.prog 49 _ _ _ at cS
    refine (callsIn_wide.1 cS).mono fun e w' h=>?_
    obtain ⟨v,ss,h1,h2,h3,h4,h5⟩:=h
    rw [h1,h4.2 h2]
    exact ⟨rfl,h5⟩
theorem ext98:ExtOK Tryz.prog 177 Extern.BytealgCount.count:=⟨_,Tryz.func177,by kernel_rfl,by kernel_rfl,by kernel_rfl,by kernel_rfl⟩
theorem ext105:ExtOK Tryz.prog 185 Extern.BytealgIndexByte.indexByte:=⟨_,Tryz.func185,by kernel_rfl,by kernel_rfl,by kernel_rfl,by kernel_rfl⟩
theorem ext55:ExtOK Tryz.prog 83 Extern.MapsClone.clone:=⟨_,Tryz.func83,by kernel_rfl,by kernel_rfl,by kernel_rfl,by kernel_rfl⟩
section
open Go.Proofs.Tryz
theorem values1_in (w0:World) (F:Fence) (n:Nat) (h8:F.fn 172) (hro:F.round=none) (hn:1≤n) (l Bm b nn:Nat) (D0:DataW Value) (J Jx:List (File w0)→World→Prop)
    (hY:∀pre x W,J pre W→pre.length<Maps.size D0→YieldAt F (n-1) prog l #[encF x] W fun e W' =>
      (e=.returned (.bool true)∧J (pre++[x]) W'∧KeepsWalks W W')∨(e=.returned (.bool false)∧Jx (pre++[x]) W'))
    (W:World) (hJ:AbidesFrom W.heap.size J) (hm:W.cell? ⟨Bm,0,none⟩=some (.map (some b))) (hown:W.ownsMap prog 9 (relF w0) b nn D0) (h0:J [] W) :
    CallsIn F n prog 172 #[.func (.yield l) #[] #[],.pointer (some ⟨Bm,0,none⟩)] W fun e W'=>(∃v,e=.returned v) ∧
      ((∃xs,(∃ps:List (List UInt8×File w0),(ps.map (·.1)).Perm (strKeys D0)∧(∀p∈ps,ValAtF D0 p)∧xs=ps.map (·.2))∧J xs W')∨(∃pre,True∧Jx pre W')):=by
  have ks:=string_keyed underlying9
  refine callsIn_of_wp func172 rfl h8 ?_ hro
  simp only [ntmps172,List.size_toArray,List.length_cons,List.length_nil,Nat.reduceAdd,Nat.reduceSub,Array.replicate_succ,Array.replicate_zero,List.push_toArray,List.append_toArray,List.nil_append,List.cons_append]
  gi_wp2_with (first
    | (gi_at_range;refine wpListIn_range_own _ rfl _ 60 rfl 9 93 (string_keyed underlying9) underlying60 _ b nn _ rfl hown ?_;intro w0' hrg0 hg0 hs0)
    | gi_in)
  go_frame
  gi_loopw [4] (fun _ wr=>∃(left:Lit→Bool) (cnt:Nat) (ps:List (List UInt8×File w0)),wr.ranges prog 9 (relF w0) b W.heap.size nn D0 left cnt∧ps.length+cnt≤Maps.size D0∧Collected D0 left (ps.map (·.1))∧(∀p∈ps,ValAtF D0 p)∧J (ps.map (·.2)) wr)
    (fun _ wr=>wr.rangeLeft b W.heap.size)
  case atStart =>
    exact ⟨_,_,[],hrg0,by simp,Collected.start D0,by simp,hJ [] W w0' none h0 hg0 (fun r e=>by cases e)⟩
  case round =>
    obtain ⟨left,cnt,ps,hrg,hcs,hC,hV,hJs⟩:=hrel
    gi_wp2_with (first
      | (gi_at_next;refine wpListIn_next_ranges _ rfl _ rfl 9 (string_keyed underlying9) (relF w0) encStr encF (fun key kl hk=>by obtain ⟨x,hx,_⟩:=Maps.keyOf_str underlying9 hk;exact ⟨x,hx⟩) relF_inv b W.heap.size nn _ _ _ rfl hrg ?_ ?_)
      | gi_in)
    · -- NOTHING IS LEFT
      intro hc0 hl0
      gi_wp2
      go_end0
      exact ⟨⟨_,rfl⟩,.inl ⟨_,⟨ps,hC.perm hown (string_keyed underlying9) underlying9 hl0,hV,rfl⟩,hJs⟩⟩
    · -- AN ENTRY HAS COME: yield(v)
      intro x ca cp kl yd yp w2 cnt2 hkey hlk hv hat hrg2 hlt hg2 hs2 hen
      obtain ⟨x',ex,rfl,_⟩:=Maps.keyOf_str underlying9 hkey
      obtain rfl:x=x':=encStr_inj ex
      have hat':∀zd,D0.atKey (.string x) zd=.held (encF (w:=w0) ⟨ca,cp⟩):=fun zd=>by have:=congrArg Prod.fst (relF_eq hv);rw [hat zd];exact this
      have hJ2:J (ps.map (·.2)) w2:=hJ _ wr w2 (some W.heap.size) hJs hg2 (fun r e=>by cases e;exact ⟨Nat.le_refl _,hrg.iter_walk⟩)
      obtain ⟨fn,tmps,assign,body,hy,hR⟩:=hY (ps.map (·.2)) ⟨ca,cp⟩ w2 hJ2 (by simp;omega)
      clear hs2
      gi_wp2
      refine hR.mono ?_
      have hC2:Collected D0 (fun z=>left z&&!z.sameKey (.string x)) ((ps++[(x,(⟨ca,cp⟩:File w0))]).map (·.1)):=by simpa using hC.step hlk hat
      have hV2:∀p∈ps++[(x,(⟨ca,cp⟩:File w0))],ValAtF D0 p:=fun p hp=>(List.mem_append.1 hp).elim (hV p) (fun e=>by simp at e;subst e;exact hat')
      rintro e W3 (⟨rfl,hJ3,hk3⟩ | ⟨rfl,hJx3⟩)
      · gi_wp2
        have hrg3:=hrg2.of_walks hk3
        go_roundw
        case rel=>exact ⟨_,cnt2,ps++[(x,(⟨ca,cp⟩:File w0))],hrg3,by simp;omega,hC2,hV2,by simpa using hJ3⟩
        case measure=>rw [hrg3.left_eq,hrg.left_eq];exact hlt
      · gi_wp2
        refine bodyPost_ret (results_none rfl _ _ _) rfl ?_
        exact ⟨⟨_,rfl⟩,.inr ⟨_,trivial,hJx3⟩⟩
theorem values_in (F:Fence) (n:Nat) (hf:F.fn 161) (hro:F.round=none) (mb:Option Nat) (w:World) :
    CallsIn F n prog 161 #[.map mb] w fun e w'=>e=.returned (.func (.func 172) #[] #[.pointer (some ⟨w.heap.size,0,none⟩)])∧w'=w.alloc (.cells #[.map mb] 60):=by
  refine callsIn_of_wp func161 rfl hf ?_ hro
  simp only [ntmps161,List.size_toArray,List.length_cons,List.length_nil,Nat.reduceAdd,Nat.reduceSub,Array.replicate_succ,Array.replicate_zero,List.push_toArray,List.append_toArray,List.nil_append,List.cons_append]
  gi_wp2
  go_ret
  exact ⟨rfl,rfl⟩
theorem values_stops (w0:World) (F:Fence) (n:Nat) (h7:F.fn 172) (hro:F.round=none) (hn:1≤n) (Bm b nn:Nat) (D0:DataW Value) (w:World) (hBm:Bm<w.heap.size)
    (hm:w.cell? ⟨Bm,0,none⟩=some (.map (some b))) (hown:w.ownsMap prog 9 (relF w0) b nn D0) :
    SeqStops F n prog 172 #[.pointer (some ⟨Bm,0,none⟩)] (encF (w:=w0)) (AllF D0) (fun _=>True) (Maps.size D0) w:=fun l J Jx W hW hJ _ hY h0=>by
  have hown':W.ownsMap prog 9 (relF w0) b nn D0:=by
    have hbl:=hown.lt
    obtain ⟨es,clock,hb,Ft,hs,hD⟩:=hown
    exact ⟨es,clock,(hW.block b hbl).trans hb,Ft,hs,hD⟩
  exact values1_in w0 F n h7 hro hn l Bm b nn D0 J Jx hY W hJ ((hW.cell (p:=⟨Bm,0,none⟩) hBm).trans hm) hown' h0
/-- The loop's one region. -/
def regionsOf:Code→List (Array Oper)
  | .region _ ops true=>[ops]
  | .seq a b=>regionsOf a++regionsOf b
  | .block _ c=>regionsOf c
  | .rangeFunc _ _ a b=>regionsOf a++regionsOf b
  | _=>[]
noncomputable def ops4:Array Oper:=((f141.body.map regionsOf).getD []).headD #[]
noncomputable def R0:Rec:=evN prog (fun _ _ _=>none) 0
theorem R0_ok:RecOK prog 0 R0:=evN_sound (fun _ _ _ _ _ _ _ _ _ _ _ hs=>by cases hs) 0
noncomputable def h4 (S:Int) (sv:AV):AH:={ tr:=(Tr.set (Tr.set .nil 0 (some (.cells [.int .i64 S] true false))) 1 (some (.cells [sv] false false))),nx:=3 }
noncomputable def env4:Env:=Tr.set (Tr.set .nil 3 (some (.ptr 0 0))) 4 (some (.ptr 1 0))
theorem ev4 (S:Int) (nl:Nat):(evDraw prog R0 19 ops4 env4 (h4 S (.sl 2 0 nl 1 none))).map (fun r=>r.2.get 0)=some (some (.cells [.int .i64 (IntKind.i64.wrap (S+Int.ofNat nl))] true false)):=by kernel_rfl
theorem ev4n (S:Int):(evDraw prog R0 19 ops4 env4 (h4 S .nilsl)).map (fun r=>r.2.get 0)=some (some (.cells [.int .i64 (IntKind.i64.wrap (S+0))] true false)):=by kernel_rfl
/-- One round: the file's length is added. -/
theorem round4 (l nb:Nat) (S:Int) (blk off:Nat) (base:Option Addr) (nl cap:Nat) (a:Act) (W:World) (Q:Exit→Act→World→Prop)
    (hsz:a.tmps.size=19) (ht3:a.tmps[3]? = some (.pointer (some ⟨nb,0,none⟩))) (ht4:a.tmps[4]? = some (.pointer (some ⟨blk,off,none⟩))) (hne:blk≠nb)
    (hn:∃ty,W.heap[nb]? = some (.cells #[.int .i64 S] ty (0,0))) (hx:W.cell? ⟨blk,off,none⟩=some (.slice base nl cap)) (hs:(base=none∧nl=0∧cap=0)∨∃c,base=some c∧nl≤cap∧(cap=0∨c.spot=none))
    (hQ:∀a' W',(∃ty,W'.heap[nb]? = some (.cells #[.int .i64 (IntKind.i64.wrap (S+Int.ofNat nl))] ty (0,0)))→W'.os=W.os→W'.tape=W.tape→W'.output=W.output→W.heap.size≤W'.heap.size→(∀b,b<W.heap.size→b≠nb→W'.heap[b]? = W.heap[b]?)→Q .normal a' W') :
    (Code.region 4 ops4 true).wpIn (Wd (some l)) 0 prog Q a W:=by
  obtain ⟨ty,hn⟩:=hn
  have hnlt:nb<W.heap.size:=(Array.getElem?_eq_some_iff.1 hn).1
  obtain ⟨c,ty2,fr2,hb,hbc⟩:∃c ty2 fr2,W.heap[blk]? = some (.cells c ty2 fr2)∧c[off]? = some (.slice base nl cap):=by
    unfold World.cell? at hx
    split at hx
    · rename_i c ty2 fr2 hh
      exact ⟨c,ty2,fr2,hh,by simpa using hx⟩
    · cases hx
  have hoff:off<c.size:=(Array.getElem?_eq_some_iff.1 hbc).1
  have hblt:blk<W.heap.size:=(Array.getElem?_eq_some_iff.1 hb).1
  let K:Kp:={ os:=W.os,tape:=W.tape,output:=W.output,size:=nb,at_:=fun b=>if b=nb then none else W.heap[b]?,ro:=fun b=>decide (b≠nb)&&decide (b<W.heap.size),
                  roAt:=fun b hb=>by simp only [Bool.and_eq_true,decide_eq_true_eq] at hb;simp [hb.1,hb.2] }
  obtain ⟨sv,q,hsv,hev⟩:∃(sv:AV) (q:Pl),(∀ρ:Pm,ρ 2=some q→VR ρ sv (.slice base nl cap))∧(evDraw prog R0 19 ops4 env4 (h4 S sv)).map (fun r=>r.2.get 0)=some (some (.cells [.int .i64 (IntKind.i64.wrap (S+Int.ofNat nl))] true false)):=by
    rcases hs with ⟨rfl,rfl,rfl⟩ | ⟨c,rfl,h1,h2⟩
    · exact ⟨.nilsl,⟨0,0,0⟩,fun _ _=>.nilsl,ev4n S⟩
    · obtain ⟨cb,co,cs⟩:=c
      refine ⟨.sl 2 0 nl 1 none,⟨cb,co,co+cap⟩,fun ρ hρ=>.sl hρ h1 ?_ (.inr (by simp)) (fun n hn=>by cases hn),ev4 S nl⟩
      rcases h2 with h2 | h2
      · exact .inl h2
      · simp only at h2;subst h2;exact .inr rfl
  let ρ:Pm:=fun id=>if id=0 then some ⟨nb,0,1⟩ else if id=1 then some ⟨blk,off,off+1⟩ else if id=2 then some q else none
  have hg0:∀id o,(h4 S sv).get id=some o→(id=0∧o=.cells [.int .i64 S] true false)∨(id=1∧o=.cells [sv] false false):=fun id o hg=>by
    unfold AH.get h4 at hg
    rw [Tr.get_set,Tr.get_set] at hg
    split at hg
    · rename_i e;exact .inr ⟨e,(Option.some.inj hg).symm⟩
    · split at hg
      · rename_i e;exact .inl ⟨e,(Option.some.inj hg).symm⟩
      · (rw [Tr.get_nil] at hg;cases hg)
  have hRel:Abs.Rel K ρ (h4 S sv) W:=by
    refine ⟨rfl,rfl,rfl,Nat.le_of_lt hnlt,fun b o hbo=>?_,fun id hid=>?_,fun id o hg=>?_,?_⟩
    · simp only [K] at hbo;split at hbo
      · cases hbo
      · exact hbo
    · have:3≤id:=hid
      simp only [ρ]
      rw [if_neg (by omega),if_neg (by omega),if_neg (by omega)]
    · rcases hg0 id o hg with ⟨rfl,rfl⟩ | ⟨rfl,rfl⟩
      · refine ⟨⟨nb,0,1⟩,rfl,⟨#[.int .i64 S],ty,(0,0),hn,rfl,by simp,fun i b hi=>?_,fun _=>.inl rfl,fun _ _=>⟨rfl,by simp,rfl⟩⟩,fun _=>⟨by simp [K],Nat.le_refl _⟩,(fun h=>by cases h)⟩
        have:i=0:=by cases i with
          | zero=>rfl
          | succ i=>simp at hi
        subst this
        simp at hi;subst hi
        exact ⟨.int .i64 S,by simp,.int _ _⟩
      · refine ⟨⟨blk,off,off+1⟩,rfl,⟨c,ty2,fr2,hb,(by simp;omega),by simp,fun i b hi=>?_,(fun h=>by cases h),(fun h=>by cases h)⟩,(fun h=>by cases h),fun _=>?_⟩
        · have:i=0:=by cases i with
            | zero=>rfl
            | succ i=>simp at hi
          subst this
          simp at hi;subst hi
          exact ⟨_,hbc,hsv ρ rfl⟩
        · simp [K,hne,hblt]
    · intro i j oi oj pi pj hi hj ho1 ho2 _ _ _
      rcases hg0 i oi hi with ⟨rfl,rfl⟩ | ⟨rfl,rfl⟩
      · rcases hg0 j oj hj with ⟨rfl,rfl⟩ | ⟨rfl,rfl⟩
        · rfl
        · cases ho2
      · cases ho1
  have hER:ER ρ env4 19 a.tmps:=by
    refine ⟨hsz,fun i b hi=>?_⟩
    unfold env4 at hi
    rw [Tr.get_set,Tr.get_set] at hi
    split at hi
    · rename_i e;subst e
      cases hi
      exact ⟨_,ht4,by have:=VR.ptr (ρ:=ρ) (id:=1) (off:=0) (p:=⟨blk,off,off+1⟩) rfl;simpa using this⟩
    · split at hi
      · rename_i e;subst e
        cases hi
        exact ⟨_,ht3,by have:=VR.ptr (ρ:=ρ) (id:=0) (off:=0) (p:=⟨nb,0,1⟩) rfl;simpa using this⟩
      · (rw [Tr.get_nil] at hi;cases hi)
  cases hd:evDraw prog R0 19 ops4 env4 (h4 S sv) with
  | none=>rw [hd] at hev;cases hev
  | some r =>
    obtain ⟨t',h'⟩:=r
    rw [hd] at hev
    simp only [Option.map_some,Option.some.injEq] at hev
    refine wpIn_region_draw fun T=>drawOK R0_ok K ρ _ a (some l) 19 ops4 env4 t' (h4 S sv) h' [] T Q (hRel.drawn _) hER hd fun ρ' a' W' hE hR' _ _=>?_
    have h0:ρ' 0=some ⟨nb,0,1⟩:=hE.le 0 _ rfl
    obtain ⟨p,hp,⟨c',e',fr',g1,g2,g3,g4,g5,g6⟩,_⟩:=hR'.obj 0 _ hev
    rw [h0] at hp;cases hp
    simp only [if_true] at g2
    obtain ⟨v,hv,hvr⟩:=g4 0 _ rfl
    cases hvr
    have hc':c'=#[.int .i64 (IntKind.i64.wrap (S+Int.ofNat nl))]:=by
      apply Array.ext
      · rw [g2];rfl
      · intro i h1 h2
        have:i=0:=by rw [g2] at h1;simp at h1;omega
        subst this
        have:=(Array.getElem?_eq_some_iff.1 hv).2
        simpa using this
    have hfr:=(g6 rfl rfl).1
    subst hc';subst hfr
    have hkeep:∀b,b<W.heap.size→b≠nb→W'.heap[b]? = W.heap[b]?:=fun b h1 h2=>by
      have:W.heap[b]? = some W.heap[b]:=by simp
      rw [this]
      exact hR'.keep b _ (by simp only [K,if_neg h2];exact this)
    refine hQ a' W' ⟨_,g1⟩ hR'.os hR'.tape hR'.output ?_ hkeep
    refine Nat.le_of_not_lt fun hlt=>?_
    have h1:W'.heap[W'.heap.size]? = none:=by simp
    by_cases e:W'.heap.size=nb
    · rw [e] at h1;rw [h1] at g1;cases g1
    · rw [hkeep _ hlt e] at h1
      have:W.heap[W'.heap.size]? = some (W.heap[W'.heap.size]'hlt):=by simp
      rw [this] at h1;cases h1
theorem used_in (tb to b nn:Nat) (D0:DataW Value) (w:World) (hcell:w.cell? ⟨tb,to+2,none⟩=some (.map (some b))) (hown:w.ownsMap prog 9 (relF w) b nn D0) :
    CallsIn Fence.wide 2 prog 141 #[.pointer (some ⟨tb,to,none⟩)] w fun e W' =>
      (∃xs:List (File w),AllF D0 xs∧e=.returned (.int .i64 (wrap64 ((xs.map lenF).sum))))∧Below w.heap.size w W':=by
  obtain ⟨F,hF⟩:∃F,Fence.wide=F:=⟨_,rfl⟩
  rw [hF]
  have h3:F.fn 141:=by rw [←hF];trivial
  have h4:F.fn 161:=by rw [←hF];trivial
  have h5:F.fn 172:=by rw [←hF];trivial
  have hro:F.round=none:=by rw [←hF];rfl
  have hbl:=hown.lt
  have htl:tb<w.heap.size:=by
    unfold World.cell? at hcell
    split at hcell
    · rename_i hh;exact (Array.getElem?_eq_some_iff.1 hh).1
    · cases hcell
  refine callsIn_of_wp_marks func141 rfl h3 ?_ hro
  simp only [ntmps141,List.size_toArray,List.length_cons,List.length_nil,Nat.reduceAdd,Nat.reduceSub,Array.replicate_succ,Array.replicate_zero,List.push_toArray,List.append_toArray,List.nil_append,List.cons_append]
  gi_wp2_with (gi_at_call 161;refine (values_in F (2-1) h4 hro _ _).mono ?_;rintro e w' ⟨rfl,rfl⟩)
  obtain ⟨W0,hW0⟩:∃W0,(w.alloc (.cells #[.int .i64 0] 3)).alloc (.cells #[.map (some b)] 60)=W0:=⟨_,rfl⟩
  have hs0:W0.heap.size=w.heap.size+2:=by rw [←hW0];simp
  have hB1:W0.heap[w.heap.size]? = some (.cells #[.int .i64 0] 3 (0,0)):=by
    rw [←hW0];exact (Below.heap_alloc _ _ _ (by simp)).trans (World.alloc_heap_new w _)
  have hB2:W0.heap[w.heap.size+1]? = some (.cells #[.map (some b)] 60 (0,0)):=by
    rw [←hW0];have:=World.alloc_heap_new (w.alloc (.cells #[.int .i64 0] 3)) (.cells #[.map (some b)] 60);rwa [World.size_alloc] at this
  have hown0:W0.ownsMap prog 9 (relF w) b nn D0:=by
    obtain ⟨es,clock,hb,Ft,hs,hD⟩:=hown
    exact ⟨es,clock,(by rw [←hW0];exact (Below.heap_alloc _ _ b (by simp;omega)).trans (Below.heap_alloc _ _ b hbl):W0.heap[b]? = w.heap[b]?).trans hb,Ft,hs,hD⟩
  have hBW:Below w.heap.size w W0:=by rw [←hW0];exact ((Below.refl _ w).alloc (Nat.le_refl _) _).alloc (by simp) _
  have c1:W0.cell? ⟨w.heap.size,0,none⟩=some (.int .i64 0):=by simp [World.cell?,hB1]
  have c2:W0.cell? ⟨w.heap.size+1,0,none⟩=some (.map (some b)):=by simp [World.cell?,hB2]
  have f1:W0.frozen? ⟨w.heap.size,0,none⟩=false:=by simp [World.frozen?,hB1]
  rw [hW0]
  refine wpIn_rangeFunc_ownF hro (by omega) (gf:=172) (lb:=#[.pointer (some ⟨w.heap.size+1,0,none⟩)]) rfl h5 (enters_of func172 (by kernel_rfl) rfl)
    (values_stops w F (2-1) h5 hro (by omega) (w.heap.size+1) b nn D0 W0 (by omega) c2 hown0) walksK_t walksK_b (Below.refl _ _) (fun _=>rfl)
    (fun pre W=>(∃ty,W.heap[w.heap.size]? = some (.cells #[.int .i64 (wrap64 ((pre.map lenF).sum))] ty (0,0)))∧Below w.heap.size w W)
    (fun c pre W=>False)
    (OwnFrom.and (Own.from (fun s A B row hs hg hr=>⟨hs.choose,(grownBy_keeps_cells hg hr hs.choose_spec rfl).trans hs.choose_spec⟩) _) (ownFrom_below (Nat.le_refl _) (by omega)))
    (fun c s A B row hs hg hr=>hs.elim)
    ⟨⟨3,by rw [hB1];simp [wrap64]⟩,hBW⟩
    (fun x=>{ tmps:=#[.pointer (some ⟨tb,to,none⟩),undef,.int .i64 0,.pointer (some ⟨w.heap.size,0,none⟩),encF x,.pointer (some ⟨tb,to,none⟩),.pointer (some ⟨tb,to,none⟩),.pointer (some ⟨tb,to+2,none⟩),.map (some b),.func (.func 172) #[] #[.pointer (some ⟨w.heap.size+1,0,none⟩)],encF x,undef,undef,undef,undef,undef,undef,undef,undef],defers:=[] }) ?assign ?body ?done ?stop
  case assign =>
    intro l x W K hK
    gi_wp2_with (rw [Oper.semAt_eq _ _ _ (fun c h=>by cases h)];go_simp;try go_bits)
    exact hK
  case body =>
    rintro l pre x W ⟨hcr,hB⟩ _
    obtain ⟨⟨blk,off,sp⟩,hlt,hsp,base,nl,cap,hxc,hxs⟩:=x
    simp only at hsp hlt
    subst hsp
    have hxW:W.cell? ⟨blk,off,none⟩=some (.slice base nl cap):=(hB.cell (p:=⟨blk,off,none⟩) hlt).trans hxc
    have hlen:lenF (w:=w) ⟨⟨blk,off,none⟩,hlt,rfl,base,nl,cap,hxc,hxs⟩=(nl:Int):=by simp [lenF,hxc]
    subst hF
    refine wpIn_block ?_
    obtain ⟨ty,hcn⟩:∃ty,W.heap[w.heap.size]? = some (.cells #[.int .i64 (wrap64 ((pre.map lenF).sum))] ty (0,0)):=hcr
    refine round4 l w.heap.size (wrap64 ((pre.map lenF).sum)) blk off base nl cap _ W _ rfl rfl rfl (Nat.ne_of_lt hlt) ⟨ty,hcn⟩ hxW hxs fun a' W' hn' ho1 ho2 ho3 hs' hk'=>?_
    refine ⟨⟨hs',fun k o hk ho=>?_⟩,⟨hs',fun k o hk ho=>?_⟩,?_,⟨ho1.trans hB.os,ho2.trans hB.tape,ho3.trans hB.output,Nat.le_trans hB.size hs',fun k hk=>?_⟩⟩
    · have hkl:=(Array.getElem?_eq_some_iff.1 hk).1
      have hne:k≠w.heap.size:=fun e=>by rw [e,hcn] at hk;cases hk;cases ho
      rw [hk' k hkl hne];exact hk
    · have hkl:=(Array.getElem?_eq_some_iff.1 hk).1
      have hne:k≠w.heap.size:=fun e=>by rw [e,hcn] at hk;cases hk;cases ho
      rw [hk' k hkl hne];exact hk
    · obtain ⟨ty',hn'⟩:=hn'
      refine ⟨ty',?_⟩
      rw [hn',List.map_append,List.sum_append]
      simp only [List.map_cons,List.map_nil,List.sum_cons,List.sum_nil,hlen]
      congr 3
      have:IntKind.i64.wrap (wrap64 (List.map lenF pre).sum+Int.ofNat nl)=wrap64 ((List.map lenF pre).sum+(nl+0)):=by
        have hw:∀z:Int,IntKind.i64.wrap z=wrap64 z:=fun z=>by simp [wrap64,IntKind.wrap,IntKind.bits,IntKind.signed];try omega
        rw [hw]
        unfold wrap64
        simp only [Int.ofNat_eq_natCast]
        omega
      rw [this]
    · rw [hk' k (by have:=hB.size;omega) (by omega)];exact hB.block k hk
  case done =>
    rintro D xs W hD hall ⟨⟨ty,hcr⟩,hB⟩ hK
    have hcr':W.cell? ⟨w.heap.size,0,none⟩=some (.int .i64 (wrap64 ((xs.map lenF).sum))):=by simp [World.cell?,hcr]
    gi_wp2
    refine ⟨by simp,.inl ⟨_,_,rfl,run_takeDeferred hK,?_⟩⟩
    refine ⟨.int .i64 (wrap64 ((xs.map lenF).sum)),?_,⟨xs,hall,rfl⟩,hB.trans (belowK_b (w:=w) (Nat.le_refl _) _ D _ _ (by omega) hK rfl rfl)⟩
    simp [results,f141,go_sem]
  case stop =>
    rintro D c pre W hD _ h hK
    exact h.elim
end
theorem usedAt:UsedAt Tryz.prog 141 9 where
  key:=by kernel_rfl
  body:=by kernel_rfl
  used tb to b nn D0 w h1 h2:=callsIn_wide.1 (used_in tb to b nn D0 w h1 h2)
noncomputable def sums:Sums:=fun f args h =>
  cond (Nat.beq f 177) (sumCount args h) <|
  cond (Nat.beq f 185) (sumIndex args h) <|
  cond (Nat.beq f 83) (sumClone args h) <|
  cond (Nat.beq f 49) (sumSorted 86 args h) <|
  cond (Nat.beq f 141) (sumUsed args h) none
theorem sums_ok:SumsOK Tryz.prog sums:=by
  intro K ρ h w f args cargs v h' hR hv hs
  unfold sums at hs
  by_cases h1:f=177
  · subst h1;exact sumCount_ok ext98 hR hv hs
  by_cases h2:f=185
  · subst h2;exact sumIndex_ok ext105 hR hv hs
  by_cases h3:f=83
  · subst h3;exact sumClone_ok ext55 hR hv hs
  by_cases h4:f=49
  · subst h4;exact sumSorted_ok sortedAt hR hv hs
  by_cases h5:f=141
  · subst h5;exact sumUsed_ok usedAt hR hv hs
  simp only [nbeq,h1,h2,h3,h4,h5,decide_false,cond_false] at hs
  cases hs
def isTrue:Option (AV×AH)→Bool
  | some (.bool true,_)=>true
  | _=>false
theorem isTrue_eq {r:Option (AV×AH)} (h:isTrue r=true):∃h',r=some (.bool true,h'):=by
  unfold isTrue at h
  split at h
  · exact ⟨_,rfl⟩
  · cases h
end Go.Proofs.YtaooopaemphfjaaGreatDoor