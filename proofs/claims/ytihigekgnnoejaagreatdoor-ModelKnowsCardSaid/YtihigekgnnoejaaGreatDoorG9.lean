/- Texts joined: MIb, MIc, MId, MIe, MIf. -/
import Derived.Test.YtihigekgnnoejaaGreatDoorG8
import Derived.Test.YtihigekgnnoejaaGreatDoorAb7
set_option maxRecDepth 100000
set_option linter.unusedVariables false
set_option linter.unusedSimpArgs false
set_option maxHeartbeats 16000000
section
namespace Go.Proofs.YtihigekgnnoejaaGreatDoor.mdl
open Go Go.Abs Go.Proofs
section
variable {S : Sums}
theorem delRwR (hS:Mi S) {h:AH} {id n i K:Nat} {cs J:List AV} (hg:h.get id=some (.cells (cs++J) true false)) (hc:cs.length=n*2) (hJ:(cs++J).length=K*2) (hn:n≤K) (hi:i<n) (hn2:n≤1000000) (ho:cs.all oneA=true) :
  RnC Tryz.prog S 85 [.sl id 0 n 2 (some K),.int .i64 (i:Nat),.int .i64 ((i:Int)+1)] h fun v h'=>∃id' c' rest,v=.sl id' 0 (n-1) 2 c'∧h'.get id'=some (.cells (cs.take (i*2)++cs.drop ((i+1)*2)++rest) true false)∧(id'=id∨h.nx≤id')∧∀j,j<h.nx→j≠id→h'.get j=h.get j:=by
 refine RnC.enter' Tryz.f85 _ 33 [.tmp 6] (hS.no _ _ _ (by simp)) bd85 Tryz.func85 rfl rfl rfl ?_
 have hu:=Tryz.underlying41
 have hz:=tz84
 have sA:=evSlice_three (P:=Tryz.prog) (id:=id) hu hz (show i+1≤n by omega) hn
 have sB:=evSlice_upto (P:=Tryz.prog) (id:=id) (off:=0) (n:=n) hu hz (show i≤K by omega)
 have sC:=evSlice_from1 (P:=Tryz.prog) (id:=id) (off:=0) (c:=some K) hu hz (show i+1≤n by omega)
 have c1:¬((i:Int)=(i:Int)+1):=by omega
 have hAl:(cs.take (i*2)).length=i*2:=by rw [List.length_take,hc];exact Nat.min_eq_left (Nat.mul_le_mul_right _ (by omega))
 have hBl:(cs.drop ((i+1)*2)).length=(n-(i+1))*2:=by rw [List.length_drop,hc,Nat.sub_mul]
 have hsp:cs++J=cs.take (i*2)++(cs.drop (i*2)++J):=by rw [←List.append_assoc,List.take_append_drop]
 have hB:((cs++J).drop ((i+1)*2)).take ((n-(i+1))*2)=cs.drop ((i+1)*2):=by
  rw [List.drop_append_of_le_length (by rw [hc];omega),←hBl,List.take_left]
 have hBo:(cs.drop ((i+1)*2)).all oneA=true:=by
  rw [←List.take_append_drop ((i+1)*2) cs,List.all_append,Bool.and_eq_true] at ho
  exact ho.2
 have nn:n-(n-1)=1:=by omega
 have hg9:({ tr:=h.tr,nx:=h.nx+8 }:AH).get id=_:=hg
 have sD:=evSlice_both (P:=Tryz.prog) (id:=id) (m:=n-1) (c:=K) hu hz (show n-1≤n by omega) hn
 rw [nn] at sD
 by_cases hk:n-(i+1)=0
 ·obtain ⟨r,hr⟩:=put_front (A:=cs.take (i*2)) (R:=cs.drop (i*2)++J) (B:=[.str [],.nilsl])
  rw [←hsp,hAl] at hr
  have hin:n-1=i:=by omega
  have e3:cs.drop ((i+1)*2)=[]:=List.length_eq_zero_iff.1 (by rw [hBl,hk,Nat.zero_mul])
  have ap:evAppend Tryz.prog { tr:=h.tr,nx:=h.nx+8 } #[41,41] (.sl id 0 i 2 (some K)) (.sl id ((i+1)*2) (n-(i+1)) 2 (some (K-(i+1))))=some (.val (.sl id 0 i 2 (some K)) { tr:=h.tr,nx:=h.nx+8 }):=by
   have hle:(i+1)*2≤(cs++J).length:=by rw [hJ];exact Nat.mul_le_mul_right _ (by omega)
   have hnew:=firstA_sl (c:=some (K-(i+1))) (n:=n-(i+1)) (k:=n-(i+1)) (sz:=2) (off:=(i+1)*2) hg9 (Nat.le_refl _) (by omega)
   have hold:=firstA_sl (c:=some K) (n:=i) (k:=i) (sz:=2) (off:=0) hg9 (Nat.le_refl i) (by rw [hJ];omega)
   rw [evAppend_eq hu hu (by rfl) ajRw rfl hnew rfl hold (by rw [hB];exact hBo) (by omega) (by omega) rfl,if_pos hk]
  have cl:=evClear_one (P:=Tryz.prog) (id:=id) (off:=(n-1)*2) (c:=some (K-(n-1))) (h:={ tr:=h.tr,nx:=h.nx+8 }) (z:=2) hu zc84 (by rfl) rfl hg9 (by rw [hJ];omega)
  rw [hin,hr] at cl
  rw [hin] at sD
  simp -dsimp only [go_sem,evLen,sA,c1,sB,sC]
  refine syDraw.keepN 0 (fun _=>True) (by kernel_rfl) (by kernel_rfl) rfl ?_
  simp -dsimp only [go_sem,evLen,sB,sC,ap]
  simp -dsimp only [go_sem,evLen,sD,hin,cl]
  exact ⟨id,_,[.str [],.nilsl]++r,rfl,by rw [e3];first | exact AH.get_put_eq rfl | (simp;exact AH.get_put_eq rfl),.inl rfl,fun j _ hj=>AH.get_put_ne hj⟩
 ·obtain ⟨r,hr⟩:=del_cells (A:=cs.take (i*2)) (R:=cs.drop (i*2)++J) (B:=cs.drop ((i+1)*2)) (z:=[.str [],.nilsl]) (by simp only [List.length_append,List.length_drop];omega)
  have e6:i*2+(n-(i+1))*2=(n-1)*2:=by omega
  rw [←hsp,hAl,hBl,e6] at hr
  have ap:=evAppend_tail (P:=Tryz.prog) (h:={ tr:=h.tr,nx:=h.nx+8 }) (d:=some (K-(i+1))) (k:=n-(i+1)) hu ajRw hg9 hJ (show i+1+(n-(i+1))=n by omega) hk hn (by rw [hB];exact hBo) (by omega) (by omega)
  rw [hB,show i+(n-(i+1))=n-1 by omega] at ap
  have hCl:(putCells (cs++J) (i*2) (cs.drop ((i+1)*2))).length=K*2:=by rw [putCells_length _ _ _ (by rw [hJ,hBl];omega),hJ]
  generalize hC1:putCells (cs++J) (i*2) (cs.drop ((i+1)*2))=C1 at *
  have hg2:(({ tr:=h.tr,nx:=h.nx+8 }:AH).put id (.cells C1 true false)).get id=_:=AH.get_put_eq rfl
  have cl:=evClear_one (P:=Tryz.prog) (id:=id) (off:=(n-1)*2) (c:=some (K-(n-1))) (h:=({ tr:=h.tr,nx:=h.nx+8 }:AH).put id (.cells C1 true false)) (z:=2) hu zc84 (by rfl) rfl hg2 (by rw [hCl];omega)
  rw [hr] at cl
  simp -dsimp only [go_sem,evLen,sA,c1,sB,sC]
  refine syDraw.keepN 0 (fun _=>True) (by kernel_rfl) (by kernel_rfl) rfl ?_
  simp -dsimp only [go_sem,evLen,sB,sC,ap]
  simp -dsimp only [go_sem,evLen,sD,cl]
  exact ⟨id,_,r,rfl,by first | exact AH.get_put_eq rfl | (simp;exact AH.get_put_eq rfl),.inl rfl,fun j _ hj=>(AH.get_put_ne hj).trans (AH.get_put_ne hj)⟩
theorem delInR (hS:Mi S) {h:AH} {id n i K:Nat} {cs J:List AV} (hg:h.get id=some (.cells (cs++J) true false)) (hc:cs.length=n*1) (hJ:(cs++J).length=K*1) (hn:n≤K) (hi:i<n) (hn2:n≤1000000) (ho:cs.all oneA=true) :
  RnC Tryz.prog S 87 [.sl id 0 n 1 (some K),.int .i64 (i:Nat),.int .i64 ((i:Int)+1)] h fun v h'=>∃id' c' rest,v=.sl id' 0 (n-1) 1 c'∧h'.get id'=some (.cells (cs.take (i*1)++cs.drop ((i+1)*1)++rest) true false)∧(id'=id∨h.nx≤id')∧∀j,j<h.nx→j≠id→h'.get j=h.get j:=by
 refine RnC.enter' Tryz.f87 _ 33 [.tmp 6] (hS.no _ _ _ (by simp)) bd87 Tryz.func87 rfl rfl rfl ?_
 have hu:=Tryz.underlying82
 have hz:=tz3
 have sA:=evSlice_three (P:=Tryz.prog) (id:=id) hu hz (show i+1≤n by omega) hn
 have sB:=evSlice_upto (P:=Tryz.prog) (id:=id) (off:=0) (n:=n) hu hz (show i≤K by omega)
 have sC:=evSlice_from1 (P:=Tryz.prog) (id:=id) (off:=0) (c:=some K) hu hz (show i+1≤n by omega)
 have c1:¬((i:Int)=(i:Int)+1):=by omega
 have hAl:(cs.take (i*1)).length=i*1:=by rw [List.length_take,hc];exact Nat.min_eq_left (Nat.mul_le_mul_right _ (by omega))
 have hBl:(cs.drop ((i+1)*1)).length=(n-(i+1))*1:=by rw [List.length_drop,hc,Nat.sub_mul]
 have hsp:cs++J=cs.take (i*1)++(cs.drop (i*1)++J):=by rw [←List.append_assoc,List.take_append_drop]
 have hB:((cs++J).drop ((i+1)*1)).take ((n-(i+1))*1)=cs.drop ((i+1)*1):=by
  rw [List.drop_append_of_le_length (by rw [hc];omega),←hBl,List.take_left]
 have hBo:(cs.drop ((i+1)*1)).all oneA=true:=by
  rw [←List.take_append_drop ((i+1)*1) cs,List.all_append,Bool.and_eq_true] at ho
  exact ho.2
 have nn:n-(n-1)=1:=by omega
 have hg9:({ tr:=h.tr,nx:=h.nx+8 }:AH).get id=_:=hg
 have sD:=evSlice_both (P:=Tryz.prog) (id:=id) (m:=n-1) (c:=K) hu hz (show n-1≤n by omega) hn
 rw [nn] at sD
 by_cases hk:n-(i+1)=0
 ·obtain ⟨r,hr⟩:=put_front (A:=cs.take (i*1)) (R:=cs.drop (i*1)++J) (B:=[.int .i64 0])
  rw [←hsp,hAl] at hr
  have hin:n-1=i:=by omega
  have e3:cs.drop ((i+1)*1)=[]:=List.length_eq_zero_iff.1 (by rw [hBl,hk,Nat.zero_mul])
  have ap:evAppend Tryz.prog { tr:=h.tr,nx:=h.nx+8 } #[82,82] (.sl id 0 i 1 (some K)) (.sl id ((i+1)*1) (n-(i+1)) 1 (some (K-(i+1))))=some (.val (.sl id 0 i 1 (some K)) { tr:=h.tr,nx:=h.nx+8 }):=by
   have hle:(i+1)*1≤(cs++J).length:=by rw [hJ];exact Nat.mul_le_mul_right _ (by omega)
   have hnew:=firstA_sl (c:=some (K-(i+1))) (n:=n-(i+1)) (k:=n-(i+1)) (sz:=1) (off:=(i+1)*1) hg9 (Nat.le_refl _) (by omega)
   have hold:=firstA_sl (c:=some K) (n:=i) (k:=i) (sz:=1) (off:=0) hg9 (Nat.le_refl i) (by rw [hJ];omega)
   rw [evAppend_eq hu hu (by rfl) ajIn rfl hnew rfl hold (by rw [hB];exact hBo) (by omega) (by omega) rfl,if_pos hk]
  have cl:=evClear_one (P:=Tryz.prog) (id:=id) (off:=(n-1)*1) (c:=some (K-(n-1))) (h:={ tr:=h.tr,nx:=h.nx+8 }) (z:=1) hu zc3 (by rfl) rfl hg9 (by rw [hJ];omega)
  rw [hin,hr] at cl
  rw [hin] at sD
  simp -dsimp only [go_sem,evLen,sA,c1,sB,sC]
  refine syDraw.keepN 0 (fun _=>True) (by kernel_rfl) (by kernel_rfl) rfl ?_
  simp -dsimp only [go_sem,evLen,sB,sC,ap]
  simp -dsimp only [go_sem,evLen,sD,hin,cl]
  exact ⟨id,_,[.int .i64 0]++r,rfl,by rw [e3];first | exact AH.get_put_eq rfl | (simp;exact AH.get_put_eq rfl),.inl rfl,fun j _ hj=>AH.get_put_ne hj⟩
 ·obtain ⟨r,hr⟩:=del_cells (A:=cs.take (i*1)) (R:=cs.drop (i*1)++J) (B:=cs.drop ((i+1)*1)) (z:=[.int .i64 0]) (by simp only [List.length_append,List.length_drop];omega)
  have e6:i*1+(n-(i+1))*1=(n-1)*1:=by omega
  rw [←hsp,hAl,hBl,e6] at hr
  have ap:=evAppend_tail (P:=Tryz.prog) (h:={ tr:=h.tr,nx:=h.nx+8 }) (d:=some (K-(i+1))) (k:=n-(i+1)) hu ajIn hg9 hJ (show i+1+(n-(i+1))=n by omega) hk hn (by rw [hB];exact hBo) (by omega) (by omega)
  rw [hB,show i+(n-(i+1))=n-1 by omega] at ap
  have hCl:(putCells (cs++J) (i*1) (cs.drop ((i+1)*1))).length=K*1:=by rw [putCells_length _ _ _ (by rw [hJ,hBl];omega),hJ]
  generalize hC1:putCells (cs++J) (i*1) (cs.drop ((i+1)*1))=C1 at *
  have hg2:(({ tr:=h.tr,nx:=h.nx+8 }:AH).put id (.cells C1 true false)).get id=_:=AH.get_put_eq rfl
  have cl:=evClear_one (P:=Tryz.prog) (id:=id) (off:=(n-1)*1) (c:=some (K-(n-1))) (h:=({ tr:=h.tr,nx:=h.nx+8 }:AH).put id (.cells C1 true false)) (z:=1) hu zc3 (by rfl) rfl hg2 (by rw [hCl];omega)
  rw [hr] at cl
  simp -dsimp only [go_sem,evLen,sA,c1,sB,sC]
  refine syDraw.keepN 0 (fun _=>True) (by kernel_rfl) (by kernel_rfl) rfl ?_
  simp -dsimp only [go_sem,evLen,sB,sC,ap]
  simp -dsimp only [go_sem,evLen,sD,cl]
  exact ⟨id,_,r,rfl,by first | exact AH.get_put_eq rfl | (simp;exact AH.get_put_eq rfl),.inl rfl,fun j _ hj=>(AH.get_put_ne hj).trans (AH.get_put_ne hj)⟩
end
structure Ni (S:Sums):Prop extends Na S where
 insHd:∀args h,S 102 args h=sumIns 12 args h
 insMt:∀args h,S 89 args h=sumIns 2 args h
 insRw:∀args h,S 84 args h=sumIns 2 args h
 insIn:∀args h,S 88 args h=sumIns 1 args h
 delRw:∀args h,S 85 args h=sumDel 2 args h
 delIn:∀args h,S 87 args h=sumDel 1 args h
section
variable {S : Sums}
theorem insHdC (hS:Ni S) {n0:Nat} {h:AH} {v:AV} {n i jd:Nat} {cs xs:List AV} (hb:Ez 12 n0 h v cs) (hc:cs.length=n*12) (hi:i≤n) (hn:n≤1000000) (hx:h.get jd=some (.cells xs true false)) (hxl:xs.length=12) (hne:∀id o n c,v=.sl id o n 12 c→jd≠id) (ho:cs.all oneA=true) (hxo:xs.all oneA=true) (h0:n0≤h.nx) :
  RnC Tryz.prog S 102 [v,.int .i64 (i:Nat),.sl jd 0 1 12 (some 1)] h fun r h'=>∃id,r=.sl id 0 (n+1) 12 none∧Ez 12 n0 h' r (cs.take (i*12)++xs++cs.drop (i*12))∧h.nx≤id∧h.nx≤h'.nx∧∀j,j<h.nx→(∀id o n c,v=.sl id o n 12 c→j≠id)→h'.get j=h.get j:=by
 have hu:=Tryz.underlying25
 have hnew:=fun c=>firstA_sl (c:=c) (n:=1) (k:=1) (sz:=12) (off:=0) hx (Nat.le_refl 1) (by omega)
 rw [List.drop_zero,Nat.one_mul,←hxl,List.take_length,hxl] at hnew
 have small:n=0→(v=.nilsl∨∃id,v=.sl id 0 0 12 (some 0)∧h.get id=some (.cells [] true true))→RnC Tryz.prog S 102 [v,.int .i64 (i:Nat),.sl jd 0 1 12 (some 1)] h fun r h'=>∃id,r=.sl id 0 (n+1) 12 none∧Ez 12 n0 h' r (cs.take (i*12)++xs++cs.drop (i*12))∧h.nx≤id∧h.nx≤h'.nx∧∀j,j<h.nx→(∀id o n c,v=.sl id o n 12 c→j≠id)→h'.get j=h.get j:=by
  intro hn0 hv
  subst hn0
  obtain rfl:i=0:=by omega
  have hcs:cs=[]:=List.length_eq_zero_iff.1 (by omega)
  subst hcs
  have hz:=tz49
  have key:∀s,(s=.nilsl∨∃id,s=.sl id 0 0 12 (some 0)∧h.get id=some (.cells [] true true))→evAppend Tryz.prog h #[25,25] s (.sl jd 0 1 12 (some 1))=some (.val (.sl h.nx 0 1 12 none) (h.new (.cells xs true false))):=by
   rintro s (rfl | ⟨id,rfl,hg⟩)
   ·rw [evAppend_eq hu hu (by rfl) ajHd rfl (hnew _) rfl rfl hxo (by decide) (by decide) rfl]
    first | done | rfl
   ·rw [evAppend_eq hu hu (by rfl) ajHd rfl (hnew _) rfl (by rw [firstA_sl hg (Nat.le_refl _) (by decide)]) hxo (by decide) (by decide) rfl]
    first | done | rfl
  have s1:∀g,evSlice Tryz.prog g 25 .nilsl (some (.int .i64 0)) none none=some .nilsl:=fun g=>by simp [evSlice,hu,hz,boundsA,boundA,upTo]
  have s2:∀g id,evSlice Tryz.prog g 25 (.sl id 0 0 12 (some 0)) (some (.int .i64 0)) none none=some (.sl id 0 0 12 (some 0)):=fun g id=>by simp [evSlice,hu,hz,boundsA,boundA,upTo]
  refine RnC.mono (Q:=fun r h'=>r=.sl h.nx 0 1 12 none∧h'=h.new (.cells xs true false)) (RnC.enter' Tryz.f102 _ 95 [.tmp 6] ?_ bd102 Tryz.func102 rfl rfl rfl ?_) ?_
  ·rw [hS.insHd]
   rcases hv with rfl | ⟨id,rfl,hg⟩
   ·exact sumIns_nil _ _ _ _
   ·exact sumIns_text hg (o:=0)
  ·have k1:=key v hv
   rcases hv with rfl | ⟨id,rfl,hg⟩
   ·simp -dsimp only [go_sem,evLen,s1,k1]
    first | done | exact ⟨by first | trivial | rfl,by first | trivial | rfl⟩
   ·simp -dsimp only [go_sem,evLen,s2,k1]
    first | done | exact ⟨by first | trivial | rfl,by first | trivial | rfl⟩
  ·rintro r h' ⟨rfl,rfl⟩
   exact ⟨h.nx,rfl,.inr ⟨h.nx,1,none,false,rfl,(AH.get_new_eq rfl).trans (by simp),Nat.lt_succ_self _,h0,by simp [hxl],.inl rfl,.inl rfl⟩,Nat.le_refl _,Nat.le_succ _,fun j hj _=>AH.get_new_ne (Nat.ne_of_lt hj)⟩
 rcases hb with ⟨rfl,rfl⟩ | ⟨id,m,c,tx,rfl,h2,h3,h4,h5,h6,h7⟩
 ·refine small ?_ (.inl rfl)
  simp at hc
  omega
 ·obtain rfl:m=n:=by omega
  cases tx with
  | false =>
   refine RnC.sum (by rw [hS.insHd];exact sumIns_at h2 hx (Ne.symm (hne _ _ _ _ rfl)) hc hi hn hxl ho hxo) ?_
   exact ⟨h.nx,rfl,.inr ⟨h.nx,m+1,none,false,rfl,AH.get_new_eq rfl,Nat.lt_succ_self _,h0,by simp only [List.length_append,List.length_take,List.length_drop];omega,.inl rfl,.inl rfl⟩,Nat.le_refl _,Nat.le_succ _,fun j hj hh=>(AH.get_new_ne (h:=h.del id) (Nat.ne_of_lt hj)).trans (by rw [AH.get_del,if_neg (hh _ _ _ _ rfl)])⟩
  | true =>
   rcases h7 with h7 | ⟨rfl,rfl⟩
   ·cases h7
   ·have hm:m=0:=by
     simp at hc
     omega
    subst hm
    exact small rfl (.inr ⟨id,rfl,h2⟩)
theorem insMtC (hS:Ni S) {n0:Nat} {h:AH} {v:AV} {n i jd:Nat} {cs xs:List AV} (hb:Ez 2 n0 h v cs) (hc:cs.length=n*2) (hi:i≤n) (hn:n≤1000000) (hx:h.get jd=some (.cells xs true false)) (hxl:xs.length=2) (hne:∀id o n c,v=.sl id o n 2 c→jd≠id) (ho:cs.all oneA=true) (hxo:xs.all oneA=true) (h0:n0≤h.nx) :
  RnC Tryz.prog S 89 [v,.int .i64 (i:Nat),.sl jd 0 1 2 (some 1)] h fun r h'=>∃id,r=.sl id 0 (n+1) 2 none∧Ez 2 n0 h' r (cs.take (i*2)++xs++cs.drop (i*2))∧h.nx≤id∧h.nx≤h'.nx∧∀j,j<h.nx→(∀id o n c,v=.sl id o n 2 c→j≠id)→h'.get j=h.get j:=by
 have hu:=Tryz.underlying26
 have hnew:=fun c=>firstA_sl (c:=c) (n:=1) (k:=1) (sz:=2) (off:=0) hx (Nat.le_refl 1) (by omega)
 rw [List.drop_zero,Nat.one_mul,←hxl,List.take_length,hxl] at hnew
 have small:n=0→(v=.nilsl∨∃id,v=.sl id 0 0 2 (some 0)∧h.get id=some (.cells [] true true))→RnC Tryz.prog S 89 [v,.int .i64 (i:Nat),.sl jd 0 1 2 (some 1)] h fun r h'=>∃id,r=.sl id 0 (n+1) 2 none∧Ez 2 n0 h' r (cs.take (i*2)++xs++cs.drop (i*2))∧h.nx≤id∧h.nx≤h'.nx∧∀j,j<h.nx→(∀id o n c,v=.sl id o n 2 c→j≠id)→h'.get j=h.get j:=by
  intro hn0 hv
  subst hn0
  obtain rfl:i=0:=by omega
  have hcs:cs=[]:=List.length_eq_zero_iff.1 (by omega)
  subst hcs
  have hz:=tz43
  have key:∀s,(s=.nilsl∨∃id,s=.sl id 0 0 2 (some 0)∧h.get id=some (.cells [] true true))→evAppend Tryz.prog h #[26,26] s (.sl jd 0 1 2 (some 1))=some (.val (.sl h.nx 0 1 2 none) (h.new (.cells xs true false))):=by
   rintro s (rfl | ⟨id,rfl,hg⟩)
   ·rw [evAppend_eq hu hu (by rfl) ajMt rfl (hnew _) rfl rfl hxo (by decide) (by decide) rfl]
    first | done | rfl
   ·rw [evAppend_eq hu hu (by rfl) ajMt rfl (hnew _) rfl (by rw [firstA_sl hg (Nat.le_refl _) (by decide)]) hxo (by decide) (by decide) rfl]
    first | done | rfl
  have s1:∀g,evSlice Tryz.prog g 26 .nilsl (some (.int .i64 0)) none none=some .nilsl:=fun g=>by simp [evSlice,hu,hz,boundsA,boundA,upTo]
  have s2:∀g id,evSlice Tryz.prog g 26 (.sl id 0 0 2 (some 0)) (some (.int .i64 0)) none none=some (.sl id 0 0 2 (some 0)):=fun g id=>by simp [evSlice,hu,hz,boundsA,boundA,upTo]
  refine RnC.mono (Q:=fun r h'=>r=.sl h.nx 0 1 2 none∧h'=h.new (.cells xs true false)) (RnC.enter' Tryz.f89 _ 95 [.tmp 6] ?_ bd89 Tryz.func89 rfl rfl rfl ?_) ?_
  ·rw [hS.insMt]
   rcases hv with rfl | ⟨id,rfl,hg⟩
   ·exact sumIns_nil _ _ _ _
   ·exact sumIns_text hg (o:=0)
  ·have k1:=key v hv
   rcases hv with rfl | ⟨id,rfl,hg⟩
   ·simp -dsimp only [go_sem,evLen,s1,k1]
    first | done | exact ⟨by first | trivial | rfl,by first | trivial | rfl⟩
   ·simp -dsimp only [go_sem,evLen,s2,k1]
    first | done | exact ⟨by first | trivial | rfl,by first | trivial | rfl⟩
  ·rintro r h' ⟨rfl,rfl⟩
   exact ⟨h.nx,rfl,.inr ⟨h.nx,1,none,false,rfl,(AH.get_new_eq rfl).trans (by simp),Nat.lt_succ_self _,h0,by simp [hxl],.inl rfl,.inl rfl⟩,Nat.le_refl _,Nat.le_succ _,fun j hj _=>AH.get_new_ne (Nat.ne_of_lt hj)⟩
 rcases hb with ⟨rfl,rfl⟩ | ⟨id,m,c,tx,rfl,h2,h3,h4,h5,h6,h7⟩
 ·refine small ?_ (.inl rfl)
  simp at hc
  omega
 ·obtain rfl:m=n:=by omega
  cases tx with
  | false =>
   refine RnC.sum (by rw [hS.insMt];exact sumIns_at h2 hx (Ne.symm (hne _ _ _ _ rfl)) hc hi hn hxl ho hxo) ?_
   exact ⟨h.nx,rfl,.inr ⟨h.nx,m+1,none,false,rfl,AH.get_new_eq rfl,Nat.lt_succ_self _,h0,by simp only [List.length_append,List.length_take,List.length_drop];omega,.inl rfl,.inl rfl⟩,Nat.le_refl _,Nat.le_succ _,fun j hj hh=>(AH.get_new_ne (h:=h.del id) (Nat.ne_of_lt hj)).trans (by rw [AH.get_del,if_neg (hh _ _ _ _ rfl)])⟩
  | true =>
   rcases h7 with h7 | ⟨rfl,rfl⟩
   ·cases h7
   ·have hm:m=0:=by
     simp at hc
     omega
    subst hm
    exact small rfl (.inr ⟨id,rfl,h2⟩)
theorem insRwC (hS:Ni S) {n0:Nat} {h:AH} {v:AV} {n i jd:Nat} {cs xs:List AV} (hb:Ez 2 n0 h v cs) (hc:cs.length=n*2) (hi:i≤n) (hn:n≤1000000) (hx:h.get jd=some (.cells xs true false)) (hxl:xs.length=2) (hne:∀id o n c,v=.sl id o n 2 c→jd≠id) (ho:cs.all oneA=true) (hxo:xs.all oneA=true) (h0:n0≤h.nx) :
  RnC Tryz.prog S 84 [v,.int .i64 (i:Nat),.sl jd 0 1 2 (some 1)] h fun r h'=>∃id,r=.sl id 0 (n+1) 2 none∧Ez 2 n0 h' r (cs.take (i*2)++xs++cs.drop (i*2))∧h.nx≤id∧h.nx≤h'.nx∧∀j,j<h.nx→(∀id o n c,v=.sl id o n 2 c→j≠id)→h'.get j=h.get j:=by
 have hu:=Tryz.underlying41
 have hnew:=fun c=>firstA_sl (c:=c) (n:=1) (k:=1) (sz:=2) (off:=0) hx (Nat.le_refl 1) (by omega)
 rw [List.drop_zero,Nat.one_mul,←hxl,List.take_length,hxl] at hnew
 have small:n=0→(v=.nilsl∨∃id,v=.sl id 0 0 2 (some 0)∧h.get id=some (.cells [] true true))→RnC Tryz.prog S 84 [v,.int .i64 (i:Nat),.sl jd 0 1 2 (some 1)] h fun r h'=>∃id,r=.sl id 0 (n+1) 2 none∧Ez 2 n0 h' r (cs.take (i*2)++xs++cs.drop (i*2))∧h.nx≤id∧h.nx≤h'.nx∧∀j,j<h.nx→(∀id o n c,v=.sl id o n 2 c→j≠id)→h'.get j=h.get j:=by
  intro hn0 hv
  subst hn0
  obtain rfl:i=0:=by omega
  have hcs:cs=[]:=List.length_eq_zero_iff.1 (by omega)
  subst hcs
  have hz:=tz84
  have key:∀s,(s=.nilsl∨∃id,s=.sl id 0 0 2 (some 0)∧h.get id=some (.cells [] true true))→evAppend Tryz.prog h #[41,41] s (.sl jd 0 1 2 (some 1))=some (.val (.sl h.nx 0 1 2 none) (h.new (.cells xs true false))):=by
   rintro s (rfl | ⟨id,rfl,hg⟩)
   ·rw [evAppend_eq hu hu (by rfl) ajRw rfl (hnew _) rfl rfl hxo (by decide) (by decide) rfl]
    first | done | rfl
   ·rw [evAppend_eq hu hu (by rfl) ajRw rfl (hnew _) rfl (by rw [firstA_sl hg (Nat.le_refl _) (by decide)]) hxo (by decide) (by decide) rfl]
    first | done | rfl
  have s1:∀g,evSlice Tryz.prog g 41 .nilsl (some (.int .i64 0)) none none=some .nilsl:=fun g=>by simp [evSlice,hu,hz,boundsA,boundA,upTo]
  have s2:∀g id,evSlice Tryz.prog g 41 (.sl id 0 0 2 (some 0)) (some (.int .i64 0)) none none=some (.sl id 0 0 2 (some 0)):=fun g id=>by simp [evSlice,hu,hz,boundsA,boundA,upTo]
  refine RnC.mono (Q:=fun r h'=>r=.sl h.nx 0 1 2 none∧h'=h.new (.cells xs true false)) (RnC.enter' Tryz.f84 _ 95 [.tmp 6] ?_ bd84 Tryz.func84 rfl rfl rfl ?_) ?_
  ·rw [hS.insRw]
   rcases hv with rfl | ⟨id,rfl,hg⟩
   ·exact sumIns_nil _ _ _ _
   ·exact sumIns_text hg (o:=0)
  ·have k1:=key v hv
   rcases hv with rfl | ⟨id,rfl,hg⟩
   ·simp -dsimp only [go_sem,evLen,s1,k1]
    first | done | exact ⟨by first | trivial | rfl,by first | trivial | rfl⟩
   ·simp -dsimp only [go_sem,evLen,s2,k1]
    first | done | exact ⟨by first | trivial | rfl,by first | trivial | rfl⟩
  ·rintro r h' ⟨rfl,rfl⟩
   exact ⟨h.nx,rfl,.inr ⟨h.nx,1,none,false,rfl,(AH.get_new_eq rfl).trans (by simp),Nat.lt_succ_self _,h0,by simp [hxl],.inl rfl,.inl rfl⟩,Nat.le_refl _,Nat.le_succ _,fun j hj _=>AH.get_new_ne (Nat.ne_of_lt hj)⟩
 rcases hb with ⟨rfl,rfl⟩ | ⟨id,m,c,tx,rfl,h2,h3,h4,h5,h6,h7⟩
 ·refine small ?_ (.inl rfl)
  simp at hc
  omega
 ·obtain rfl:m=n:=by omega
  cases tx with
  | false =>
   refine RnC.sum (by rw [hS.insRw];exact sumIns_at h2 hx (Ne.symm (hne _ _ _ _ rfl)) hc hi hn hxl ho hxo) ?_
   exact ⟨h.nx,rfl,.inr ⟨h.nx,m+1,none,false,rfl,AH.get_new_eq rfl,Nat.lt_succ_self _,h0,by simp only [List.length_append,List.length_take,List.length_drop];omega,.inl rfl,.inl rfl⟩,Nat.le_refl _,Nat.le_succ _,fun j hj hh=>(AH.get_new_ne (h:=h.del id) (Nat.ne_of_lt hj)).trans (by rw [AH.get_del,if_neg (hh _ _ _ _ rfl)])⟩
  | true =>
   rcases h7 with h7 | ⟨rfl,rfl⟩
   ·cases h7
   ·have hm:m=0:=by
     simp at hc
     omega
    subst hm
    exact small rfl (.inr ⟨id,rfl,h2⟩)
theorem insInC (hS:Ni S) {n0:Nat} {h:AH} {v:AV} {n i jd:Nat} {cs xs:List AV} (hb:Ez 1 n0 h v cs) (hc:cs.length=n*1) (hi:i≤n) (hn:n≤1000000) (hx:h.get jd=some (.cells xs true false)) (hxl:xs.length=1) (hne:∀id o n c,v=.sl id o n 1 c→jd≠id) (ho:cs.all oneA=true) (hxo:xs.all oneA=true) (h0:n0≤h.nx) :
  RnC Tryz.prog S 88 [v,.int .i64 (i:Nat),.sl jd 0 1 1 (some 1)] h fun r h'=>∃id,r=.sl id 0 (n+1) 1 none∧Ez 1 n0 h' r (cs.take (i*1)++xs++cs.drop (i*1))∧h.nx≤id∧h.nx≤h'.nx∧∀j,j<h.nx→(∀id o n c,v=.sl id o n 1 c→j≠id)→h'.get j=h.get j:=by
 have hu:=Tryz.underlying82
 have hnew:=fun c=>firstA_sl (c:=c) (n:=1) (k:=1) (sz:=1) (off:=0) hx (Nat.le_refl 1) (by omega)
 rw [List.drop_zero,Nat.one_mul,←hxl,List.take_length,hxl] at hnew
 have small:n=0→(v=.nilsl∨∃id,v=.sl id 0 0 1 (some 0)∧h.get id=some (.cells [] true true))→RnC Tryz.prog S 88 [v,.int .i64 (i:Nat),.sl jd 0 1 1 (some 1)] h fun r h'=>∃id,r=.sl id 0 (n+1) 1 none∧Ez 1 n0 h' r (cs.take (i*1)++xs++cs.drop (i*1))∧h.nx≤id∧h.nx≤h'.nx∧∀j,j<h.nx→(∀id o n c,v=.sl id o n 1 c→j≠id)→h'.get j=h.get j:=by
  intro hn0 hv
  subst hn0
  obtain rfl:i=0:=by omega
  have hcs:cs=[]:=List.length_eq_zero_iff.1 (by omega)
  subst hcs
  have hz:=tz3
  have key:∀s,(s=.nilsl∨∃id,s=.sl id 0 0 1 (some 0)∧h.get id=some (.cells [] true true))→evAppend Tryz.prog h #[82,82] s (.sl jd 0 1 1 (some 1))=some (.val (.sl h.nx 0 1 1 none) (h.new (.cells xs true false))):=by
   rintro s (rfl | ⟨id,rfl,hg⟩)
   ·rw [evAppend_eq hu hu (by rfl) ajIn rfl (hnew _) rfl rfl hxo (by decide) (by decide) rfl]
    first | done | rfl
   ·rw [evAppend_eq hu hu (by rfl) ajIn rfl (hnew _) rfl (by rw [firstA_sl hg (Nat.le_refl _) (by decide)]) hxo (by decide) (by decide) rfl]
    first | done | rfl
  have s1:∀g,evSlice Tryz.prog g 82 .nilsl (some (.int .i64 0)) none none=some .nilsl:=fun g=>by simp [evSlice,hu,hz,boundsA,boundA,upTo]
  have s2:∀g id,evSlice Tryz.prog g 82 (.sl id 0 0 1 (some 0)) (some (.int .i64 0)) none none=some (.sl id 0 0 1 (some 0)):=fun g id=>by simp [evSlice,hu,hz,boundsA,boundA,upTo]
  refine RnC.mono (Q:=fun r h'=>r=.sl h.nx 0 1 1 none∧h'=h.new (.cells xs true false)) (RnC.enter' Tryz.f88 _ 95 [.tmp 6] ?_ bd88 Tryz.func88 rfl rfl rfl ?_) ?_
  ·rw [hS.insIn]
   rcases hv with rfl | ⟨id,rfl,hg⟩
   ·exact sumIns_nil _ _ _ _
   ·exact sumIns_text hg (o:=0)
  ·have k1:=key v hv
   rcases hv with rfl | ⟨id,rfl,hg⟩
   ·simp -dsimp only [go_sem,evLen,s1,k1]
    first | done | exact ⟨by first | trivial | rfl,by first | trivial | rfl⟩
   ·simp -dsimp only [go_sem,evLen,s2,k1]
    first | done | exact ⟨by first | trivial | rfl,by first | trivial | rfl⟩
  ·rintro r h' ⟨rfl,rfl⟩
   exact ⟨h.nx,rfl,.inr ⟨h.nx,1,none,false,rfl,(AH.get_new_eq rfl).trans (by simp),Nat.lt_succ_self _,h0,by simp [hxl],.inl rfl,.inl rfl⟩,Nat.le_refl _,Nat.le_succ _,fun j hj _=>AH.get_new_ne (Nat.ne_of_lt hj)⟩
 rcases hb with ⟨rfl,rfl⟩ | ⟨id,m,c,tx,rfl,h2,h3,h4,h5,h6,h7⟩
 ·refine small ?_ (.inl rfl)
  simp at hc
  omega
 ·obtain rfl:m=n:=by omega
  cases tx with
  | false =>
   refine RnC.sum (by rw [hS.insIn];exact sumIns_at h2 hx (Ne.symm (hne _ _ _ _ rfl)) hc hi hn hxl ho hxo) ?_
   exact ⟨h.nx,rfl,.inr ⟨h.nx,m+1,none,false,rfl,AH.get_new_eq rfl,Nat.lt_succ_self _,h0,by simp only [List.length_append,List.length_take,List.length_drop];omega,.inl rfl,.inl rfl⟩,Nat.le_refl _,Nat.le_succ _,fun j hj hh=>(AH.get_new_ne (h:=h.del id) (Nat.ne_of_lt hj)).trans (by rw [AH.get_del,if_neg (hh _ _ _ _ rfl)])⟩
  | true =>
   rcases h7 with h7 | ⟨rfl,rfl⟩
   ·cases h7
   ·have hm:m=0:=by
     simp at hc
     omega
    subst hm
    exact small rfl (.inr ⟨id,rfl,h2⟩)
theorem delRwC (hS:Ni S) {n0:Nat} {h:AH} {v:AV} {n i:Nat} {cs:List AV} (hb:Ez 2 n0 h v cs) (hc:cs.length=n*2) (hi:i<n) (hn:n≤1000000) (ho:cs.all oneA=true) (h0:n0≤h.nx) :
  RnC Tryz.prog S 85 [v,.int .i64 (i:Nat),.int .i64 ((i:Int)+1)] h fun r h'=>∃id,r=.sl id 0 (n-1) 2 none∧Ez 2 n0 h' r (cs.take (i*2)++cs.drop ((i+1)*2))∧h.nx≤id∧h.nx≤h'.nx∧∀j,j<h.nx→(∀id o n c,v=.sl id o n 2 c→j≠id)→h'.get j=h.get j:=by
 rcases hb with ⟨rfl,rfl⟩ | ⟨id,m,c,tx,rfl,h2,h3,h4,h5,h6,h7⟩
 ·exfalso
  simp at hc
  omega
 ·obtain rfl:m=n:=by omega
  have ht:tx=false:=by
   rcases h7 with h7 | ⟨rfl,_⟩
   ·exact h7
   ·simp at hc
    omega
  subst ht
  refine RnC.sum (by rw [hS.delRw];exact sumDel_at h2 hc hi hn ho) ?_
  exact ⟨h.nx,rfl,.inr ⟨h.nx,m-1,none,false,rfl,AH.get_new_eq rfl,Nat.lt_succ_self _,h0,by simp only [List.length_append,List.length_take,List.length_drop];omega,.inl rfl,.inl rfl⟩,Nat.le_refl _,Nat.le_succ _,fun j hj hh=>(AH.get_new_ne (h:=h.del id) (Nat.ne_of_lt hj)).trans (by rw [AH.get_del,if_neg (hh _ _ _ _ rfl)])⟩
theorem delInC (hS:Ni S) {n0:Nat} {h:AH} {v:AV} {n i:Nat} {cs:List AV} (hb:Ez 1 n0 h v cs) (hc:cs.length=n*1) (hi:i<n) (hn:n≤1000000) (ho:cs.all oneA=true) (h0:n0≤h.nx) :
  RnC Tryz.prog S 87 [v,.int .i64 (i:Nat),.int .i64 ((i:Int)+1)] h fun r h'=>∃id,r=.sl id 0 (n-1) 1 none∧Ez 1 n0 h' r (cs.take (i*1)++cs.drop ((i+1)*1))∧h.nx≤id∧h.nx≤h'.nx∧∀j,j<h.nx→(∀id o n c,v=.sl id o n 1 c→j≠id)→h'.get j=h.get j:=by
 rcases hb with ⟨rfl,rfl⟩ | ⟨id,m,c,tx,rfl,h2,h3,h4,h5,h6,h7⟩
 ·exfalso
  simp at hc
  omega
 ·obtain rfl:m=n:=by omega
  have ht:tx=false:=by
   rcases h7 with h7 | ⟨rfl,_⟩
   ·exact h7
   ·simp at hc
    omega
  subst ht
  refine RnC.sum (by rw [hS.delIn];exact sumDel_at h2 hc hi hn ho) ?_
  exact ⟨h.nx,rfl,.inr ⟨h.nx,m-1,none,false,rfl,AH.get_new_eq rfl,Nat.lt_succ_self _,h0,by simp only [List.length_append,List.length_take,List.length_drop];omega,.inl rfl,.inl rfl⟩,Nat.le_refl _,Nat.le_succ _,fun j hj hh=>(AH.get_new_ne (h:=h.del id) (Nat.ne_of_lt hj)).trans (by rw [AH.get_del,if_neg (hh _ _ _ _ rfl)])⟩
end
theorem elRa:El 7 Ra:=⟨fun a g=>a.gk g,fun a hk=>a.col hk,fun a=>ra7 a,by decide⟩
theorem elWa:El 2 Wa:=⟨fun a g=>a.gk g,fun a hk=>a.col hk,fun a=>by
 obtain ⟨v,rfl,h1⟩:=a
 exact ⟨rfl,by simp [h1.ln.2.2];rfl⟩,by decide⟩
theorem elMa:El 2 Ma:=⟨fun a g=>a.gk g,fun a hk=>a.col hk,fun a=>by
 obtain ⟨v,rfl,h1⟩:=a
 exact ⟨rfl,by simp [h1.ln.2.2];rfl⟩,by decide⟩
theorem nilRc (h:AH):binA Tryz.prog h .eql 44 .nilsl .nilsl=some (.bool true):=by kernel_rfl
theorem sliRc (h:AH) (a o n z:Nat) (c:Option Nat):binA Tryz.prog h .eql 44 (.sl a o n z c) .nilsl=some (.bool false):=by kernel_rfl
structure Nb (S:Sums):Prop extends Ni S where
 nb:∀f args h,f∈[41,42,22,70,74,73,56,57,75,58,59,43,44,45,46,90,62,91,92,69,100,47,71,23,7,12]→S f args h=none
section
variable {S : Sums}
theorem cloneRcO (hS:Nb S) {K:Nat→Nat} {h:AH} {v:AV} {l:List Rc} (hv:Rs K h v l) (top:∀j,h.nx≤j→K j=0):RnC Tryz.prog S 41 [v] h fun r h'=>(∃K',(∀j,j<h.nx→K' j=K j)∧(∀j,h'.nx≤j→K' j=0)∧(∀j,K' j≠0→K j≠0∨∃o n c,r=.sl j o n 7 c)∧Oz 7 Ra h.nx K' h' r l)∧Fr h h':=by
 refine RnC.enter' Tryz.f41 _ 8 [.tmp 2] (hS.nb _ _ _ (by simp)) bd41 Tryz.func41 rfl rfl rfl ?_
 have hl2:=hv.2
 obtain ⟨m,hm,hml,hall,hel⟩:=Sl.fl elRa hv.1
 rcases flShape hm with ⟨rfl,hm0⟩ | ⟨a,o,n,c,rfl⟩
 ·simp -dsimp only [go_sem,nilRc]
  rw [hm0] at hml
  have hl0:l=[]:=List.length_eq_zero_iff.1 (by simp at hml;omega)
  subst hl0
  exact ⟨⟨K,fun _ _=>rfl,top,fun j hj=>.inl hj,Oz.nil _ _ _⟩,Fr.refl _⟩
 ·obtain ⟨v',h',e1,e2,e3,e4⟩:=Fl.own hm Tryz.underlying44 aiRc (by decide) hall (by omega) (by omega)
  obtain ⟨K',k1,k2,k3,k4⟩:=Oz.made elRa top e2 e3 hml hel
  simp -dsimp only [go_sem,sliRc,e1,e4]
  exact ⟨⟨K',k1,k2,k3,k4⟩,e2⟩
theorem cloneRwO (hS:Nb S) {K:Nat→Nat} {h:AH} {v:AV} {l:List Rw} (hv:Ws K h v l) (top:∀j,h.nx≤j→K j=0):RnC Tryz.prog S 54 [v] h fun r h'=>(∃K',(∀j,j<h.nx→K' j=K j)∧(∀j,h'.nx≤j→K' j=0)∧(∀j,K' j≠0→K j≠0∨∃o n c,r=.sl j o n 2 c)∧Oz 2 Wa h.nx K' h' r l)∧Fr h h':=by
 refine RnC.enter' Tryz.f54 _ 8 [.tmp 2] (hS.ny _ _ _ (by simp)) bd54 Tryz.func54 rfl rfl rfl ?_
 have hl2:=hv.2
 obtain ⟨m,hm,hml,hall,hel⟩:=Sl.fl elWa hv.1
 rcases flShape hm with ⟨rfl,hm0⟩ | ⟨a,o,n,c,rfl⟩
 ·simp -dsimp only [go_sem,nilRw]
  rw [hm0] at hml
  have hl0:l=[]:=List.length_eq_zero_iff.1 (by simp at hml;omega)
  subst hl0
  exact ⟨⟨K,fun _ _=>rfl,top,fun j hj=>.inl hj,Oz.nil _ _ _⟩,Fr.refl _⟩
 ·obtain ⟨v',h',e1,e2,e3,e4⟩:=Fl.own hm Tryz.underlying41 aiRw (by decide) hall (by omega) (by omega)
  obtain ⟨K',k1,k2,k3,k4⟩:=Oz.made elWa top e2 e3 hml hel
  simp -dsimp only [go_sem,sliRw,e1,e4]
  exact ⟨⟨K',k1,k2,k3,k4⟩,e2⟩
end
section
variable {S : Sums}
theorem ownC (hS:Nb S) {K:Nat→Nat} {h:AH} {cs:List AV} {m:Mt} (hm:Ma K h cs m) (top:∀j,h.nx≤j→K j=0):RnC Tryz.prog S 42 [.agg cs] h fun r h'=>(∃cs',r=.agg cs'∧Ma K h' cs' m)∧Fr h h':=by
 obtain ⟨w,rfl,hw⟩:=hm
 refine RnC.enter' Tryz.f42 _ 27 [.cell 2 43] (hS.nb _ _ _ (by simp)) bd42 Tryz.func42 rfl rfl rfl ?_
 obtain ⟨lw,sw,ow⟩:=hw.ln
 have mw:=oneM ow
 have hl:=hw.2
 simp -dsimp (disch:=repeat first|rw [nxn]|rw [nxp]|omega) only [go_sem,ow,mw]
 generalize hg:((h.new (.cells [.int .i64 m.own,w] true false)).new (.cells [.int .i64 0,.nilsl] true false))=g1
 have n1:g1.nx=h.nx+2:=by rw [←hg];rfl
 have f1:Fr h g1:=by rw [←hg];exact (Fr.new _ _).news _
 have q1:g1.get h.nx=some (.cells [.int .i64 m.own,w] true false):=by rw [←hg];exact (AH.get_new_ne (by simp [AH.new])).trans (AH.get_new_eq rfl)
 have q2:g1.get (h.nx+1)=some (.cells [.int .i64 0,.nilsl] true false):=by rw [←hg];exact AH.get_new_eq rfl
 clear hg
 have hw1:Ws (Kb K h.nx (h.nx+2)) g1 w m.rows:=(hw.col fun j hj hk=>(Kb.out (.inl hj)).trans hk).fr f1
 try simp -dsimp (disch:=repeat first|rw [nxn]|rw [nxp]|omega) only [go_sem,q1,ow,mw]
 refine callK_of (cloneRwO hS hw1 fun j hj=>(Kb.out (.inr (by omega))).trans (top j (by omega))) ?_
 rintro rv g2 ⟨⟨K1,k1,k2,k3,hz⟩,f2⟩
 have n2:=f2.nx
 have p1:=(f2.get _ (by omega)).trans q1
 have p2:=(f2.get _ (by omega)).trans q2
 obtain ⟨orv,srv⟩:=hz.one
 have mrv:=oneM orv
 have kb1:K1 h.nx≠0:=by rw [k1 _ (by omega)];exact Kb.in (Nat.le_refl _) (by omega)
 have kb2:K1 (h.nx+1)≠0:=by rw [k1 _ (by omega)];exact Kb.in (by omega) (by omega)
 have lrv:∀g,evLen Tryz.prog g #[41] rv=some (.int .i64 (m.rows.length:Nat)):=Sl.len (hz.sl elWa) Tryz.underlying41
 have crv:=cells1 orv
 simp -dsimp (disch:=repeat first|rw [nxn]|rw [nxp]|omega) only [go_sem,p1,orv,mrv,crv,lrv]
 have hz2:Oz 2 Wa g1.nx K1 (g2.put h.nx (.cells [.int .i64 m.own,rv] true false)) rv m.rows:=hz.keep elWa ((Gk.refl _ _).put (.inl kb1) _) fun id o n c hv=>AH.get_put_ne (by have:=(hz.id elWa hv).1;omega)
 generalize hg3:g2.put h.nx (.cells [.int .i64 m.own,rv] true false)=g3 at *
 have n3:g3.nx=g2.nx:=by rw [←hg3];rfl
 have r1:g3.get h.nx=some (.cells [.int .i64 m.own,rv] true false):=by rw [←hg3];exact AH.get_put_eq rfl
 have r2:g3.get (h.nx+1)=some (.cells [.int .i64 0,.nilsl] true false):=by rw [←hg3];exact (AH.get_put_ne (by omega)).trans p2
 have f3:Fr h g3:=by rw [←hg3];exact (f1.trans f2).put _ (Nat.le_refl _)
 clear hg3
 refine loopK_of (RnL.rounds (Q:=fun ex u=>u.d=[]∧ex=.exit 0∧Fr h u.h∧g3.nx≤u.h.nx∧u.h.get h.nx=some (.cells [.int .i64 m.own,rv] true false)∧u.h.get (h.nx+1)=some (.cells [.int .i64 0,.nilsl] true false)∧Oz 2 Wa g1.nx K1 u.h rv m.rows∧u.t.get 1=some (.ptr h.nx 0)∧u.t.get 2=some (.ptr (h.nx+1) 0))
  (fun k u=>u.d=[]∧Fr h u.h∧g3.nx≤u.h.nx∧u.h.get h.nx=some (.cells [.int .i64 m.own,rv] true false)∧u.h.get (h.nx+1)=some (.cells [.int .i64 0,.nilsl] true false)∧Oz 2 Wa g1.nx K1 u.h rv m.rows∧u.t.get 1=some (.ptr h.nx 0)∧u.t.get 2=some (.ptr (h.nx+1) 0)∧u.t.get 10=some rv∧u.t.get 11=some (.int .i64 (m.rows.length:Nat))∧∃i:Nat,u.t.get 12=some (.int .i64 (i:Nat))∧i≤m.rows.length∧k=m.rows.length-i) ?_ m.rows.length ?_) ?_
 ·rintro k ⟨tt,g,d⟩ ⟨e2,e1,e3,e4,e5,e6,t1,t2,t10,t11,i,t12,hi,rfl⟩
  dsimp only at e1 e2 e3 e4 e5 e6 t1 t2 t10 t11 t12
  subst e2
  by_cases c4:(i:Int)<(m.rows.length:Nat)
  ·have hil:i<m.rows.length:=by omega
   obtain ⟨x,hx⟩:∃x,m.rows[i]? = some x:=⟨_,List.getElem?_eq_getElem hil⟩
   obtain ⟨id,c,css,ce,A,B,rfl,z2,z3,z4,z5,z6,⟨wv,rfl,hwv⟩,z8,z9,z10,z11,z12,z13⟩:=e6.at elWa hx
   obtain ⟨lwv,swv,owv⟩:=hwv.ln
   have mwv:=oneM owv
   have ht2:(css.flatten.drop (i*2)).take 2=[.str x.folder,wv]:=by rw [z4,←z5,List.append_assoc,List.drop_left];rfl
   simp -dsimp (disch:=repeat first|rw [nxn]|rw [nxp]|omega) only [go_sem,c4,t1,t2,t10,t11,t12,hil,z2,z6,ht2,owv,mwv]
   have ff:Fr g ((g.new (.cells [.str [],.nilsl] true false)).put g.nx (.cells [.str x.folder,wv] true false)):=(Fr.new _ _).put _ (Nat.le_refl _)
   have w4:((g.new (.cells [.str [],.nilsl] true false)).put g.nx (.cells [.str x.folder,wv] true false)).get g.nx=some (.cells [.str x.folder,wv] true false):=AH.get_put_eq rfl
   have n4:((g.new (.cells [.str [],.nilsl] true false)).put g.nx (.cells [.str x.folder,wv] true false)).nx=g.nx+1:=rfl
   generalize (g.new (.cells [.str [],.nilsl] true false)).put g.nx (.cells [.str x.folder,wv] true false)=g4 at ff w4 n4 ⊢
   have w1:=(ff.get _ (by omega)).trans e4
   have w2:=(ff.get _ (by omega)).trans e5
   have hz4:=e6.fr elWa ff
   refine syDraw.keepN 8 (fun j=>j=h.nx∨j=g.nx) (by kernel_rfl) (by kernel_rfl) rfl ?_
   have fx:Fr g4 { tr:=g4.tr,nx:=g4.nx+9 }:=(Fr.refl g4).more _ (by omega)
   simp -dsimp (disch:=repeat first|rw [nxn]|rw [nxp]|omega) only [go_sem,t1,w1,w4,owv,mwv,orv,mrv,srv,swv,true_and,true_or,or_true,implies_true,svi,svb,svs,svp]
   refine callK_of (cloneInC hS.toMy ((hwv.fr ff).fr fx) fun j hj=>k2 j (by have:g4.nx+9≤j:=hj;omega)) ?_
   rintro nv g5 ⟨hnv,f5⟩
   have n5:g4.nx+9≤g5.nx:=f5.nx
   obtain ⟨lnv,snv,onv⟩:=hnv.ln
   have cnv:=cells1 onv
   have mnv:=oneM onv
   have hz5:=(hz4.fr elWa fx).fr elWa f5
   have f45:=fx.trans f5
   obtain ⟨id',c',css',ce',A',B',hv',y2,y3,y4,y5,y6,y7,y8,y9,y10,y11,y12,y13⟩:=hz5.at elWa hx
   cases hv'
   refine ⟨fun j hj=>f5.get j (by show j<g4.nx+9;rcases hj with rfl | rfl <;> omega),?_⟩
   have w15:=(f45.get _ (by omega)).trans w1
   obtain ⟨wv',rfl,hwv'⟩:=y7
   have hgk:Gk K1 g5 (g5.put id (.cells (putCells css'.flatten (i*2+1) [nv]) true false)):=(Gk.refl _ _).put (.inl y13) _
   have hz6:=hz5.put elWa (k:=1) (vs:=[nv]) (x':=x) rfl y2 y8 y9 hx y3 (Nat.le_refl _) ⟨nv,rfl,hnv.gk hgk⟩
   rw [set_same hx] at hz6
   have w25:=(f45.get _ (by omega)).trans w2
   have hne:∀j,j<g1.nx→(g5.put id (.cells (putCells css'.flatten (i*2+1) [nv]) true false)).get j=g5.get j:=fun j hj=>AH.get_put_ne (by omega)
   simp -dsimp (disch:=repeat first|rw [nxn]|rw [nxp]|omega) only [go_sem,hil,y2,y6,onv,cnv,mnv,snv,t12,t1,t2,t10,t11,true_and,true_or,or_true,implies_true,svi,svb,svs,svp]
   exact ⟨m.rows.length-(i+1),by omega,((e1.trans ff).trans f45).put _ (by omega),by omega,w15,w25,hz6,i+1,rfl,by omega,rfl⟩
  ·simp -dsimp (disch:=repeat first|rw [nxn]|rw [nxp]|omega) only [go_sem,c4,t1,t2,t10,t11,t12]
   exact ⟨trivial,trivial,e1,e3,e4,e5,e6,trivial,trivial⟩
 ·simp -dsimp (disch:=repeat first|rw [nxn]|rw [nxp]|omega) only [go_sem]
  exact ⟨trivial,f3,Nat.le_refl _,r1,r2,hz2,trivial,by first | trivial | rfl,trivial,trivial,0,rfl,Nat.zero_le _,rfl⟩
 ·rintro ex ⟨tt,g,d⟩ ⟨rfl,rfl,e1,e3,e4,e5,e6,t1,t2⟩
  dsimp only at e1 e3 e4 e5 e6 t1 t2
  simp -dsimp (disch:=repeat first|rw [nxn]|rw [nxp]|omega) only [go_sem,t1,t2,e4,e5,orv,mrv]
  have hk0:∀j,K1 j=0→K j=0:=fun j hj=>by
   rcases Nat.lt_or_ge j h.nx with hh | hh
   ·rw [k1 j (by omega)] at hj
    exact (Kb.out (.inl hh)).symm.trans hj
   ·exact top j hh
  have hz9:Oz 2 Wa g1.nx K1 (g.put (h.nx+1) (.cells [.int .i64 m.own,rv] true false)) rv m.rows:=e6.keep elWa ((Gk.refl _ _).put (.inl kb2) _) fun id o n c hv=>AH.get_put_ne (by have:=(e6.id elWa hv).1;omega)
  exact ⟨⟨_,rfl,rv,rfl,hz9.sls elWa (fun j _ hj=>hk0 j hj) (fun id o n c hv=>top _ (by have:=(e6.id elWa hv).1;omega)),hl⟩,e1.put _ (by omega)⟩
end
def inC (l:List Int):List AV:=l.flatMap fun i=>[AV.int .i64 i]
theorem inC_len (l:List Int):(inC l).length=l.length:=by
 unfold inC
 rw [flat_len _ 1 (fun _=>rfl),Nat.mul_one]
def Wy (n0:Nat) (K:Nat→Nat) (h:AH) (cs:List AV) (x:Rw):Prop:=∃v,cs=[.str x.folder,v]∧Ez 1 n0 h v (inC x.own)∧(∀a,blk v=some a→K a=5)∧x.own.length≤1000000
theorem eyW:Ey 2 1 Wy where
 gk:=fun ⟨v,e,h1,h2,h3⟩ g hh=>by subst e;exact ⟨v,rfl,h1.keepB g.nx hh,h2,h3⟩
 col:=fun ⟨v,e,h1,h2,h3⟩ hk hh=>by subst e;exact ⟨v,rfl,h1,hh,h3⟩
 own:=fun ⟨v,e,h1,h2,h3⟩ ha=>by subst e;exact ⟨h2 _ ha,h1.blkLt ha⟩
 len:=fun ⟨v,e,h1,h2,h3⟩=>by subst e;exact ⟨rfl,by simp [(Ez.one h1).2];rfl⟩
 pos:=by decide
theorem iv_of {n0:Nat} {K:Nat→Nat} {h:AH} {v:AV} {l:List Int} (hb:Ez 1 n0 h v (inC l)) (hl:l.length≤1000000) (hk:∀a,blk v=some a→K a=0):Iv K h v l:=⟨Fl.of hb fun id o n c hv=>hk id (by rw [hv];rfl),hl⟩
def Pw (n1 n2:Nat) (K1:Nat→Nat) (rv:AV) (rows:List Rw) (i:Nat) (g:AH):Prop :=
 ∃css:List (List AV),css.length=rows.length∧Ez 2 n2 g rv css.flatten∧(∀id o n c,rv=.sl id o n 2 c→K1 id≠0∧id<n1) ∧
  (∀(j:Nat) cs x,css[j]? = some cs→rows[j]? = some x→∃wv,cs=[.str x.folder,wv]∧(j<i→Ez 1 n1 g wv (inC x.own))∧(i≤j→Iv K1 g wv x.own)) ∧
  ∀(j k:Nat) cs ds a,j<i→k<i→css[j]? = some cs→css[k]? = some ds→inn 1 cs=some a→inn 1 ds=some a→j=k
section
variable {S : Sums}
theorem cloneInO (hS:My S) {K:Nat→Nat} {h:AH} {v:AV} {l:List Int} (hv:Iv K h v l):RnC Tryz.prog S 55 [v] h fun r h'=>Ez 1 h.nx h' r (inC l)∧oneA r=true∧sameAV 20 r r=true∧Fr h h':=by
 refine RnC.enter' Tryz.f55 _ 8 [.tmp 2] (hS.ny _ _ _ (by simp)) bd55 Tryz.func55 rfl rfl rfl ?_
 have hl:=ivc_len l
 have hl2:=hv.2
 rcases flShape hv.1 with ⟨rfl,hm⟩ | ⟨a,o,n,c,rfl⟩
 ·simp -dsimp only [go_sem,nilIn]
  exact ⟨.inl ⟨by first | trivial | rfl,hm⟩,by first | trivial | rfl,by first | trivial | rfl,Fr.refl _⟩
 ·obtain ⟨v',h',e1,e2,e3,e4⟩:=Fl.own hv.1 Tryz.underlying82 aiIn (by decide) (in_all l) (by omega) (by omega)
  simp -dsimp only [go_sem,sliIn,e1,e4]
  first | exact ⟨e3,(Ez.one e3).1,e2⟩ | exact ⟨e3,by first | trivial | exact e4,(Ez.one e3).1,e2⟩
theorem mcopyC (hS:Nb S) {K:Nat→Nat} {h:AH} {cs:List AV} {m:Mt} (hm:Ma K h cs m) (top:∀j,h.nx≤j→K j=0):RnC Tryz.prog S 82 [.agg cs] h fun r h'=>(∃rv K',r=.agg [.int .i64 m.own,rv]∧(∀j,j<h.nx→K' j=K j)∧(∀j,h'.nx≤j→K' j=0)∧Oy 2 1 Wy h.nx K' h' rv m.rows)∧Fr h h':=by
 obtain ⟨w,rfl,hw⟩:=hm
 refine RnC.enter' Tryz.f82 _ 28 [.cell 2 43] (hS.nx _ _ _ (by simp)) bd82 Tryz.func82 rfl rfl rfl ?_
 obtain ⟨lw,sw,ow⟩:=hw.ln
 have mw:=oneM ow
 have hl:=hw.2
 simp -dsimp (disch:=repeat first|rw [nxn]|rw [nxp]|omega) only [go_sem,ow,mw]
 generalize hg:((h.new (.cells [.int .i64 m.own,w] true false)).new (.cells [.int .i64 0,.nilsl] true false))=g1
 have n1:g1.nx=h.nx+2:=by rw [←hg];rfl
 have f1:Fr h g1:=by rw [←hg];exact (Fr.new _ _).news _
 have q1:g1.get h.nx=some (.cells [.int .i64 m.own,w] true false):=by rw [←hg];exact (AH.get_new_ne (by simp [AH.new])).trans (AH.get_new_eq rfl)
 have q2:g1.get (h.nx+1)=some (.cells [.int .i64 0,.nilsl] true false):=by rw [←hg];exact AH.get_new_eq rfl
 clear hg
 have hw1:Ws (Kb K h.nx (h.nx+2)) g1 w m.rows:=(hw.col fun j hj hk=>(Kb.out (.inl hj)).trans hk).fr f1
 try simp -dsimp (disch:=repeat first|rw [nxn]|rw [nxp]|omega) only [go_sem,q1,ow,mw]
 refine callK_of (cloneRwO hS hw1 fun j hj=>(Kb.out (.inr (by omega))).trans (top j (by omega))) ?_
 rintro rv g2 ⟨⟨K1,k1,k2,k3,hz⟩,f2⟩
 have n2:=f2.nx
 have p1:=(f2.get _ (by omega)).trans q1
 have p2:=(f2.get _ (by omega)).trans q2
 obtain ⟨orv,srv⟩:=hz.one
 have mrv:=oneM orv
 have kb1:K1 h.nx≠0:=by rw [k1 _ (by omega)];exact Kb.in (Nat.le_refl _) (by omega)
 have kb2:K1 (h.nx+1)≠0:=by rw [k1 _ (by omega)];exact Kb.in (by omega) (by omega)
 have lrv:∀g,evLen Tryz.prog g #[41] rv=some (.int .i64 (m.rows.length:Nat)):=Sl.len (hz.sl elWa) Tryz.underlying41
 have crv:=cells1 orv
 simp -dsimp (disch:=repeat first|rw [nxn]|rw [nxp]|omega) only [go_sem,p1,orv,mrv,crv,lrv]
 have hz2:Oz 2 Wa g1.nx K1 (g2.put h.nx (.cells [.int .i64 m.own,rv] true false)) rv m.rows:=hz.keep elWa ((Gk.refl _ _).put (.inl kb1) _) fun id o n c hv=>AH.get_put_ne (by have:=(hz.id elWa hv).1;omega)
 generalize hg3:g2.put h.nx (.cells [.int .i64 m.own,rv] true false)=g3 at *
 have n3:g3.nx=g2.nx:=by rw [←hg3];rfl
 have r1:g3.get h.nx=some (.cells [.int .i64 m.own,rv] true false):=by rw [←hg3];exact AH.get_put_eq rfl
 have r2:g3.get (h.nx+1)=some (.cells [.int .i64 0,.nilsl] true false):=by rw [←hg3];exact (AH.get_put_ne (by omega)).trans p2
 have f3:Fr h g3:=by rw [←hg3];exact (f1.trans f2).put _ (Nat.le_refl _)
 clear hg3
 refine loopK_of (RnL.rounds (Q:=fun ex u=>u.d=[]∧ex=.exit 0∧Fr h u.h∧g3.nx≤u.h.nx∧u.h.get h.nx=some (.cells [.int .i64 m.own,rv] true false)∧u.h.get (h.nx+1)=some (.cells [.int .i64 0,.nilsl] true false)∧Pw g3.nx g1.nx K1 rv m.rows m.rows.length u.h∧u.t.get 1=some (.ptr h.nx 0)∧u.t.get 2=some (.ptr (h.nx+1) 0))
  (fun k u=>u.d=[]∧Fr h u.h∧g3.nx≤u.h.nx∧u.h.get h.nx=some (.cells [.int .i64 m.own,rv] true false)∧u.h.get (h.nx+1)=some (.cells [.int .i64 0,.nilsl] true false)∧u.t.get 1=some (.ptr h.nx 0)∧u.t.get 2=some (.ptr (h.nx+1) 0)∧u.t.get 9=some rv∧u.t.get 10=some (.int .i64 (m.rows.length:Nat))∧∃i:Nat,Pw g3.nx g1.nx K1 rv m.rows i u.h∧u.t.get 11=some (.int .i64 (i:Nat))∧i≤m.rows.length∧k=m.rows.length-i) ?_ m.rows.length ?_) ?_
 ·rintro k ⟨tt,g,d⟩ ⟨e2,e1,e3,e4,e5,t1,t2,t10,t11,i,e6,t12,hi,rfl⟩
  dsimp only at e1 e2 e3 e4 e5 e6 t1 t2 t10 t11 t12
  subst e2
  by_cases c4:(i:Int)<(m.rows.length:Nat)
  ·have hil:i<m.rows.length:=by omega
   obtain ⟨x,hx⟩:∃x,m.rows[i]? = some x:=⟨_,List.getElem?_eq_getElem hil⟩
   obtain ⟨css,p1',p2',p3',p4',p5'⟩:=e6
   obtain ⟨ce,hce⟩:∃ce,css[i]? = some ce:=⟨_,List.getElem?_eq_getElem (by omega)⟩
   obtain ⟨wv,rfl,hwo,hwi⟩:=p4' i ce x hce hx
   have hwv:=hwi (Nat.le_refl i)
   have hr2:∀cs∈css,cs.length=2:=fun cs hcs=>by
    obtain ⟨j,hj⟩:=List.mem_iff_getElem?.1 hcs
    have hjl:=(List.getElem?_eq_some_iff.1 hj).1
    obtain ⟨_,rfl,_⟩:=p4' j cs _ hj (List.getElem?_eq_getElem (by omega))
    rfl
   obtain ⟨A,B,z4,z5,_⟩:=flz_at hr2 hce
   have z6:i*2+2≤css.flatten.length:=by rw [flz hr2];omega
   obtain ⟨id,c,rfl,hidg,hidl,hidk,hidn,hidb,hidc⟩:∃id c,rv=.sl id 0 m.rows.length 2 c∧g.get id=some (.cells css.flatten true false)∧id<g.nx∧K1 id≠0∧g1.nx≤id∧id<g3.nx∧(c=none∨c=some m.rows.length):=by
    rcases p2' with ⟨_,hh⟩ | ⟨id,n,c,tx,rfl,b2,b3,b4,b5,b6,b7⟩
    ·rw [hh] at z6;simp at z6
    ·have hn:n=m.rows.length:=by rw [flz hr2] at b5;omega
     subst hn
     have ht:tx=false:=by
      rcases b7 with b7 | ⟨b7,_⟩
      ·exact b7
      ·rw [b7] at z6;simp at z6
     subst ht
     exact ⟨id,c,rfl,b2,b3,(p3' _ _ _ _ rfl).1,b4,(p3' _ _ _ _ rfl).2,b6⟩
   obtain ⟨lwv,swv,owv⟩:=hwv.ln
   have mwv:=oneM owv
   have ht3:css.flatten[i*2+1]? = some wv:=by
    rw [z4,←z5,List.append_assoc,List.getElem?_append_right (by omega),Nat.add_sub_cancel_left]
    rfl
   simp -dsimp (disch:=repeat first|rw [nxn]|rw [nxp]|omega) only [go_sem,c4,t1,t2,t10,t11,t12]
   refine syDraw.keepN 12 (fun j=>j=h.nx∨j=id) (by kernel_rfl) (by kernel_rfl) rfl ?_
   have fx:Fr g { tr:=g.tr,nx:=g.nx+13 }:=(Fr.refl g).more _ (by omega)
   simp -dsimp (disch:=repeat first|rw [nxn]|rw [nxp]|omega) only [go_sem,t1,e4,hil,hidg,z6,ht3,owv,mwv,orv,mrv,srv,swv,true_and,true_or,or_true,implies_true,svi,svb,svs,svp]
   refine callK_of (cloneInO hS.toMy (hwv.fr fx)) ?_
   rintro nv g5 ⟨hnv,onv,snv,f5⟩
   have n5:g.nx+13≤g5.nx:=f5.nx
   have cnv:=cells1 onv
   have mnv:=oneM onv
   have f45:=fx.trans f5
   refine ⟨fun j hj=>f5.get j (by show j<g.nx+13;rcases hj with rfl | rfl <;> omega),?_⟩
   have w15:=(f45.get _ (by omega)).trans e4
   have y2:=(f45.get _ hidl).trans hidg
   have w25:=(f45.get _ (by omega)).trans e5
   have hcell:=flz_put (k:=1) (vs:=[nv]) hr2 hce (Nat.le_refl _)
   have hz6:Pw g3.nx g1.nx K1 (.sl id 0 m.rows.length 2 c) m.rows (i+1) (g5.put id (.cells (putCells css.flatten (i*2+1) [nv]) true false)):=by
    rw [hcell]
    have hgk:Gk K1 g (g5.put id (.cells (css.set i (putCells [.str x.folder,wv] 1 [nv])).flatten true false)):=(f45.gk _).put (.inl hidk) _
    have hnb:=fun a (ha:blk nv=some a)=>hnv.blkLt ha
    refine ⟨css.set i (putCells [.str x.folder,wv] 1 [nv]),by simp [p1'],.inr ⟨id,m.rows.length,c,false,rfl,AH.get_put_eq rfl,by show id<g5.nx;omega,hidn,by rw [←hcell,putCells_length _ _ _ (by simp only [List.length_singleton];omega),flz hr2,p1'],hidc,.inl rfl⟩,p3',fun j cj y h1 h2=>?_,fun j k cj dj a hj hk h1 h2 h3 h4=>?_⟩
    ·rw [List.getElem?_set] at h1
     by_cases e:i=j
     ·subst e
      rw [if_pos rfl,if_pos (by omega)] at h1
      cases h1
      rw [hx] at h2
      cases h2
      refine ⟨nv,rfl,fun _=>?_,fun hh=>by omega⟩
      exact (hnv.low (by show g3.nx≤g.nx+13;omega)).keepB (Nat.le_refl _) fun a ha=>AH.get_put_ne (by have:=hnb a ha;have h9:g.nx+13≤a:=this.1;omega)
     ·rw [if_neg e] at h1
      obtain ⟨u,rfl,u1,u2⟩:=p4' j cj y h1 h2
      refine ⟨u,rfl,fun hh=>?_,fun hh=>(u2 (by omega)).gk hgk⟩
      have:=u1 (by omega)
      exact this.keepB hgk.nx fun a ha=>(AH.get_put_ne (by have:=this.blkLt ha;omega)).trans (f45.get _ (this.blkLt ha).2)
    ·have hold:∀ {j:Nat} {cj:List AV},j<i→css[j]? = some cj→inn 1 cj=some a→a<g.nx:=fun {j cj} hj hc ha=>by
      obtain ⟨u,rfl,u1,_⟩:=p4' j cj _ hc (List.getElem?_eq_getElem (by omega))
      exact ((u1 hj).blkLt ha).2
     rw [List.getElem?_set] at h1 h2
     by_cases e:i=j
     ·by_cases e':i=k
      ·omega
      ·rw [if_pos e,if_pos (by omega)] at h1
       rw [if_neg e'] at h2
       cases h1
       have b1:g.nx+13≤a:=(hnb a h3).1
       have b2:=hold (by omega) h2 h4
       omega
     ·by_cases e':i=k
      ·rw [if_pos e',if_pos (by omega)] at h2
       rw [if_neg e] at h1
       cases h2
       have b1:g.nx+13≤a:=(hnb a h4).1
       have b2:=hold (by omega) h1 h3
       omega
      ·rw [if_neg e] at h1
       rw [if_neg e'] at h2
       exact p5' j k cj dj a (by omega) (by omega) h1 h2 h3 h4
   simp -dsimp (disch:=repeat first|rw [nxn]|rw [nxp]|omega) only [go_sem,hil,y2,z6,onv,cnv,mnv,snv,t12,t1,t2,t10,t11,true_and,true_or,or_true,implies_true,svi,svb,svs,svp]
   exact ⟨m.rows.length-(i+1),by omega,(e1.trans f45).put _ (by omega),by omega,w15,w25,i+1,hz6,rfl,by omega,rfl⟩
  ·obtain rfl:i=m.rows.length:=by omega
   simp -dsimp (disch:=repeat first|rw [nxn]|rw [nxp]|omega) only [go_sem,c4,t1,t2,t10,t11,t12]
   exact ⟨trivial,trivial,e1,e3,e4,e5,e6,trivial,trivial⟩
 ·simp -dsimp (disch:=repeat first|rw [nxn]|rw [nxp]|omega) only [go_sem]
  refine ⟨trivial,f3,Nat.le_refl _,r1,r2,trivial,by first | trivial | rfl,trivial,trivial,0,?_,rfl,Nat.zero_le _,rfl⟩
  have hzi:=fun id o n c hv=>hz2.id elWa (id:=id) (o:=o) (n:=n) (c:=c) hv
  obtain ⟨css,a2,a3,a4,a5⟩:=hz2
  refine ⟨css,a3,a2,fun id o n c hv=>⟨a5 id o n c hv,(hzi id o n c hv).2.1⟩,fun j cs x h1 h2=>?_,fun j k cs ds a hj=>by omega⟩
  obtain ⟨wv,rfl,hwv⟩:=a4 j cs x h1 h2
  exact ⟨wv,rfl,fun hh=>by omega,fun _=>hwv⟩
 ·rintro ex ⟨tt,g,d⟩ ⟨rfl,rfl,e1,e3,e4,e5,e6,t1,t2⟩
  dsimp only at e1 e3 e4 e5 e6 t1 t2
  simp -dsimp (disch:=repeat first|rw [nxn]|rw [nxp]|omega) only [go_sem,t1,t2,e4,e5,orv,mrv]
  obtain ⟨css,p1',p2',p3',p4',p5'⟩:=e6
  have hfin:Fr h (g.put (h.nx+1) (.cells [.int .i64 m.own,rv] true false)):=e1.put _ (by omega)
  have hrid:∀id o n c,rv=.sl id o n 2 c→g1.nx≤id∧id<g.nx:=fun id o n c hv=>by
   rcases p2' with ⟨hh,_⟩ | ⟨id',n',c',tx,hh,b2,b3,b4,_⟩
   ·rw [hv] at hh;cases hh
   ·rw [hv] at hh;cases hh;exact ⟨b4,b3⟩
  have hin:∀ {j:Nat} {cs:List AV} {a:Nat},css[j]? = some cs→inn 1 cs=some a→g3.nx≤a∧a<g.nx:=fun {j cs a} h1 h2=>by
   have hjl:=(List.getElem?_eq_some_iff.1 h1).1
   obtain ⟨wv,rfl,u1,_⟩:=p4' j cs _ h1 (List.getElem?_eq_getElem (by omega))
   exact (u1 (by omega)).blkLt h2
  obtain ⟨K',kr,ki,kl,ko⟩:∃K':Nat→Nat,(∀id o n c,rv=.sl id o n 2 c→K' id=1)∧(∀(j:Nat) cs a,css[j]? = some cs→inn 1 cs=some a→K' a=5)∧(∀j,j<h.nx→K' j=K j)∧∀j,g.nx≤j→K' j=0:=by
   classical
   refine ⟨fun a=>if ∃o n c,rv=.sl a o n 2 c then 1 else if ∃(j:Nat) (cs:List AV),css[j]? = some cs∧inn 1 cs=some a then 5 else if a<h.nx then K a else 0,fun id o n c hv=>if_pos ⟨o,n,c,hv⟩,fun j cs a h1 h2=>?_,fun j hj=>?_,fun j hj=>?_⟩
   ·have b1:=hin h1 h2
    dsimp only
    rw [if_neg (fun ⟨o,n,c,hv⟩=>by have:=(p3' _ _ _ _ hv).2;omega),if_pos ⟨j,cs,h1,h2⟩]
   ·dsimp only
    rw [if_neg (fun ⟨o,n,c,hv⟩=>by have:=(hrid _ _ _ _ hv).1;omega),if_neg (fun ⟨i,cs,h1,h2⟩=>by have:=(hin h1 h2).1;omega),if_pos hj]
   ·dsimp only
    have:h.nx≤g.nx:=e1.nx
    rw [if_neg (fun ⟨o,n,c,hv⟩=>by have:=(hrid _ _ _ _ hv).2;omega),if_neg (fun ⟨i,cs,h1,h2⟩=>by have:=(hin h1 h2).2;omega),if_neg (by omega)]
  refine ⟨⟨rv,K',rfl,kl,ko,css,?_,p1',fun j cs x h1 h2=>?_,kr,fm_nodup fun j k cs ds a h1 h2 h3 h4=>p5' j k cs ds a (by have:=(List.getElem?_eq_some_iff.1 h1).1;omega) (by have:=(List.getElem?_eq_some_iff.1 h2).1;omega) h1 h2 h3 h4⟩,hfin⟩
  ·exact (p2'.low (show h.nx≤g1.nx by omega)).keepB (Nat.le_refl _) fun a ha=>AH.get_put_ne (by have:=p2'.blkLt ha;omega)
  ·have hjl:=(List.getElem?_eq_some_iff.1 h1).1
   obtain ⟨wv,rfl,u1,_⟩:=p4' j cs x h1 h2
   have u2:=u1 (by omega)
   obtain ⟨_,_,_,_,_,_,_,_,_,_,_,_,hiv⟩:=hw.el h2
   exact ⟨wv,rfl,(u2.low (show h.nx≤g3.nx by omega)).keepB (Nat.le_refl _) fun a ha=>AH.get_put_ne (by have:=u2.blkLt ha;omega),fun a ha=>ki j _ a h1 ha,hiv.2⟩
end
end Go.Proofs.YtihigekgnnoejaaGreatDoor.mdl
end