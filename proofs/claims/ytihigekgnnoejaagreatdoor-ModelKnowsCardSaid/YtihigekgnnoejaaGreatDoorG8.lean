/- Texts joined: MIa. -/
import Derived.Test.YtihigekgnnoejaaGreatDoorG7
import Derived.Test.YtihigekgnnoejaaGreatDoorAb7
set_option maxRecDepth 100000
set_option linter.unusedVariables false
set_option linter.unusedSimpArgs false
set_option maxHeartbeats 8000000
section
namespace Go.Proofs.YtihigekgnnoejaaGreatDoor.mdl
open Go Go.Abs Go.Proofs
structure Mi (S:Sums):Prop where
 no:∀f args h,f=102∨f=89∨f=84∨f=88∨f=85∨f=87→S f args h=none
 ov:∀f args h,f=131∨f=117∨f=111∨f=115→S f args h=sumOver args h
section
variable {S : Sums}
theorem ajHd:appI Tryz.prog 49=some (12,168):=by kernel_rfl
theorem insHdR (hS:Mi S) {h:AH} {id n i K jd:Nat} {cs J xs:List AV} {d:Option Nat} (hg:h.get id=some (.cells (cs++J) true false)) (hid:id<h.nx) (hc:cs.length=n*12) (hJ:(cs++J).length=K*12) (hn:n≤K) (hi:i≤n) (hn2:n≤1000000) (hx:h.get jd=some (.cells xs true false)) (hjd:jd<h.nx) (hxl:xs.length=12) (hne:id≠jd) (ho:cs.all oneA=true) (hxo:xs.all oneA=true) :
  RnC Tryz.prog S 102 [.sl id 0 n 12 (some K),.int .i64 (i:Nat),.sl jd 0 1 12 d] h fun v h'=>∃id' c' rest,v=.sl id' 0 (n+1) 12 c'∧h'.get id'=some (.cells (cs.take (i*12)++xs++cs.drop (i*12)++rest) true false)∧(id'=id∨h.nx≤id')∧∀j,j<h.nx→j≠id→h'.get j=h.get j:=by
 refine RnC.enter' Tryz.f102 _ 95 [.tmp 6] (hS.no _ _ _ (by simp)) bd102 Tryz.func102 rfl rfl rfl ?_
 have hu:=Tryz.underlying25
 have hz:=tz49
 have hki:i≤K:=by omega
 have sf0:=fun (n0 id0 off0:Nat) (c0:Option Nat) (hh:i≤n0) g=>evSlice_from (P:=Tryz.prog) (id:=id0) (off:=off0) (c:=c0) hu hz hh g
 have sA:=sf0 n id 0 (some K) hi
 have hAl:(cs.take (i*12)).length=i*12:=by rw [List.length_take,hc];exact Nat.min_eq_left (Nat.mul_le_mul_right _ hi)
 have hBl:(cs.drop (i*12)).length=(n-i)*12:=by rw [List.length_drop,hc,Nat.sub_mul]
 have hJl:J.length=K*12-n*12:=by rw [List.length_append,hc] at hJ;omega
 by_cases c1:(i:Int)=(n:Nat)
 ·obtain rfl:i=n:=by omega
  have ap:=evAppend_one (P:=Tryz.prog) (d:=d) hu ajHd hg hJ hn hx hxl hxo (by omega) (by omega)
  have e1:(cs++J).take (i*12)=cs:=by rw [←hc,List.take_left]
  have e2:cs.take (i*12)=cs:=by rw [←hc,List.take_length]
  have e3:cs.drop (i*12)=[]:=by rw [←hc,List.drop_length]
  rw [e1] at ap
  rw [e2,e3]
  by_cases hK:K<i+1
  ·rw [if_pos hK] at ap
   simp (maxSteps:=9^9) -dsimp (disch:=repeat first|rw [nxn]|rw [nxp]|omega) only [go_sem,evLen,sA,c1,ap]
   exact ⟨_,_,[],rfl,by first | exact AH.get_new_eq rfl | (simp only [List.append_nil];exact AH.get_new_eq rfl),.inr (Nat.le_refl _),fun j hj _=>AH.get_new_ne (Nat.ne_of_lt hj)⟩
  ·rw [if_neg hK] at ap
   have e4:putCells (cs++J) (i*12) xs=cs++xs++J.drop xs.length:=by rw [←hc];exact ins_end (by rw [hxl,hJl];omega)
   rw [e4] at ap
   simp (maxSteps:=9^9) -dsimp (disch:=repeat first|rw [nxn]|rw [nxp]|omega) only [go_sem,evLen,sA,c1,ap]
   exact ⟨_,_,J.drop xs.length,rfl,by first | exact AH.get_put_eq rfl | (simp only [List.append_nil];exact AH.get_put_eq rfl),.inl rfl,fun j _ hj=>AH.get_put_ne hj⟩
 have hin:i<n:=by omega
 have hcs:cs.take (i*12)++cs.drop (i*12)=cs:=List.take_append_drop ..
 have hBo:(cs.drop (i*12)).all oneA=true:=by
  rw [←hcs,List.all_append,Bool.and_eq_true] at ho
  exact ho.2
 have hB:((cs++J).drop (i*12)).take ((n-i)*12)=cs.drop (i*12):=by
  rw [List.drop_append_of_le_length (by rw [hc];exact Nat.mul_le_mul_right _ hi),←hBl,List.take_left]
 have hmz:(n-i)*12=n*12-i*12:=Nat.sub_mul ..
 have hxt:(xs.drop 0).take (1*12)=xs:=by rw [List.drop_zero,Nat.one_mul,←hxl,List.take_length]
 by_cases c2:(K:Int)<(n:Nat)+1
 ·have hK:K=n:=by omega
  subst hK
  have hJ0:J=[]:=List.length_eq_zero_iff.1 (by rw [hJl];omega)
  subst hJ0
  rw [List.append_nil] at hg hB hJ
  obtain ⟨Z,hZl,ap⟩:=evAppend_make (P:=Tryz.prog) (st:=25) (xt:=3) (id:=id) (off:=0) (len:=i) (c:=K) (m:=K+1-i) hu Tryz.underlying3 ajHd zc49 (by rfl) hg (by rw [hc];omega) (by omega) (by omega) (by omega) (by omega)
  rw [List.drop_zero] at ap
  have hm:((K:Nat):Int)+1-((i:Nat):Int)=((K+1-i:Nat):Int):=by omega
  have hl1:i+(K+1-i)=K+1:=by omega
  rw [hl1] at ap
  have sB:=evSlice_upto (P:=Tryz.prog) (id:=id) (off:=0) (n:=K) hu hz hki
  have hg1:=(AH.get_new_eq (h:=h) (o:=.cells (cs.take (i*12)++Z) true false) rfl)
  have hx1:=(AH.get_new_ne (h:=h) (o:=.cells (cs.take (i*12)++Z) true false) (Nat.ne_of_lt hjd)).trans hx
  have hi1:=(AH.get_new_ne (h:=h) (o:=.cells (cs.take (i*12)++Z) true false) (Nat.ne_of_lt hid)).trans hg
  have hfr:∀j,j<h.nx→(h.new (.cells (cs.take (i*12)++Z) true false)).get j=h.get j:=fun j hj=>AH.get_new_ne (Nat.ne_of_lt hj)
  have hnx:(h.new (.cells (cs.take (i*12)++Z) true false)).nx=h.nx+1:=rfl
  have hZ2:Z.length=xs.length+(cs.drop (i*12)).length:=by rw [hZl,hxl,hBl];omega
  generalize hA:cs.take (i*12)=A at *
  generalize hBB:cs.drop (i*12)=B at *
  generalize hg':h.new (.cells (A++Z) true false)=g at *
  have sC:=sf0 (K+1) h.nx 0 none (by omega)
  have cp1:=evCopy_at (P:=Tryz.prog) (st:=25) (c:=none) (d:=d) (off:=0+i*12) (m:=K+1-i) (jo:=0) (n:=1) (k:=1) hu hz hg1 hx1 (by simp only [Nat.min_def];split <;> omega) (by rw [hxl];omega) (by rw [List.length_append,hAl,hZl];omega) (by rw [hxt];exact hxo)
  rw [hxt,Nat.zero_add,←hAl] at cp1
  generalize hC1:putCells (A++Z) A.length xs=C1 at *
  have hg2:=AH.get_put_eq (h:=g) (i:=h.nx) (o:=.cells C1 true false) rfl
  have hi2:=(AH.get_put_ne (h:=g) (i:=h.nx) (o:=.cells C1 true false) (Nat.ne_of_lt hid)).trans hi1
  have hC1l:C1.length=(K+1)*12:=by rw [←hC1,putCells_length _ _ _ (by rw [List.length_append,hZ2];omega),List.length_append,hAl,hZl];omega
  have sD:=evSlice_from1 (P:=Tryz.prog) (id:=h.nx) (off:=0) (c:=none) hu hz (show i+1≤K+1 by omega)
  have fin:=ins_new (A:=A) hZ2
  rw [hC1,hAl,show i*12+xs.length=(i+1)*12 by rw [hxl];omega] at fin
  rw [hAl] at cp1
  have cp2:=evCopy_at (P:=Tryz.prog) (st:=25) (h:={ tr:=(g.put h.nx (.cells C1 true false)).tr,nx:=g.nx+9 }) (id:=h.nx) (jd:=id) (c:=none) (d:=some (K-i)) (off:=(i+1)*12) (m:=K+1-(i+1)) (jo:=i*12) (n:=K-i) (k:=K-i) hu hz hg2 hi2 (by simp only [Nat.min_def];split <;> omega) (by rw [hc];omega) (by rw [hC1l];omega) (by rw [hBB,hB];exact hBo)
  rw [hBB,hB,fin] at cp2
  simp (maxSteps:=9^9) -dsimp (disch:=repeat first|rw [nxn]|rw [nxp]|omega) only [go_sem,evLen,sA,c1,evCap,c2,sB,hm,ap]
  simp (maxSteps:=9^9) -dsimp (disch:=repeat first|rw [nxn]|rw [nxp]|omega) only [go_sem,evLen,sC,cp1]
  refine syDraw.keepN 0 (fun _=>True) (by kernel_rfl) (by kernel_rfl) rfl ?_
  simp (maxSteps:=9^9) -dsimp (disch:=repeat first|rw [nxn]|rw [nxp]|omega) only [go_sem,evLen,sA,sD,cp2]
  exact ⟨_,_,[],rfl,by first | exact AH.get_put_eq rfl | (simp only [List.append_nil];exact AH.get_put_eq rfl),.inr (Nat.le_refl _),fun j hj _=>(AH.get_put_ne (Nat.ne_of_lt hj)).trans ((AH.get_put_ne (Nat.ne_of_lt hj)).trans (hfr j hj))⟩
 ·have hKn:n+1≤K:=by omega
  have sE:=evSlice_upto1 (P:=Tryz.prog) (id:=id) (off:=0) (n:=n) hu hz hKn
  have sF:=evSlice_from1 (P:=Tryz.prog) (id:=id) (off:=0) (c:=some K) hu hz (show i+1≤n+1 by omega)
  have sG:=sf0 (n+1) id 0 (some K) (by omega)
  have ovl:∀c0,S 131 [.sl jd 0 1 12 d,.sl id ((i+1)*12) (n+1-(i+1)) 12 c0] h=some (.bool false,h):=fun c0=>by
   rw [hS.ov _ _ _ (by simp),show n+1-(i+1)=(n-i-1)+1 by omega]
   simp only [sumOver,hx,hg]
   rw [if_neg (fun hh=>hne hh.symm)]
  have hg9:({ tr:=h.tr,nx:=h.nx+9 }:AH).get id=_:=hg
  have hJ1:xs.length≤J.length:=by rw [hxl,hJl];omega
  have cp1:=evCopy_at (P:=Tryz.prog) (st:=25) (h:={ tr:=h.tr,nx:=h.nx+9 }) (id:=id) (jd:=id) (c:=some (K-(i+1))) (d:=some (K-i)) (off:=(i+1)*12) (m:=n+1-(i+1)) (jo:=i*12) (n:=n+1-i) (k:=n-i) hu hz hg9 hg9 (by simp only [Nat.min_def];split <;> omega) (by rw [hJ];omega) (by rw [hJ];omega) (by rw [hB];exact hBo)
  rw [hB] at cp1
  have fin:=ins_mid (A:=cs.take (i*12)) (B:=cs.drop (i*12)) hJ1
  rw [hcs,hAl,show i*12+xs.length=(i+1)*12 by rw [hxl];omega] at fin
  have hCl:(putCells (cs++J) ((i+1)*12) (cs.drop (i*12))).length=K*12:=by rw [putCells_length _ _ _ (by rw [hJ,hBl];omega),hJ]
  generalize hC1:putCells (cs++J) ((i+1)*12) (cs.drop (i*12))=C1 at *
  have hg2:(({ tr:=h.tr,nx:=h.nx+9 }:AH).put id (.cells C1 true false)).get id=_:=AH.get_put_eq rfl
  have hx2:(({ tr:=h.tr,nx:=h.nx+9 }:AH).put id (.cells C1 true false)).get jd=_:=(AH.get_put_ne (Ne.symm hne)).trans hx
  have cp2:=evCopy_at (P:=Tryz.prog) (st:=25) (h:=({ tr:=h.tr,nx:=h.nx+9 }:AH).put id (.cells C1 true false)) (id:=id) (jd:=jd) (c:=some (K-i)) (d:=d) (off:=i*12) (m:=n+1-i) (jo:=0) (n:=1) (k:=1) hu hz hg2 hx2 (by simp only [Nat.min_def];split <;> omega) (by rw [hxl];omega) (by rw [hCl];omega) (by rw [hxt];exact hxo)
  rw [hxt,fin] at cp2
  simp (maxSteps:=9^9) -dsimp (disch:=repeat first|rw [nxn]|rw [nxp]|omega) only [go_sem,evLen,sA,c1,evCap,c2,sE,sF]
  refine callK_of (RnC.sum (Q:=fun v h'=>v=.bool false∧h'=h) (ovl _) ⟨rfl,rfl⟩) ?_
  rintro v g ⟨rfl,rfl⟩
  simp (maxSteps:=9^9) -dsimp (disch:=repeat first|rw [nxn]|rw [nxp]|omega) only [go_sem,evLen]
  refine syDraw.keepN 0 (fun _=>True) (by kernel_rfl) (by kernel_rfl) rfl ?_
  simp (maxSteps:=9^9) -dsimp (disch:=repeat first|rw [nxn]|rw [nxp]|omega) only [go_sem,evLen,sF,sG,cp1,cp2]
  exact ⟨_,_,J.drop xs.length,rfl,by first | exact AH.get_put_eq rfl | (simp only [List.append_nil];exact AH.get_put_eq rfl),.inl rfl,fun j _ hj=>(AH.get_put_ne hj).trans (AH.get_put_ne hj)⟩
theorem ajMt:appI Tryz.prog 43=some (2,32):=by kernel_rfl
theorem insMtR (hS:Mi S) {h:AH} {id n i K jd:Nat} {cs J xs:List AV} {d:Option Nat} (hg:h.get id=some (.cells (cs++J) true false)) (hid:id<h.nx) (hc:cs.length=n*2) (hJ:(cs++J).length=K*2) (hn:n≤K) (hi:i≤n) (hn2:n≤1000000) (hx:h.get jd=some (.cells xs true false)) (hjd:jd<h.nx) (hxl:xs.length=2) (hne:id≠jd) (ho:cs.all oneA=true) (hxo:xs.all oneA=true) :
  RnC Tryz.prog S 89 [.sl id 0 n 2 (some K),.int .i64 (i:Nat),.sl jd 0 1 2 d] h fun v h'=>∃id' c' rest,v=.sl id' 0 (n+1) 2 c'∧h'.get id'=some (.cells (cs.take (i*2)++xs++cs.drop (i*2)++rest) true false)∧(id'=id∨h.nx≤id')∧∀j,j<h.nx→j≠id→h'.get j=h.get j:=by
 refine RnC.enter' Tryz.f89 _ 95 [.tmp 6] (hS.no _ _ _ (by simp)) bd89 Tryz.func89 rfl rfl rfl ?_
 have hu:=Tryz.underlying26
 have hz:=tz43
 have hki:i≤K:=by omega
 have sf0:=fun (n0 id0 off0:Nat) (c0:Option Nat) (hh:i≤n0) g=>evSlice_from (P:=Tryz.prog) (id:=id0) (off:=off0) (c:=c0) hu hz hh g
 have sA:=sf0 n id 0 (some K) hi
 have hAl:(cs.take (i*2)).length=i*2:=by rw [List.length_take,hc];exact Nat.min_eq_left (Nat.mul_le_mul_right _ hi)
 have hBl:(cs.drop (i*2)).length=(n-i)*2:=by rw [List.length_drop,hc,Nat.sub_mul]
 have hJl:J.length=K*2-n*2:=by rw [List.length_append,hc] at hJ;omega
 by_cases c1:(i:Int)=(n:Nat)
 ·obtain rfl:i=n:=by omega
  have ap:=evAppend_one (P:=Tryz.prog) (d:=d) hu ajMt hg hJ hn hx hxl hxo (by omega) (by omega)
  have e1:(cs++J).take (i*2)=cs:=by rw [←hc,List.take_left]
  have e2:cs.take (i*2)=cs:=by rw [←hc,List.take_length]
  have e3:cs.drop (i*2)=[]:=by rw [←hc,List.drop_length]
  rw [e1] at ap
  rw [e2,e3]
  by_cases hK:K<i+1
  ·rw [if_pos hK] at ap
   simp (maxSteps:=9^9) -dsimp (disch:=repeat first|rw [nxn]|rw [nxp]|omega) only [go_sem,evLen,sA,c1,ap]
   exact ⟨_,_,[],rfl,by first | exact AH.get_new_eq rfl | (simp only [List.append_nil];exact AH.get_new_eq rfl),.inr (Nat.le_refl _),fun j hj _=>AH.get_new_ne (Nat.ne_of_lt hj)⟩
  ·rw [if_neg hK] at ap
   have e4:putCells (cs++J) (i*2) xs=cs++xs++J.drop xs.length:=by rw [←hc];exact ins_end (by rw [hxl,hJl];omega)
   rw [e4] at ap
   simp (maxSteps:=9^9) -dsimp (disch:=repeat first|rw [nxn]|rw [nxp]|omega) only [go_sem,evLen,sA,c1,ap]
   exact ⟨_,_,J.drop xs.length,rfl,by first | exact AH.get_put_eq rfl | (simp only [List.append_nil];exact AH.get_put_eq rfl),.inl rfl,fun j _ hj=>AH.get_put_ne hj⟩
 have hin:i<n:=by omega
 have hcs:cs.take (i*2)++cs.drop (i*2)=cs:=List.take_append_drop ..
 have hBo:(cs.drop (i*2)).all oneA=true:=by
  rw [←hcs,List.all_append,Bool.and_eq_true] at ho
  exact ho.2
 have hB:((cs++J).drop (i*2)).take ((n-i)*2)=cs.drop (i*2):=by
  rw [List.drop_append_of_le_length (by rw [hc];exact Nat.mul_le_mul_right _ hi),←hBl,List.take_left]
 have hmz:(n-i)*2=n*2-i*2:=Nat.sub_mul ..
 have hxt:(xs.drop 0).take (1*2)=xs:=by rw [List.drop_zero,Nat.one_mul,←hxl,List.take_length]
 by_cases c2:(K:Int)<(n:Nat)+1
 ·have hK:K=n:=by omega
  subst hK
  have hJ0:J=[]:=List.length_eq_zero_iff.1 (by rw [hJl];omega)
  subst hJ0
  rw [List.append_nil] at hg hB hJ
  obtain ⟨Z,hZl,ap⟩:=evAppend_make (P:=Tryz.prog) (st:=26) (xt:=3) (id:=id) (off:=0) (len:=i) (c:=K) (m:=K+1-i) hu Tryz.underlying3 ajMt zc43 (by rfl) hg (by rw [hc];omega) (by omega) (by omega) (by omega) (by omega)
  rw [List.drop_zero] at ap
  have hm:((K:Nat):Int)+1-((i:Nat):Int)=((K+1-i:Nat):Int):=by omega
  have hl1:i+(K+1-i)=K+1:=by omega
  rw [hl1] at ap
  have sB:=evSlice_upto (P:=Tryz.prog) (id:=id) (off:=0) (n:=K) hu hz hki
  have hg1:=(AH.get_new_eq (h:=h) (o:=.cells (cs.take (i*2)++Z) true false) rfl)
  have hx1:=(AH.get_new_ne (h:=h) (o:=.cells (cs.take (i*2)++Z) true false) (Nat.ne_of_lt hjd)).trans hx
  have hi1:=(AH.get_new_ne (h:=h) (o:=.cells (cs.take (i*2)++Z) true false) (Nat.ne_of_lt hid)).trans hg
  have hfr:∀j,j<h.nx→(h.new (.cells (cs.take (i*2)++Z) true false)).get j=h.get j:=fun j hj=>AH.get_new_ne (Nat.ne_of_lt hj)
  have hnx:(h.new (.cells (cs.take (i*2)++Z) true false)).nx=h.nx+1:=rfl
  have hZ2:Z.length=xs.length+(cs.drop (i*2)).length:=by rw [hZl,hxl,hBl];omega
  generalize hA:cs.take (i*2)=A at *
  generalize hBB:cs.drop (i*2)=B at *
  generalize hg':h.new (.cells (A++Z) true false)=g at *
  have sC:=sf0 (K+1) h.nx 0 none (by omega)
  have cp1:=evCopy_at (P:=Tryz.prog) (st:=26) (c:=none) (d:=d) (off:=0+i*2) (m:=K+1-i) (jo:=0) (n:=1) (k:=1) hu hz hg1 hx1 (by simp only [Nat.min_def];split <;> omega) (by rw [hxl];omega) (by rw [List.length_append,hAl,hZl];omega) (by rw [hxt];exact hxo)
  rw [hxt,Nat.zero_add,←hAl] at cp1
  generalize hC1:putCells (A++Z) A.length xs=C1 at *
  have hg2:=AH.get_put_eq (h:=g) (i:=h.nx) (o:=.cells C1 true false) rfl
  have hi2:=(AH.get_put_ne (h:=g) (i:=h.nx) (o:=.cells C1 true false) (Nat.ne_of_lt hid)).trans hi1
  have hC1l:C1.length=(K+1)*2:=by rw [←hC1,putCells_length _ _ _ (by rw [List.length_append,hZ2];omega),List.length_append,hAl,hZl];omega
  have sD:=evSlice_from1 (P:=Tryz.prog) (id:=h.nx) (off:=0) (c:=none) hu hz (show i+1≤K+1 by omega)
  have fin:=ins_new (A:=A) hZ2
  rw [hC1,hAl,show i*2+xs.length=(i+1)*2 by rw [hxl];omega] at fin
  rw [hAl] at cp1
  have cp2:=evCopy_at (P:=Tryz.prog) (st:=26) (h:={ tr:=(g.put h.nx (.cells C1 true false)).tr,nx:=g.nx+9 }) (id:=h.nx) (jd:=id) (c:=none) (d:=some (K-i)) (off:=(i+1)*2) (m:=K+1-(i+1)) (jo:=i*2) (n:=K-i) (k:=K-i) hu hz hg2 hi2 (by simp only [Nat.min_def];split <;> omega) (by rw [hc];omega) (by rw [hC1l];omega) (by rw [hBB,hB];exact hBo)
  rw [hBB,hB,fin] at cp2
  simp (maxSteps:=9^9) -dsimp (disch:=repeat first|rw [nxn]|rw [nxp]|omega) only [go_sem,evLen,sA,c1,evCap,c2,sB,hm,ap]
  simp (maxSteps:=9^9) -dsimp (disch:=repeat first|rw [nxn]|rw [nxp]|omega) only [go_sem,evLen,sC,cp1]
  refine syDraw.keepN 0 (fun _=>True) (by kernel_rfl) (by kernel_rfl) rfl ?_
  simp (maxSteps:=9^9) -dsimp (disch:=repeat first|rw [nxn]|rw [nxp]|omega) only [go_sem,evLen,sA,sD,cp2]
  exact ⟨_,_,[],rfl,by first | exact AH.get_put_eq rfl | (simp only [List.append_nil];exact AH.get_put_eq rfl),.inr (Nat.le_refl _),fun j hj _=>(AH.get_put_ne (Nat.ne_of_lt hj)).trans ((AH.get_put_ne (Nat.ne_of_lt hj)).trans (hfr j hj))⟩
 ·have hKn:n+1≤K:=by omega
  have sE:=evSlice_upto1 (P:=Tryz.prog) (id:=id) (off:=0) (n:=n) hu hz hKn
  have sF:=evSlice_from1 (P:=Tryz.prog) (id:=id) (off:=0) (c:=some K) hu hz (show i+1≤n+1 by omega)
  have sG:=sf0 (n+1) id 0 (some K) (by omega)
  have ovl:∀c0,S 117 [.sl jd 0 1 2 d,.sl id ((i+1)*2) (n+1-(i+1)) 2 c0] h=some (.bool false,h):=fun c0=>by
   rw [hS.ov _ _ _ (by simp),show n+1-(i+1)=(n-i-1)+1 by omega]
   simp only [sumOver,hx,hg]
   rw [if_neg (fun hh=>hne hh.symm)]
  have hg9:({ tr:=h.tr,nx:=h.nx+9 }:AH).get id=_:=hg
  have hJ1:xs.length≤J.length:=by rw [hxl,hJl];omega
  have cp1:=evCopy_at (P:=Tryz.prog) (st:=26) (h:={ tr:=h.tr,nx:=h.nx+9 }) (id:=id) (jd:=id) (c:=some (K-(i+1))) (d:=some (K-i)) (off:=(i+1)*2) (m:=n+1-(i+1)) (jo:=i*2) (n:=n+1-i) (k:=n-i) hu hz hg9 hg9 (by simp only [Nat.min_def];split <;> omega) (by rw [hJ];omega) (by rw [hJ];omega) (by rw [hB];exact hBo)
  rw [hB] at cp1
  have fin:=ins_mid (A:=cs.take (i*2)) (B:=cs.drop (i*2)) hJ1
  rw [hcs,hAl,show i*2+xs.length=(i+1)*2 by rw [hxl];omega] at fin
  have hCl:(putCells (cs++J) ((i+1)*2) (cs.drop (i*2))).length=K*2:=by rw [putCells_length _ _ _ (by rw [hJ,hBl];omega),hJ]
  generalize hC1:putCells (cs++J) ((i+1)*2) (cs.drop (i*2))=C1 at *
  have hg2:(({ tr:=h.tr,nx:=h.nx+9 }:AH).put id (.cells C1 true false)).get id=_:=AH.get_put_eq rfl
  have hx2:(({ tr:=h.tr,nx:=h.nx+9 }:AH).put id (.cells C1 true false)).get jd=_:=(AH.get_put_ne (Ne.symm hne)).trans hx
  have cp2:=evCopy_at (P:=Tryz.prog) (st:=26) (h:=({ tr:=h.tr,nx:=h.nx+9 }:AH).put id (.cells C1 true false)) (id:=id) (jd:=jd) (c:=some (K-i)) (d:=d) (off:=i*2) (m:=n+1-i) (jo:=0) (n:=1) (k:=1) hu hz hg2 hx2 (by simp only [Nat.min_def];split <;> omega) (by rw [hxl];omega) (by rw [hCl];omega) (by rw [hxt];exact hxo)
  rw [hxt,fin] at cp2
  simp (maxSteps:=9^9) -dsimp (disch:=repeat first|rw [nxn]|rw [nxp]|omega) only [go_sem,evLen,sA,c1,evCap,c2,sE,sF]
  refine callK_of (RnC.sum (Q:=fun v h'=>v=.bool false∧h'=h) (ovl _) ⟨rfl,rfl⟩) ?_
  rintro v g ⟨rfl,rfl⟩
  simp (maxSteps:=9^9) -dsimp (disch:=repeat first|rw [nxn]|rw [nxp]|omega) only [go_sem,evLen]
  refine syDraw.keepN 0 (fun _=>True) (by kernel_rfl) (by kernel_rfl) rfl ?_
  simp (maxSteps:=9^9) -dsimp (disch:=repeat first|rw [nxn]|rw [nxp]|omega) only [go_sem,evLen,sF,sG,cp1,cp2]
  exact ⟨_,_,J.drop xs.length,rfl,by first | exact AH.get_put_eq rfl | (simp only [List.append_nil];exact AH.get_put_eq rfl),.inl rfl,fun j _ hj=>(AH.get_put_ne hj).trans (AH.get_put_ne hj)⟩
theorem ajRw:appI Tryz.prog 84=some (2,40):=by kernel_rfl
theorem insRwR (hS:Mi S) {h:AH} {id n i K jd:Nat} {cs J xs:List AV} {d:Option Nat} (hg:h.get id=some (.cells (cs++J) true false)) (hid:id<h.nx) (hc:cs.length=n*2) (hJ:(cs++J).length=K*2) (hn:n≤K) (hi:i≤n) (hn2:n≤1000000) (hx:h.get jd=some (.cells xs true false)) (hjd:jd<h.nx) (hxl:xs.length=2) (hne:id≠jd) (ho:cs.all oneA=true) (hxo:xs.all oneA=true) :
  RnC Tryz.prog S 84 [.sl id 0 n 2 (some K),.int .i64 (i:Nat),.sl jd 0 1 2 d] h fun v h'=>∃id' c' rest,v=.sl id' 0 (n+1) 2 c'∧h'.get id'=some (.cells (cs.take (i*2)++xs++cs.drop (i*2)++rest) true false)∧(id'=id∨h.nx≤id')∧∀j,j<h.nx→j≠id→h'.get j=h.get j:=by
 refine RnC.enter' Tryz.f84 _ 95 [.tmp 6] (hS.no _ _ _ (by simp)) bd84 Tryz.func84 rfl rfl rfl ?_
 have hu:=Tryz.underlying41
 have hz:=tz84
 have hki:i≤K:=by omega
 have sf0:=fun (n0 id0 off0:Nat) (c0:Option Nat) (hh:i≤n0) g=>evSlice_from (P:=Tryz.prog) (id:=id0) (off:=off0) (c:=c0) hu hz hh g
 have sA:=sf0 n id 0 (some K) hi
 have hAl:(cs.take (i*2)).length=i*2:=by rw [List.length_take,hc];exact Nat.min_eq_left (Nat.mul_le_mul_right _ hi)
 have hBl:(cs.drop (i*2)).length=(n-i)*2:=by rw [List.length_drop,hc,Nat.sub_mul]
 have hJl:J.length=K*2-n*2:=by rw [List.length_append,hc] at hJ;omega
 by_cases c1:(i:Int)=(n:Nat)
 ·obtain rfl:i=n:=by omega
  have ap:=evAppend_one (P:=Tryz.prog) (d:=d) hu ajRw hg hJ hn hx hxl hxo (by omega) (by omega)
  have e1:(cs++J).take (i*2)=cs:=by rw [←hc,List.take_left]
  have e2:cs.take (i*2)=cs:=by rw [←hc,List.take_length]
  have e3:cs.drop (i*2)=[]:=by rw [←hc,List.drop_length]
  rw [e1] at ap
  rw [e2,e3]
  by_cases hK:K<i+1
  ·rw [if_pos hK] at ap
   simp (maxSteps:=9^9) -dsimp (disch:=repeat first|rw [nxn]|rw [nxp]|omega) only [go_sem,evLen,sA,c1,ap]
   exact ⟨_,_,[],rfl,by first | exact AH.get_new_eq rfl | (simp only [List.append_nil];exact AH.get_new_eq rfl),.inr (Nat.le_refl _),fun j hj _=>AH.get_new_ne (Nat.ne_of_lt hj)⟩
  ·rw [if_neg hK] at ap
   have e4:putCells (cs++J) (i*2) xs=cs++xs++J.drop xs.length:=by rw [←hc];exact ins_end (by rw [hxl,hJl];omega)
   rw [e4] at ap
   simp (maxSteps:=9^9) -dsimp (disch:=repeat first|rw [nxn]|rw [nxp]|omega) only [go_sem,evLen,sA,c1,ap]
   exact ⟨_,_,J.drop xs.length,rfl,by first | exact AH.get_put_eq rfl | (simp only [List.append_nil];exact AH.get_put_eq rfl),.inl rfl,fun j _ hj=>AH.get_put_ne hj⟩
 have hin:i<n:=by omega
 have hcs:cs.take (i*2)++cs.drop (i*2)=cs:=List.take_append_drop ..
 have hBo:(cs.drop (i*2)).all oneA=true:=by
  rw [←hcs,List.all_append,Bool.and_eq_true] at ho
  exact ho.2
 have hB:((cs++J).drop (i*2)).take ((n-i)*2)=cs.drop (i*2):=by
  rw [List.drop_append_of_le_length (by rw [hc];exact Nat.mul_le_mul_right _ hi),←hBl,List.take_left]
 have hmz:(n-i)*2=n*2-i*2:=Nat.sub_mul ..
 have hxt:(xs.drop 0).take (1*2)=xs:=by rw [List.drop_zero,Nat.one_mul,←hxl,List.take_length]
 by_cases c2:(K:Int)<(n:Nat)+1
 ·have hK:K=n:=by omega
  subst hK
  have hJ0:J=[]:=List.length_eq_zero_iff.1 (by rw [hJl];omega)
  subst hJ0
  rw [List.append_nil] at hg hB hJ
  obtain ⟨Z,hZl,ap⟩:=evAppend_make (P:=Tryz.prog) (st:=41) (xt:=3) (id:=id) (off:=0) (len:=i) (c:=K) (m:=K+1-i) hu Tryz.underlying3 ajRw zc84 (by rfl) hg (by rw [hc];omega) (by omega) (by omega) (by omega) (by omega)
  rw [List.drop_zero] at ap
  have hm:((K:Nat):Int)+1-((i:Nat):Int)=((K+1-i:Nat):Int):=by omega
  have hl1:i+(K+1-i)=K+1:=by omega
  rw [hl1] at ap
  have sB:=evSlice_upto (P:=Tryz.prog) (id:=id) (off:=0) (n:=K) hu hz hki
  have hg1:=(AH.get_new_eq (h:=h) (o:=.cells (cs.take (i*2)++Z) true false) rfl)
  have hx1:=(AH.get_new_ne (h:=h) (o:=.cells (cs.take (i*2)++Z) true false) (Nat.ne_of_lt hjd)).trans hx
  have hi1:=(AH.get_new_ne (h:=h) (o:=.cells (cs.take (i*2)++Z) true false) (Nat.ne_of_lt hid)).trans hg
  have hfr:∀j,j<h.nx→(h.new (.cells (cs.take (i*2)++Z) true false)).get j=h.get j:=fun j hj=>AH.get_new_ne (Nat.ne_of_lt hj)
  have hnx:(h.new (.cells (cs.take (i*2)++Z) true false)).nx=h.nx+1:=rfl
  have hZ2:Z.length=xs.length+(cs.drop (i*2)).length:=by rw [hZl,hxl,hBl];omega
  generalize hA:cs.take (i*2)=A at *
  generalize hBB:cs.drop (i*2)=B at *
  generalize hg':h.new (.cells (A++Z) true false)=g at *
  have sC:=sf0 (K+1) h.nx 0 none (by omega)
  have cp1:=evCopy_at (P:=Tryz.prog) (st:=41) (c:=none) (d:=d) (off:=0+i*2) (m:=K+1-i) (jo:=0) (n:=1) (k:=1) hu hz hg1 hx1 (by simp only [Nat.min_def];split <;> omega) (by rw [hxl];omega) (by rw [List.length_append,hAl,hZl];omega) (by rw [hxt];exact hxo)
  rw [hxt,Nat.zero_add,←hAl] at cp1
  generalize hC1:putCells (A++Z) A.length xs=C1 at *
  have hg2:=AH.get_put_eq (h:=g) (i:=h.nx) (o:=.cells C1 true false) rfl
  have hi2:=(AH.get_put_ne (h:=g) (i:=h.nx) (o:=.cells C1 true false) (Nat.ne_of_lt hid)).trans hi1
  have hC1l:C1.length=(K+1)*2:=by rw [←hC1,putCells_length _ _ _ (by rw [List.length_append,hZ2];omega),List.length_append,hAl,hZl];omega
  have sD:=evSlice_from1 (P:=Tryz.prog) (id:=h.nx) (off:=0) (c:=none) hu hz (show i+1≤K+1 by omega)
  have fin:=ins_new (A:=A) hZ2
  rw [hC1,hAl,show i*2+xs.length=(i+1)*2 by rw [hxl];omega] at fin
  rw [hAl] at cp1
  have cp2:=evCopy_at (P:=Tryz.prog) (st:=41) (h:={ tr:=(g.put h.nx (.cells C1 true false)).tr,nx:=g.nx+9 }) (id:=h.nx) (jd:=id) (c:=none) (d:=some (K-i)) (off:=(i+1)*2) (m:=K+1-(i+1)) (jo:=i*2) (n:=K-i) (k:=K-i) hu hz hg2 hi2 (by simp only [Nat.min_def];split <;> omega) (by rw [hc];omega) (by rw [hC1l];omega) (by rw [hBB,hB];exact hBo)
  rw [hBB,hB,fin] at cp2
  simp (maxSteps:=9^9) -dsimp (disch:=repeat first|rw [nxn]|rw [nxp]|omega) only [go_sem,evLen,sA,c1,evCap,c2,sB,hm,ap]
  simp (maxSteps:=9^9) -dsimp (disch:=repeat first|rw [nxn]|rw [nxp]|omega) only [go_sem,evLen,sC,cp1]
  refine syDraw.keepN 0 (fun _=>True) (by kernel_rfl) (by kernel_rfl) rfl ?_
  simp (maxSteps:=9^9) -dsimp (disch:=repeat first|rw [nxn]|rw [nxp]|omega) only [go_sem,evLen,sA,sD,cp2]
  exact ⟨_,_,[],rfl,by first | exact AH.get_put_eq rfl | (simp only [List.append_nil];exact AH.get_put_eq rfl),.inr (Nat.le_refl _),fun j hj _=>(AH.get_put_ne (Nat.ne_of_lt hj)).trans ((AH.get_put_ne (Nat.ne_of_lt hj)).trans (hfr j hj))⟩
 ·have hKn:n+1≤K:=by omega
  have sE:=evSlice_upto1 (P:=Tryz.prog) (id:=id) (off:=0) (n:=n) hu hz hKn
  have sF:=evSlice_from1 (P:=Tryz.prog) (id:=id) (off:=0) (c:=some K) hu hz (show i+1≤n+1 by omega)
  have sG:=sf0 (n+1) id 0 (some K) (by omega)
  have ovl:∀c0,S 111 [.sl jd 0 1 2 d,.sl id ((i+1)*2) (n+1-(i+1)) 2 c0] h=some (.bool false,h):=fun c0=>by
   rw [hS.ov _ _ _ (by simp),show n+1-(i+1)=(n-i-1)+1 by omega]
   simp only [sumOver,hx,hg]
   rw [if_neg (fun hh=>hne hh.symm)]
  have hg9:({ tr:=h.tr,nx:=h.nx+9 }:AH).get id=_:=hg
  have hJ1:xs.length≤J.length:=by rw [hxl,hJl];omega
  have cp1:=evCopy_at (P:=Tryz.prog) (st:=41) (h:={ tr:=h.tr,nx:=h.nx+9 }) (id:=id) (jd:=id) (c:=some (K-(i+1))) (d:=some (K-i)) (off:=(i+1)*2) (m:=n+1-(i+1)) (jo:=i*2) (n:=n+1-i) (k:=n-i) hu hz hg9 hg9 (by simp only [Nat.min_def];split <;> omega) (by rw [hJ];omega) (by rw [hJ];omega) (by rw [hB];exact hBo)
  rw [hB] at cp1
  have fin:=ins_mid (A:=cs.take (i*2)) (B:=cs.drop (i*2)) hJ1
  rw [hcs,hAl,show i*2+xs.length=(i+1)*2 by rw [hxl];omega] at fin
  have hCl:(putCells (cs++J) ((i+1)*2) (cs.drop (i*2))).length=K*2:=by rw [putCells_length _ _ _ (by rw [hJ,hBl];omega),hJ]
  generalize hC1:putCells (cs++J) ((i+1)*2) (cs.drop (i*2))=C1 at *
  have hg2:(({ tr:=h.tr,nx:=h.nx+9 }:AH).put id (.cells C1 true false)).get id=_:=AH.get_put_eq rfl
  have hx2:(({ tr:=h.tr,nx:=h.nx+9 }:AH).put id (.cells C1 true false)).get jd=_:=(AH.get_put_ne (Ne.symm hne)).trans hx
  have cp2:=evCopy_at (P:=Tryz.prog) (st:=41) (h:=({ tr:=h.tr,nx:=h.nx+9 }:AH).put id (.cells C1 true false)) (id:=id) (jd:=jd) (c:=some (K-i)) (d:=d) (off:=i*2) (m:=n+1-i) (jo:=0) (n:=1) (k:=1) hu hz hg2 hx2 (by simp only [Nat.min_def];split <;> omega) (by rw [hxl];omega) (by rw [hCl];omega) (by rw [hxt];exact hxo)
  rw [hxt,fin] at cp2
  simp (maxSteps:=9^9) -dsimp (disch:=repeat first|rw [nxn]|rw [nxp]|omega) only [go_sem,evLen,sA,c1,evCap,c2,sE,sF]
  refine callK_of (RnC.sum (Q:=fun v h'=>v=.bool false∧h'=h) (ovl _) ⟨rfl,rfl⟩) ?_
  rintro v g ⟨rfl,rfl⟩
  simp (maxSteps:=9^9) -dsimp (disch:=repeat first|rw [nxn]|rw [nxp]|omega) only [go_sem,evLen]
  refine syDraw.keepN 0 (fun _=>True) (by kernel_rfl) (by kernel_rfl) rfl ?_
  simp (maxSteps:=9^9) -dsimp (disch:=repeat first|rw [nxn]|rw [nxp]|omega) only [go_sem,evLen,sF,sG,cp1,cp2]
  exact ⟨_,_,J.drop xs.length,rfl,by first | exact AH.get_put_eq rfl | (simp only [List.append_nil];exact AH.get_put_eq rfl),.inl rfl,fun j _ hj=>(AH.get_put_ne hj).trans (AH.get_put_ne hj)⟩
theorem ajIn:appI Tryz.prog 3=some (1,8):=by kernel_rfl
theorem insInR (hS:Mi S) {h:AH} {id n i K jd:Nat} {cs J xs:List AV} {d:Option Nat} (hg:h.get id=some (.cells (cs++J) true false)) (hid:id<h.nx) (hc:cs.length=n*1) (hJ:(cs++J).length=K*1) (hn:n≤K) (hi:i≤n) (hn2:n≤1000000) (hx:h.get jd=some (.cells xs true false)) (hjd:jd<h.nx) (hxl:xs.length=1) (hne:id≠jd) (ho:cs.all oneA=true) (hxo:xs.all oneA=true) :
  RnC Tryz.prog S 88 [.sl id 0 n 1 (some K),.int .i64 (i:Nat),.sl jd 0 1 1 d] h fun v h'=>∃id' c' rest,v=.sl id' 0 (n+1) 1 c'∧h'.get id'=some (.cells (cs.take (i*1)++xs++cs.drop (i*1)++rest) true false)∧(id'=id∨h.nx≤id')∧∀j,j<h.nx→j≠id→h'.get j=h.get j:=by
 refine RnC.enter' Tryz.f88 _ 95 [.tmp 6] (hS.no _ _ _ (by simp)) bd88 Tryz.func88 rfl rfl rfl ?_
 have hu:=Tryz.underlying82
 have hz:=tz3
 have hki:i≤K:=by omega
 have sf0:=fun (n0 id0 off0:Nat) (c0:Option Nat) (hh:i≤n0) g=>evSlice_from (P:=Tryz.prog) (id:=id0) (off:=off0) (c:=c0) hu hz hh g
 have sA:=sf0 n id 0 (some K) hi
 have hAl:(cs.take (i*1)).length=i*1:=by rw [List.length_take,hc];exact Nat.min_eq_left (Nat.mul_le_mul_right _ hi)
 have hBl:(cs.drop (i*1)).length=(n-i)*1:=by rw [List.length_drop,hc,Nat.sub_mul]
 have hJl:J.length=K*1-n*1:=by rw [List.length_append,hc] at hJ;omega
 by_cases c1:(i:Int)=(n:Nat)
 ·obtain rfl:i=n:=by omega
  have ap:=evAppend_one (P:=Tryz.prog) (d:=d) hu ajIn hg hJ hn hx hxl hxo (by omega) (by omega)
  have e1:(cs++J).take (i*1)=cs:=by rw [←hc,List.take_left]
  have e2:cs.take (i*1)=cs:=by rw [←hc,List.take_length]
  have e3:cs.drop (i*1)=[]:=by rw [←hc,List.drop_length]
  rw [e1] at ap
  rw [e2,e3]
  by_cases hK:K<i+1
  ·rw [if_pos hK] at ap
   simp (maxSteps:=9^9) -dsimp (disch:=repeat first|rw [nxn]|rw [nxp]|omega) only [go_sem,evLen,sA,c1,ap]
   exact ⟨_,_,[],rfl,by first | exact AH.get_new_eq rfl | (simp only [List.append_nil];exact AH.get_new_eq rfl),.inr (Nat.le_refl _),fun j hj _=>AH.get_new_ne (Nat.ne_of_lt hj)⟩
  ·rw [if_neg hK] at ap
   have e4:putCells (cs++J) (i*1) xs=cs++xs++J.drop xs.length:=by rw [←hc];exact ins_end (by rw [hxl,hJl];omega)
   rw [e4] at ap
   simp (maxSteps:=9^9) -dsimp (disch:=repeat first|rw [nxn]|rw [nxp]|omega) only [go_sem,evLen,sA,c1,ap]
   exact ⟨_,_,J.drop xs.length,rfl,by first | exact AH.get_put_eq rfl | (simp only [List.append_nil];exact AH.get_put_eq rfl),.inl rfl,fun j _ hj=>AH.get_put_ne hj⟩
 have hin:i<n:=by omega
 have hcs:cs.take (i*1)++cs.drop (i*1)=cs:=List.take_append_drop ..
 have hBo:(cs.drop (i*1)).all oneA=true:=by
  rw [←hcs,List.all_append,Bool.and_eq_true] at ho
  exact ho.2
 have hB:((cs++J).drop (i*1)).take ((n-i)*1)=cs.drop (i*1):=by
  rw [List.drop_append_of_le_length (by rw [hc];exact Nat.mul_le_mul_right _ hi),←hBl,List.take_left]
 have hmz:(n-i)*1=n*1-i*1:=Nat.sub_mul ..
 have hxt:(xs.drop 0).take (1*1)=xs:=by rw [List.drop_zero,Nat.one_mul,←hxl,List.take_length]
 by_cases c2:(K:Int)<(n:Nat)+1
 ·have hK:K=n:=by omega
  subst hK
  have hJ0:J=[]:=List.length_eq_zero_iff.1 (by rw [hJl];omega)
  subst hJ0
  rw [List.append_nil] at hg hB hJ
  obtain ⟨Z,hZl,ap⟩:=evAppend_make (P:=Tryz.prog) (st:=82) (xt:=3) (id:=id) (off:=0) (len:=i) (c:=K) (m:=K+1-i) hu Tryz.underlying3 ajIn zc3 (by rfl) hg (by rw [hc];omega) (by omega) (by omega) (by omega) (by omega)
  rw [List.drop_zero] at ap
  have hm:((K:Nat):Int)+1-((i:Nat):Int)=((K+1-i:Nat):Int):=by omega
  have hl1:i+(K+1-i)=K+1:=by omega
  rw [hl1] at ap
  have sB:=evSlice_upto (P:=Tryz.prog) (id:=id) (off:=0) (n:=K) hu hz hki
  have hg1:=(AH.get_new_eq (h:=h) (o:=.cells (cs.take (i*1)++Z) true false) rfl)
  have hx1:=(AH.get_new_ne (h:=h) (o:=.cells (cs.take (i*1)++Z) true false) (Nat.ne_of_lt hjd)).trans hx
  have hi1:=(AH.get_new_ne (h:=h) (o:=.cells (cs.take (i*1)++Z) true false) (Nat.ne_of_lt hid)).trans hg
  have hfr:∀j,j<h.nx→(h.new (.cells (cs.take (i*1)++Z) true false)).get j=h.get j:=fun j hj=>AH.get_new_ne (Nat.ne_of_lt hj)
  have hnx:(h.new (.cells (cs.take (i*1)++Z) true false)).nx=h.nx+1:=rfl
  have hZ2:Z.length=xs.length+(cs.drop (i*1)).length:=by rw [hZl,hxl,hBl];omega
  generalize hA:cs.take (i*1)=A at *
  generalize hBB:cs.drop (i*1)=B at *
  generalize hg':h.new (.cells (A++Z) true false)=g at *
  have sC:=sf0 (K+1) h.nx 0 none (by omega)
  have cp1:=evCopy_at (P:=Tryz.prog) (st:=82) (c:=none) (d:=d) (off:=0+i*1) (m:=K+1-i) (jo:=0) (n:=1) (k:=1) hu hz hg1 hx1 (by simp only [Nat.min_def];split <;> omega) (by rw [hxl];omega) (by rw [List.length_append,hAl,hZl];omega) (by rw [hxt];exact hxo)
  rw [hxt,Nat.zero_add,←hAl] at cp1
  generalize hC1:putCells (A++Z) A.length xs=C1 at *
  have hg2:=AH.get_put_eq (h:=g) (i:=h.nx) (o:=.cells C1 true false) rfl
  have hi2:=(AH.get_put_ne (h:=g) (i:=h.nx) (o:=.cells C1 true false) (Nat.ne_of_lt hid)).trans hi1
  have hC1l:C1.length=(K+1)*1:=by rw [←hC1,putCells_length _ _ _ (by rw [List.length_append,hZ2];omega),List.length_append,hAl,hZl];omega
  have sD:=evSlice_from1 (P:=Tryz.prog) (id:=h.nx) (off:=0) (c:=none) hu hz (show i+1≤K+1 by omega)
  have fin:=ins_new (A:=A) hZ2
  rw [hC1,hAl,show i*1+xs.length=(i+1)*1 by rw [hxl];omega] at fin
  rw [hAl] at cp1
  have cp2:=evCopy_at (P:=Tryz.prog) (st:=82) (h:={ tr:=(g.put h.nx (.cells C1 true false)).tr,nx:=g.nx+9 }) (id:=h.nx) (jd:=id) (c:=none) (d:=some (K-i)) (off:=(i+1)*1) (m:=K+1-(i+1)) (jo:=i*1) (n:=K-i) (k:=K-i) hu hz hg2 hi2 (by simp only [Nat.min_def];split <;> omega) (by rw [hc];omega) (by rw [hC1l];omega) (by rw [hBB,hB];exact hBo)
  rw [hBB,hB,fin] at cp2
  simp (maxSteps:=9^9) -dsimp (disch:=repeat first|rw [nxn]|rw [nxp]|omega) only [go_sem,evLen,sA,c1,evCap,c2,sB,hm,ap]
  simp (maxSteps:=9^9) -dsimp (disch:=repeat first|rw [nxn]|rw [nxp]|omega) only [go_sem,evLen,sC,cp1]
  refine syDraw.keepN 0 (fun _=>True) (by kernel_rfl) (by kernel_rfl) rfl ?_
  simp (maxSteps:=9^9) -dsimp (disch:=repeat first|rw [nxn]|rw [nxp]|omega) only [go_sem,evLen,sA,sD,cp2]
  exact ⟨_,_,[],rfl,by first | exact AH.get_put_eq rfl | (simp only [List.append_nil];exact AH.get_put_eq rfl),.inr (Nat.le_refl _),fun j hj _=>(AH.get_put_ne (Nat.ne_of_lt hj)).trans ((AH.get_put_ne (Nat.ne_of_lt hj)).trans (hfr j hj))⟩
 ·have hKn:n+1≤K:=by omega
  have sE:=evSlice_upto1 (P:=Tryz.prog) (id:=id) (off:=0) (n:=n) hu hz hKn
  have sF:=evSlice_from1 (P:=Tryz.prog) (id:=id) (off:=0) (c:=some K) hu hz (show i+1≤n+1 by omega)
  have sG:=sf0 (n+1) id 0 (some K) (by omega)
  have ovl:∀c0,S 115 [.sl jd 0 1 1 d,.sl id ((i+1)*1) (n+1-(i+1)) 1 c0] h=some (.bool false,h):=fun c0=>by
   rw [hS.ov _ _ _ (by simp),show n+1-(i+1)=(n-i-1)+1 by omega]
   simp only [sumOver,hx,hg]
   rw [if_neg (fun hh=>hne hh.symm)]
  have hg9:({ tr:=h.tr,nx:=h.nx+9 }:AH).get id=_:=hg
  have hJ1:xs.length≤J.length:=by rw [hxl,hJl];omega
  have cp1:=evCopy_at (P:=Tryz.prog) (st:=82) (h:={ tr:=h.tr,nx:=h.nx+9 }) (id:=id) (jd:=id) (c:=some (K-(i+1))) (d:=some (K-i)) (off:=(i+1)*1) (m:=n+1-(i+1)) (jo:=i*1) (n:=n+1-i) (k:=n-i) hu hz hg9 hg9 (by simp only [Nat.min_def];split <;> omega) (by rw [hJ];omega) (by rw [hJ];omega) (by rw [hB];exact hBo)
  rw [hB] at cp1
  have fin:=ins_mid (A:=cs.take (i*1)) (B:=cs.drop (i*1)) hJ1
  rw [hcs,hAl,show i*1+xs.length=(i+1)*1 by rw [hxl];omega] at fin
  have hCl:(putCells (cs++J) ((i+1)*1) (cs.drop (i*1))).length=K*1:=by rw [putCells_length _ _ _ (by rw [hJ,hBl];omega),hJ]
  generalize hC1:putCells (cs++J) ((i+1)*1) (cs.drop (i*1))=C1 at *
  have hg2:(({ tr:=h.tr,nx:=h.nx+9 }:AH).put id (.cells C1 true false)).get id=_:=AH.get_put_eq rfl
  have hx2:(({ tr:=h.tr,nx:=h.nx+9 }:AH).put id (.cells C1 true false)).get jd=_:=(AH.get_put_ne (Ne.symm hne)).trans hx
  have cp2:=evCopy_at (P:=Tryz.prog) (st:=82) (h:=({ tr:=h.tr,nx:=h.nx+9 }:AH).put id (.cells C1 true false)) (id:=id) (jd:=jd) (c:=some (K-i)) (d:=d) (off:=i*1) (m:=n+1-i) (jo:=0) (n:=1) (k:=1) hu hz hg2 hx2 (by simp only [Nat.min_def];split <;> omega) (by rw [hxl];omega) (by rw [hCl];omega) (by rw [hxt];exact hxo)
  rw [hxt,fin] at cp2
  simp (maxSteps:=9^9) -dsimp (disch:=repeat first|rw [nxn]|rw [nxp]|omega) only [go_sem,evLen,sA,c1,evCap,c2,sE,sF]
  refine callK_of (RnC.sum (Q:=fun v h'=>v=.bool false∧h'=h) (ovl _) ⟨rfl,rfl⟩) ?_
  rintro v g ⟨rfl,rfl⟩
  simp (maxSteps:=9^9) -dsimp (disch:=repeat first|rw [nxn]|rw [nxp]|omega) only [go_sem,evLen]
  refine syDraw.keepN 0 (fun _=>True) (by kernel_rfl) (by kernel_rfl) rfl ?_
  simp (maxSteps:=9^9) -dsimp (disch:=repeat first|rw [nxn]|rw [nxp]|omega) only [go_sem,evLen,sF,sG,cp1,cp2]
  exact ⟨_,_,J.drop xs.length,rfl,by first | exact AH.get_put_eq rfl | (simp only [List.append_nil];exact AH.get_put_eq rfl),.inl rfl,fun j _ hj=>(AH.get_put_ne hj).trans (AH.get_put_ne hj)⟩
end
end Go.Proofs.YtihigekgnnoejaaGreatDoor.mdl
end