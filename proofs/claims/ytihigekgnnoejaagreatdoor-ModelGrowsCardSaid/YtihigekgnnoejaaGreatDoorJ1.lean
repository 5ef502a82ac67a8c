/- Texts joined: MLd, MLe. -/
import Derived.Test.YtihigekgnnoejaaGreatDoorG1
import Derived.Test.YtihigekgnnoejaaGreatDoorG4
set_option maxRecDepth 100000
set_option linter.unusedVariables false
set_option linter.unusedSimpArgs false
set_option maxHeartbeats 16000000
section
namespace Go.Proofs.YtihigekgnnoejaaGreatDoor.mdl
open Go Go.Abs Go.Proofs
def z17:List AV:=List.replicate 17 (.int .u64 0)
def vsA (l:List Ct):List AV:=l.foldl (fun a c=>putCells a c.1.toNat [.int .u64 c.2]) z17
theorem zcArr:zeroC Tryz.prog 91=some z17:=by kernel_rfl
attribute [go_sem] zcArr
theorem rightV_mem:∀(l:List Ct) (p:Int),rightV p l=true→∀c∈l,p<c.1∧c.1≤16
 | [],_,_,c,hc=>by cases hc
 | a::r,p,h,c,hc=>by
  rw [rightV] at h
  split at h
  ·cases h
  ·split at h
   ·cases h
   ·split at h
    ·cases h
    ·rcases List.mem_cons.1 hc with rfl | hc
     ·omega
     ·have:=rightV_mem r a.1 h c hc
      omega
theorem rightV_tail {a:Ct} {r:List Ct} {p:Int} (h:rightV p (a::r)=true):p<a.1∧a.1≤16∧rightV a.1 r=true:=by
 have h0:=rightV_mem _ _ h a (List.mem_cons_self ..)
 rw [rightV] at h
 split at h
 ·cases h
 ·split at h
  ·cases h
  ·split at h
   ·cases h
   ·exact ⟨h0.1,h0.2,h⟩
def valD:List Ct→Int→Int→Int
 | [],_,z=>z
 | c::r,d,z=>if c.1=d then c.2 else valD r d z
theorem valD0:∀(l:List Ct) (d:Int),valD l d 0=valV l d
 | [],_=>rfl
 | c::r,d=>by unfold valD valV;rw [valD0 r d]
theorem valD_no:∀(l:List Ct) (d z:Int),(∀c∈l,d<c.1)→valD l d z=z
 | [],_,_,_=>rfl
 | c::r,d,z,h=>by
  have h1:=h c (List.mem_cons_self ..)
  unfold valD
  rw [if_neg (by omega),valD_no r d z fun c' hc=>h c' (List.mem_cons_of_mem _ hc)]
theorem foldA_len:∀(l:List Ct) (a:List AV),(∀c∈l,0≤c.1∧c.1≤16)→a.length=17→(l.foldl (fun a c=>putCells a c.1.toNat [.int .u64 c.2]) a).length=17
 | [],a,_,h=>h
 | c::r,a,hc,h=>by
  have h1:=hc c (List.mem_cons_self ..)
  rw [List.foldl_cons]
  exact foldA_len r _ (fun c' h'=>hc c' (List.mem_cons_of_mem _ h')) (by rw [putCells_length _ _ _ (by simp;omega)];exact h)
theorem vsA_len {l:List Ct} (hc:∀c∈l,0≤c.1∧c.1≤16):(vsA l).length=17:=foldA_len l _ hc rfl
theorem foldA_get:∀(l:List Ct) (p:Int) (a:List AV) (d:Nat) (z:Int),0≤p→rightV p l=true→a.length=17→d≤16→a[d]? = some (.int .u64 z)→(l.foldl (fun a c=>putCells a c.1.toNat [.int .u64 c.2]) a)[d]? = some (.int .u64 (valD l (d:Nat) z))
 | [],_,a,d,z,_,_,_,_,h=>h
 | c::r,p,a,d,z,hp,hr,ha,hd,h=>by
  obtain ⟨h1,h2,h3⟩:=rightV_tail hr
  rw [List.foldl_cons]
  have hg:=putCells_get a c.1.toNat [.int .u64 c.2] (by simp;omega) d
  have hl:(putCells a c.1.toNat [.int .u64 c.2]).length=17:=by rw [putCells_length _ _ _ (by simp;omega)];exact ha
  by_cases e:c.1=(d:Nat)
  ·have e1:(putCells a c.1.toNat [.int .u64 c.2])[d]? = some (.int .u64 c.2):=by
    rw [hg]
    have:c.1.toNat=d:=by omega
    simp [this]
   rw [foldA_get r c.1 _ d c.2 (by omega) h3 hl hd e1]
   rw [show valD (c::r) (d:Nat) z=c.2 from if_pos e,valD_no r _ _ fun c' hc=>by have:=rightV_mem r c.1 h3 c' hc;omega]
  ·have e1:(putCells a c.1.toNat [.int .u64 c.2])[d]? = some (.int .u64 z):=by
    rw [hg,←h]
    simp only [List.length_cons,List.length_nil]
    by_cases h5:d<c.1.toNat
    ·simp [h5];intro h6;omega
    ·simp [h5];intro h6;omega
   rw [foldA_get r c.1 _ d z (by omega) h3 hl hd e1]
   rw [show valD (c::r) (d:Nat) z=valD r (d:Nat) z from if_neg e]
theorem vsA_get {l:List Ct} (h:rightV 0 l=true) {d:Nat} (hd:d≤16):(vsA l)[d]? = some (.int .u64 (valV l (d:Nat))):=by
 rw [←valD0]
 exact foldA_get l 0 z17 d 0 (Int.le_refl _) h rfl hd (by unfold z17;rw [List.getElem?_replicate,if_pos (by omega)])
theorem vsA_take {l:List Ct} {i:Nat} {c:Ct} (hc:l[i]? = some c):vsA (l.take (i+1))=putCells (vsA (l.take i)) c.1.toNat [.int .u64 c.2]:=by
 unfold vsA
 rw [List.take_add_one,hc,Option.toList_some,List.foldl_append]
 rfl
theorem vsA_one {l:List Ct}:(vsA l).all oneA=true:=by
 unfold vsA
 suffices ∀(l:List Ct) (a:List AV),a.all oneA=true→(l.foldl (fun a c=>putCells a c.1.toNat [.int .u64 c.2]) a).all oneA=true from this l z17 (by rfl)
 intro l
 induction l with
 | nil=>intro a h;exact h
 | cons c r ih =>
  intro a h
  rw [List.foldl_cons]
  apply ih
  unfold putCells
  rw [List.all_append,List.all_append]
  rw [List.all_eq_true] at h
  simp only [Bool.and_eq_true,List.all_eq_true]
  exact ⟨⟨fun x hx=>h x (List.mem_of_mem_take hx),fun x hx=>by simp at hx;subst hx;rfl⟩,fun x hx=>h x (List.mem_of_mem_drop hx)⟩
section
variable {S : Sums}
theorem valuesC (hS:Nx S) {K:Nat→Nat} {h:AH} {v:AV} {l:List Ct} (hv:Cv K h v l) (hr:rightV 0 l=true):RnC Tryz.prog S 36 [v] h fun r h'=>r=.agg (vsA l)∧Fr h h':=by
 refine RnC.enter' Tryz.f36 _ 23 [.cell 2 91] (hS.nx8 _ _ _ (by simp)) bd36 Tryz.func36 rfl rfl rfl ?_
 obtain ⟨lv,lw,sv,ov⟩:=hv.ln
 have hl:=hv.2
 have hm:=rightV_mem l 0 hr
 have hz:z17.length=17:=rfl
 have hze:z17.isEmpty=false:=rfl
 simp -dsimp (disch:=repeat first | rw [nxn] | rw [nxp] | omega) only [go_sem,lv,ov,hze]
 generalize hg:((h.new (.cells z17 true false)).new (.cells z17 true false))=g1
 have n1:g1.nx=h.nx+1+1:=by rw [←hg];rfl
 have f1:Fr h g1:=by rw [←hg];exact (Fr.new _ _).news _
 have q0:g1.get h.nx=some (.cells z17 true false):=by rw [←hg];exact (AH.get_new_ne (by simp [AH.new])).trans (AH.get_new_eq rfl)
 have q1:g1.get (h.nx+1)=some (.cells z17 true false):=by rw [←hg];exact AH.get_new_eq rfl
 clear hg
 refine loopK_of (RnL.rounds (Q:=fun ex u=>u.d=[]∧ex=.exit 0∧Fr h u.h∧u.t.get 2=some (.ptr h.nx 0)∧u.t.get 3=some (.ptr (h.nx+1) 0)∧u.h.get h.nx=some (.cells z17 true false)∧u.h.get (h.nx+1)=some (.cells (vsA l) true false))
  (fun m u=>u.d=[]∧Fr h u.h∧u.t.get 0=some v∧u.t.get 2=some (.ptr h.nx 0)∧u.t.get 3=some (.ptr (h.nx+1) 0)∧u.h.get h.nx=some (.cells z17 true false)∧∃i:Nat,u.t.get 4=some (.int .i64 (i:Nat))∧i≤l.length∧u.h.get (h.nx+1)=some (.cells (vsA (l.take i)) true false)∧m=l.length-i) ?_ l.length ?_) ?_
 ·rintro m ⟨tt,g,q⟩ ⟨e2,e1,g0,t2,t3,b0,i,t4,hi,b1,rfl⟩
  dsimp only at e1 e2 g0 t2 t3 t4 b0 b1
  subst e2
  by_cases c4:(i:Int)<(l.length:Nat)
  ·have hil:i<l.length:=by omega
   obtain ⟨c,hc⟩:∃c,l[i]? = some c:=⟨_,List.getElem?_eq_getElem hil⟩
   obtain ⟨id,off,cc,cs,o,t,rfl,hgi,hidl,hk,hle,hx,x0,x1⟩:=Cv.at hv hc
   have hgx:=(e1.get id hidl).trans hgi
   have hle1:off+i*2+1≤cs.length:=by omega
   have hcm:=hm c (List.mem_of_getElem? hc)
   obtain ⟨d,hd⟩:∃d:Nat,c.1=(d:Nat):=⟨c.1.toNat,by omega⟩
   have hd17:d<17:=by omega
   have hd18:d+1≤17:=by omega
   have hdt:c.1.toNat=d:=by omega
   have hdm:d*1=d:=Nat.mul_one d
   have hd16:d≤16:=by omega
   have hvl:(vsA (l.take i)).length=17:=vsA_len fun c' h'=>by have:=hm c' (List.mem_of_mem_take h');omega
   have hvt:=vsA_take hc
   rw [hdt] at hvt
   rw [hd] at x0
   simp -dsimp (disch:=repeat first | rw [nxn] | rw [nxp] | omega) only [go_sem,c4,g0,t2,t3,t4,lv,ov]
   refine syDraw.keepN 11 (fun j=>j=id∨j=h.nx+1) (by kernel_rfl) (by kernel_rfl) rfl ?_
   simp -dsimp (disch:=repeat first | rw [nxn] | rw [nxp] | omega) only [go_sem,g0,t2,t3,t4,hil,hgx,hle,hle1,x0,x1,b1,hd17,hd18,hd16,hdm,hvl,true_and,true_or,or_true,implies_true,svi,svb,svs,svp]
   refine ⟨l.length-(i+1),by omega,⟨by show h.nx≤g.nx+_;have:=e1.nx;omega,fun j hj=>(AH.get_put_ne (by omega)).trans (e1.get j hj)⟩,b0,i+1,rfl,by omega,?_,rfl⟩
   rw [hvt];rfl
  ·obtain rfl:i=l.length:=by omega
   rw [List.take_length] at b1
   simp -dsimp (disch:=repeat first | rw [nxn] | rw [nxp] | omega) only [go_sem,c4,g0,t2,t3,t4,lv,ov]
   exact ⟨trivial,trivial,e1,trivial,trivial,b0,b1⟩
 ·simp -dsimp (disch:=repeat first | rw [nxn] | rw [nxp] | omega) only [go_sem]
  exact ⟨trivial,f1,trivial,trivial,trivial,q0,0,rfl,Nat.zero_le _,q1,rfl⟩
 ·rintro ex ⟨tt,g,q⟩ ⟨rfl,rfl,e1,t2,t3,b0,b1⟩
  dsimp only at e1 t2 t3 b0 b1
  have hvl:(vsA l).length=17:=vsA_len fun c' h'=>by have:=hm c' h';omega
  have hvo:=vsA_one (l:=l)
  have ht:(vsA l).take 17=vsA l:=List.take_of_length_le (by omega)
  have hdz:z17.drop 17=[]:=rfl
  simp -dsimp (disch:=repeat first | rw [nxn] | rw [nxp] | omega) only [go_sem,t2,t3,b0,b1,hvl,hz,hvo,ht,hdz,List.append_nil]
  exact ⟨by first | trivial | rfl,e1.put _ (Nat.le_refl _)⟩
theorem rCompareC (hS:Nx S) {K:Nat→Nat} {h:AH} {v w:AV} {a b:List Ct} (hv:Cv K h v a) (hw:Cv K h w b):RnC Tryz.prog S 10 [v,w] h fun r h'=>r=.int .i64 (cmpV a b)∧Fr h h':=by
 refine RnC.enter' Tryz.f10 _ 55 [.tmp 4] (hS.nx8 _ _ _ (by simp)) bd10 Tryz.func10 rfl rfl rfl ?_
 obtain ⟨_,_,sv,ov⟩:=hv.ln
 obtain ⟨_,_,sw,ow⟩:=hw.ln
 simp -dsimp (disch:=repeat first | rw [nxn] | rw [nxp] | omega) only [go_sem,ov,ow]
 refine callK_of (rCheckV hS hv) ?_
 rintro r g ⟨rfl,f⟩
 unfold cmpV
 cases ha:rightV 0 a
 ·try simp -dsimp (disch:=repeat first | rw [nxn] | rw [nxp] | omega) only [go_sem,ov,ow,ha]
  exact ⟨by simp,f⟩
 try simp -dsimp (disch:=repeat first | rw [nxn] | rw [nxp] | omega) only [go_sem,ov,ow,ha]
 refine callK_of (rCheckV hS (hw.fr f)) ?_
 rintro r g2 ⟨rfl,f2⟩
 have f12:=f.trans f2
 cases hb:rightV 0 b
 ·try simp -dsimp (disch:=repeat first | rw [nxn] | rw [nxp] | omega) only [go_sem,ov,ow,hb]
  exact ⟨by simp,f12⟩
 try simp -dsimp (disch:=repeat first | rw [nxn] | rw [nxp] | omega) only [go_sem,ov,ow,hb]
 refine callK_of (valuesC hS (hv.fr f12) ha) ?_
 rintro r g3 ⟨rfl,f3⟩
 have f13:=f12.trans f3
 have hva:=vsA_len (l:=a) fun c' h'=>by have:=rightV_mem a 0 ha c' h';omega
 have hvb:=vsA_len (l:=b) fun c' h'=>by have:=rightV_mem b 0 hb c' h';omega
 have hoa:=vsA_one (l:=a)
 have hob:=vsA_one (l:=b)
 have hz:z17.length=17:=rfl
 have hze:z17.isEmpty=false:=rfl
 have hdz:z17.drop 17=[]:=rfl
 try simp -dsimp (disch:=repeat first | rw [nxn] | rw [nxp] | omega) only [go_sem,ov,ow,hva,hvb,hoa,hob]
 refine callK_of (valuesC hS (hw.fr f13) hb) ?_
 rintro r g4 ⟨rfl,f4⟩
 have f14:=f13.trans f4
 simp -dsimp (disch:=repeat first | rw [nxn] | rw [nxp] | omega) only [go_sem,ov,ow,hva,hvb,hoa,hob,hz,hze,hdz,List.append_nil]
 generalize hg:(((g4.new (.cells z17 true false)).new (.cells z17 true false)).put g4.nx (.cells (vsA a) true false)).put (g4.nx+1) (.cells (vsA b) true false)=g5
 have f5:Fr h g5:=by rw [←hg];exact f14.trans ((((Fr.new _ _).news _).put _ (Nat.le_refl _)).put _ (Nat.le_succ _))
 have q0:g5.get g4.nx=some (.cells (vsA a) true false):=by rw [←hg];exact (AH.get_put_ne (by omega)).trans (AH.get_put_eq rfl)
 have q1:g5.get (g4.nx+1)=some (.cells (vsA b) true false):=by rw [←hg];exact AH.get_put_eq rfl
 clear hg
 refine loopK_of (RnL.rounds (Q:=fun ex u=>u.d=[]∧Fr h u.h∧ex=.exit 0∧u.t.get 7=some (.bool (lmV a b 16).1)∧u.t.get 8=some (.bool (lmV a b 16).2))
  (fun m u=>u.d=[]∧Fr h u.h∧u.h.get g4.nx=some (.cells (vsA a) true false)∧u.h.get (g4.nx+1)=some (.cells (vsA b) true false)∧u.t.get 5=some (.ptr g4.nx 0)∧u.t.get 6=some (.ptr (g4.nx+1) 0)∧∃n:Nat,u.t.get 9=some (.int .i64 ((n+1:Nat):Int))∧n≤16∧u.t.get 7=some (.bool (lmV a b n).1)∧u.t.get 8=some (.bool (lmV a b n).2)∧m=16-n) ?_ 16 ?_) ?_
 ·rintro m ⟨tt,g,q⟩ ⟨e2,e1,b0,b1,t5,t6,n,t9,hn,t7,t8,rfl⟩
  dsimp only at e1 e2 b0 b1 t5 t6 t7 t8 t9
  subst e2
  by_cases c4:((n+1:Nat):Int)<17
  ·have hn17:n+1<17:=by omega
   have hn16:n+1≤16:=by omega
   have hn1:(n+1)*1=n+1:=Nat.mul_one _
   have hn18:n+1+1≤17:=by omega
   have xa:=vsA_get ha hn16
   have xb:=vsA_get hb hn16
   have es:lmV a b (n+1)=stepV a b (lmV a b n) (n+1):=rfl
   unfold stepV at es
   simp -dsimp (disch:=repeat first | rw [nxn] | rw [nxp] | omega) only [go_sem,c4,t5,t6,t7,t8,t9]
   refine syDraw.keepN 0 (fun _=>True) (by kernel_rfl) (by kernel_rfl) rfl ?_
   by_cases h1:valV a ((n+1:Nat):Int)=valV b ((n+1:Nat):Int)
   ·rw [if_pos h1] at es
    have ll:¬valV b ((n+1:Nat):Int)<valV b ((n+1:Nat):Int):=by omega
    cases hp1:(lmV a b n).1 <;> cases hp2:(lmV a b n).2
    all_goals
     rw [hp1] at t7
     rw [hp2] at t8
     simp -dsimp (disch:=repeat first | rw [nxn] | rw [nxp] | omega) only [go_sem,t5,t6,t7,t8,t9,b0,b1,hn17,hn16,hn1,hn18,hva,hvb,xa,xb,h1,ll]
     refine syDraw.keepN 0 (fun _=>True) (by kernel_rfl) (by kernel_rfl) rfl ?_
     simp -dsimp (disch:=repeat first | rw [nxn] | rw [nxp] | omega) only [go_sem,t5,t6,t7,t8,t9,b0,b1,hn17,hn16,hn1,hn18,hva,hvb,xa,xb,h1,ll]
     exact ⟨16-(n+1),by omega,trivial,e1.more _ (by omega),trivial,trivial,trivial,trivial,n+1,rfl,by omega,by simp [es,hp1],by simp [es,hp2],rfl⟩
   ·rw [if_neg h1] at es
    by_cases h2:valV a ((n+1:Nat):Int)<valV b ((n+1:Nat):Int)
    ·rw [if_pos h2] at es
     have h3:¬valV b ((n+1:Nat):Int)<valV a ((n+1:Nat):Int):=by omega
     cases hp1:(lmV a b n).1 <;> cases hp2:(lmV a b n).2
     all_goals
      rw [hp1] at t7
      rw [hp2] at t8
      simp -dsimp (disch:=repeat first | rw [nxn] | rw [nxp] | omega) only [go_sem,t5,t6,t7,t8,t9,b0,b1,hn17,hn16,hn1,hn18,hva,hvb,xa,xb,h2,h3]
      refine syDraw.keepN 0 (fun _=>True) (by kernel_rfl) (by kernel_rfl) rfl ?_
      simp -dsimp (disch:=repeat first | rw [nxn] | rw [nxp] | omega) only [go_sem,t5,t6,t7,t8,t9,b0,b1,hn17,hn16,hn1,hn18,hva,hvb,xa,xb,h2,h3]
      exact ⟨16-(n+1),by omega,trivial,e1.more _ (by omega),trivial,trivial,trivial,trivial,n+1,rfl,by omega,by simp [es,hp1],by simp [es,hp2],rfl⟩
    ·rw [if_neg h2] at es
     have h3:valV b ((n+1:Nat):Int)<valV a ((n+1:Nat):Int):=by omega
     cases hp1:(lmV a b n).1 <;> cases hp2:(lmV a b n).2
     all_goals
      rw [hp1] at t7
      rw [hp2] at t8
      simp -dsimp (disch:=repeat first | rw [nxn] | rw [nxp] | omega) only [go_sem,t5,t6,t7,t8,t9,b0,b1,hn17,hn16,hn1,hn18,hva,hvb,xa,xb,h2,h3]
      refine syDraw.keepN 0 (fun _=>True) (by kernel_rfl) (by kernel_rfl) rfl ?_
      simp -dsimp (disch:=repeat first | rw [nxn] | rw [nxp] | omega) only [go_sem,t5,t6,t7,t8,t9,b0,b1,hn17,hn16,hn1,hn18,hva,hvb,xa,xb,h2,h3]
      exact ⟨16-(n+1),by omega,trivial,e1.more _ (by omega),trivial,trivial,trivial,trivial,n+1,rfl,by omega,by simp [es,hp1],by simp [es,hp2],rfl⟩
  ·obtain rfl:n=16:=by omega
   simp -dsimp (disch:=repeat first | rw [nxn] | rw [nxp] | omega) only [go_sem,c4,t5,t6,t7,t8,t9]
   exact ⟨trivial,e1,trivial,trivial,trivial⟩
 ·simp -dsimp (disch:=repeat first | rw [nxn] | rw [nxp] | omega) only [go_sem]
  exact ⟨trivial,f5,q0,q1,trivial,trivial,0,rfl,by decide,rfl,rfl,rfl⟩
 ·rintro ex ⟨tt,g2,q⟩ ⟨rfl,e1,rfl,g5,g6⟩
  dsimp only at e1 g5 g6
  cases h1:(lmV a b 16).1 <;> cases h2:(lmV a b 16).2 <;> rw [h1] at g5 <;> rw [h2] at g6
  all_goals
   try simp -dsimp (disch:=repeat first | rw [nxn] | rw [nxp] | omega) only [go_sem,g5,g6]
   exact ⟨by simp,e1⟩
end
section
variable {S : Sums}
theorem rSameLC (hS:Nx S) {K:Nat→Nat} {h:AH} {v w:AV} {s n:Int} {l:List Dg} (hv:Dv K h v l) (hw:Dv K h w l):RnC Tryz.prog S 34 [.agg [.int .i64 s,.int .i64 n,v],.agg [.int .i64 s,.int .i64 n,w]] h fun r h'=>r=.bool true∧Fr h h':=by
 refine RnC.enter' Tryz.f34 _ 45 [.tmp 4] (hS.nx8 _ _ _ (by simp)) bd34 Tryz.func34 rfl rfl rfl ?_
 obtain ⟨lv,sv,ov⟩:=hv.ln
 obtain ⟨lw,sw,ow⟩:=hw.ln
 have mv:=ov;unfold oneA at mv
 have mw:=ow;unfold oneA at mw
 have hl:=hv.2
 simp -dsimp (disch:=repeat first | rw [nxn] | rw [nxp] | omega) only [go_sem,ov,ow,mv,mw,lv,lw]
 generalize hg:((h.new (.cells [.int .i64 s,.int .i64 n,v] true false)).new (.cells [.int .i64 s,.int .i64 n,w] true false))=g1
 have f1:Fr h g1:=by rw [←hg];exact (Fr.new _ _).news _
 have n1:g1.nx=h.nx+1+1:=by rw [←hg];rfl
 have q0:g1.get h.nx=some (.cells [.int .i64 s,.int .i64 n,v] true false):=by rw [←hg];exact (AH.get_new_ne (by simp [AH.new])).trans (AH.get_new_eq rfl)
 have q1:g1.get (h.nx+1)=some (.cells [.int .i64 s,.int .i64 n,w] true false):=by rw [←hg];exact AH.get_new_eq rfl
 clear hg
 try simp -dsimp (disch:=repeat first | rw [nxn] | rw [nxp] | omega) only [go_sem,q0,q1,ov,ow,mv,mw,lv,lw]
 refine loopK_of (RnL.rounds (Q:=fun ex u=>u.d=[]∧Fr h u.h∧ex=.exit 0)
  (fun m u=>u.d=[]∧Fr h u.h∧u.h.get h.nx=some (.cells [.int .i64 s,.int .i64 n,v] true false)∧u.h.get (h.nx+1)=some (.cells [.int .i64 s,.int .i64 n,w] true false)∧u.t.get 2=some (.ptr h.nx 0)∧u.t.get 3=some (.ptr (h.nx+1) 0)∧∃i:Nat,u.t.get 5=some (.int .i64 (i:Nat))∧i≤l.length∧m=l.length-i) ?_ l.length ?_) ?_
 ·rintro m ⟨tt,g,q⟩ ⟨e2,e1,b0,b1,t2,t3,i,t5,hi,rfl⟩
  dsimp only at e1 e2 b0 b1 t2 t3 t5
  subst e2
  by_cases c4:(i:Int)<(l.length:Nat)
  ·have hil:i<l.length:=by omega
   obtain ⟨p,hp⟩:∃p,l[i]? = some p:=⟨_,List.getElem?_eq_getElem hil⟩
   obtain ⟨id,off,cc,cs,o,tx,rfl,hgi,hidl,_,hle,hx⟩:=Dv.at hv hp
   obtain ⟨id2,off2,cc2,cs2,oo,tx2,rfl,hgi2,hidl2,_,hle2,hx2⟩:=Dv.at hw hp
   have hgx:=(e1.get id hidl).trans hgi
   have hgx2:=(e1.get id2 hidl2).trans hgi2
   have hn:=fun g=>neDg g p p
   have hd:decide (p=p)=true:=decide_eq_true rfl
   simp -dsimp (disch:=repeat first | rw [nxn] | rw [nxp] | omega) only [go_sem,c4,b0,b1,t2,t3,t5,ov,ow,mv,mw,lv,lw]
   refine syDraw.keepN 0 (fun _=>True) (by kernel_rfl) (by kernel_rfl) rfl ?_
   simp -dsimp (disch:=repeat first | rw [nxn] | rw [nxp] | omega) only [go_sem,hil,hgx,hgx2,hle,hle2,hx,hx2,hn,hd,b0,b1,t2,t3,t5,ov,ow,mv,mw]
   exact ⟨l.length-(i+1),by omega,trivial,e1.more _ (by omega),trivial,trivial,trivial,trivial,i+1,rfl,by omega,rfl⟩
  ·obtain rfl:i=l.length:=by omega
   simp -dsimp (disch:=repeat first | rw [nxn] | rw [nxp] | omega) only [go_sem,c4,b0,b1,t2,t3,t5,ov,ow,mv,mw,lv,lw]
   exact ⟨trivial,e1,trivial⟩
 ·simp -dsimp (disch:=repeat first | rw [nxn] | rw [nxp] | omega) only [go_sem]
  exact ⟨trivial,f1,q0,q1,trivial,trivial,0,rfl,Nat.zero_le _,rfl⟩
 ·rintro ex ⟨tt,g2,q⟩ ⟨rfl,e1,rfl⟩
  dsimp only at e1
  simp -dsimp (disch:=repeat first | rw [nxn] | rw [nxp] | omega) only [go_sem]
  exact ⟨by first | trivial | rfl,e1⟩
theorem rSameC (hS:Nx S) {K:Nat→Nat} {h:AH} {ca cb:List AV} {x:Rc} (ha:Ra K h ca x) (hb:Ra K h cb x):RnC Tryz.prog S 9 [.agg ca,.agg cb] h fun r h'=>r=.bool true∧Fr h h':=by
 obtain ⟨v,d,rfl,hv,hd,_⟩:=ha
 obtain ⟨w,e,rfl,hw,he,_⟩:=hb
 refine RnC.enter' Tryz.f9 _ 60 [.tmp 4] (hS.nx8 _ _ _ (by simp)) bd9 Tryz.func9 rfl rfl rfl ?_
 obtain ⟨lv,_,sv,ov⟩:=hv.ln
 obtain ⟨lw,_,sw,ow⟩:=hw.ln
 obtain ⟨ld,sd,od⟩:=hd.ln
 obtain ⟨le,se,oe⟩:=he.ln
 have mv:=ov;unfold oneA at mv
 have mw:=ow;unfold oneA at mw
 have md:=od;unfold oneA at md
 have me:=oe;unfold oneA at me
 have hl:=hv.2
 simp (maxSteps:=9^9) -dsimp (disch:=repeat first | rw [nxn] | rw [nxp] | omega) only [go_sem,ov,ow,mv,mw,lv,lw,od,oe,md,me]
 generalize hg:((h.new (.cells [.str x.path,v,.int .i64 x.own,.bool x.gone,.int .i64 x.size,.int .i64 x.len,d] true false)).new (.cells [.str x.path,w,.int .i64 x.own,.bool x.gone,.int .i64 x.size,.int .i64 x.len,e] true false))=g1
 have f1:Fr h g1:=by rw [←hg];exact (Fr.new _ _).news _
 have n1:g1.nx=h.nx+1+1:=by rw [←hg];rfl
 have q0:g1.get h.nx=some (.cells [.str x.path,v,.int .i64 x.own,.bool x.gone,.int .i64 x.size,.int .i64 x.len,d] true false):=by rw [←hg];exact (AH.get_new_ne (by simp [AH.new])).trans (AH.get_new_eq rfl)
 have q1:g1.get (h.nx+1)=some (.cells [.str x.path,w,.int .i64 x.own,.bool x.gone,.int .i64 x.size,.int .i64 x.len,e] true false):=by rw [←hg];exact AH.get_new_eq rfl
 clear hg
 have es:∀g,binA Tryz.prog g .neq 9 (.str x.path) (.str x.path)=some (.bool false):=fun g=>by rw [neStr];simp
 have eb:∀g,binA Tryz.prog g .neq 4 (.bool x.gone) (.bool x.gone)=some (.bool false):=fun g=>by cases x.gone <;> rfl
 try simp (maxSteps:=9^9) -dsimp (disch:=repeat first | rw [nxn] | rw [nxp] | omega) only [go_sem,q0,q1,ov,ow,mv,mw,lv,lw,od,oe,md,me,es,eb]
 refine callK_of (rSameLC hS (hd.fr f1) (he.fr f1)) ?_
 rintro r g2 ⟨rfl,f2⟩
 have f12:=f1.trans f2
 have u0:=(f2.get _ (by omega)).trans q0
 have u1:=(f2.get _ (by omega)).trans q1
 simp (maxSteps:=9^9) -dsimp (disch:=repeat first | rw [nxn] | rw [nxp] | omega) only [go_sem]
 refine loopK_of (RnL.rounds (Q:=fun ex u=>u.d=[]∧Fr h u.h∧ex=.exit 0)
  (fun m u=>u.d=[]∧Fr h u.h∧u.h.get h.nx=some (.cells [.str x.path,v,.int .i64 x.own,.bool x.gone,.int .i64 x.size,.int .i64 x.len,d] true false)∧u.h.get (h.nx+1)=some (.cells [.str x.path,w,.int .i64 x.own,.bool x.gone,.int .i64 x.size,.int .i64 x.len,e] true false)∧u.t.get 2=some (.ptr h.nx 0)∧u.t.get 3=some (.ptr (h.nx+1) 0)∧∃i:Nat,u.t.get 5=some (.int .i64 (i:Nat))∧i≤x.vec.length∧m=x.vec.length-i) ?_ x.vec.length ?_) ?_
 ·rintro m ⟨tt,g,q⟩ ⟨e2,e1,b0,b1,t2,t3,i,t5,hi,rfl⟩
  dsimp only at e1 e2 b0 b1 t2 t3 t5
  subst e2
  by_cases c4:(i:Int)<(x.vec.length:Nat)
  ·have hil:i<x.vec.length:=by omega
   obtain ⟨p,hp⟩:∃p,x.vec[i]? = some p:=⟨_,List.getElem?_eq_getElem hil⟩
   obtain ⟨id,off,cc,cs,o,tx,rfl,hgi,hidl,_,hle,hx,_⟩:=Cv.at hv hp
   obtain ⟨id2,off2,cc2,cs2,oo,tx2,rfl,hgi2,hidl2,_,hle2,hx2,_⟩:=Cv.at hw hp
   have hgx:=(e1.get id hidl).trans hgi
   have hgx2:=(e1.get id2 hidl2).trans hgi2
   have hn:=fun g=>neCt g p p
   have hd:decide (p=p)=true:=decide_eq_true rfl
   simp (maxSteps:=9^9) -dsimp (disch:=repeat first | rw [nxn] | rw [nxp] | omega) only [go_sem,c4,b0,b1,t2,t3,t5,ov,ow,mv,mw,lv,lw]
   refine syDraw.keepN 0 (fun _=>True) (by kernel_rfl) (by kernel_rfl) rfl ?_
   simp (maxSteps:=9^9) -dsimp (disch:=repeat first | rw [nxn] | rw [nxp] | omega) only [go_sem,hil,hgx,hgx2,hle,hle2,hx,hx2,hn,hd,b0,b1,t2,t3,t5,ov,ow,mv,mw]
   exact ⟨x.vec.length-(i+1),by omega,trivial,e1.more _ (by omega),trivial,trivial,trivial,trivial,i+1,rfl,by omega,rfl⟩
  ·obtain rfl:i=x.vec.length:=by omega
   simp (maxSteps:=9^9) -dsimp (disch:=repeat first | rw [nxn] | rw [nxp] | omega) only [go_sem,c4,b0,b1,t2,t3,t5,ov,ow,mv,mw,lv,lw]
   exact ⟨trivial,e1,trivial⟩
 ·simp (maxSteps:=9^9) -dsimp (disch:=repeat first | rw [nxn] | rw [nxp] | omega) only [go_sem]
  exact ⟨trivial,f12,u0,u1,trivial,trivial,0,rfl,Nat.zero_le _,rfl⟩
 ·rintro ex ⟨tt,g2,q⟩ ⟨rfl,e1,rfl⟩
  dsimp only at e1
  simp (maxSteps:=9^9) -dsimp (disch:=repeat first | rw [nxn] | rw [nxp] | omega) only [go_sem]
  exact ⟨by first | trivial | rfl,e1⟩
end
end Go.Proofs.YtihigekgnnoejaaGreatDoor.mdl
end