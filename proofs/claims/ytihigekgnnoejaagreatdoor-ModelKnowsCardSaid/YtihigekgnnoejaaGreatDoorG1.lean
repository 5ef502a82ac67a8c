/- Texts joined: MA, MB, MLc, MC, MD, ME. -/
import Derived.Test.YtihigekgnnoejaaGreatDoorFacts
import Derived.Test.YtihigekgnnoejaaGreatDoorAb6
set_option maxRecDepth 100000
set_option linter.unusedVariables false
set_option linter.unusedSimpArgs false
set_option maxHeartbeats 16000000
section
namespace Go.Proofs.YtihigekgnnoejaaGreatDoor.mdl
open Go Go.Abs Go.Proofs
abbrev Ct:=Int×Int
abbrev ctc (c:Ct):List AV:=[.int .i64 c.1,.int .u64 c.2]
theorem ctc_len (l:List Ct):(l.flatMap ctc).length=l.length*2:=flat_len ctc 2 (fun _=>rfl) l
def Cv (K:Nat→Nat) (h:AH) (v:AV) (l:List Ct):Prop:=Fl K 2 h v (l.flatMap ctc)∧l.length≤1000000
theorem Cv.gk {K:Nat→Nat} {h h':AH} {v:AV} {l:List Ct} (hb:Cv K h v l) (g:Gk K h h'):Cv K h' v l:=⟨hb.1.gk g,hb.2⟩
theorem Cv.fr {K:Nat→Nat} {h h':AH} {v:AV} {l:List Ct} (hb:Cv K h v l) (f:Fr h h'):Cv K h' v l:=hb.gk (f.gk K)
theorem Cv.at {K:Nat→Nat} {h:AH} {v:AV} {l:List Ct} {i:Nat} {c:Ct} (hb:Cv K h v l) (hi:l[i]? = some c):∃id off cc cs o t,v=.sl id off l.length 2 cc∧h.get id=some (.cells cs o t)∧id<h.nx∧K id=0∧off+i*2+2≤cs.length∧(cs.drop (off+i*2)).take 2=[.int .i64 c.1,.int .u64 c.2]∧cs[off+i*2]? = some (.int .i64 c.1)∧cs[off+i*2+1]? = some (.int .u64 c.2):=by
 have hil:i<l.length:=(List.getElem?_eq_some_iff.1 hi).1
 obtain ⟨id,off,cc,cs,o,t,h1,h2,h3,h4,h5,h6,h7⟩:=Fl.at hb.1 (by decide) (ctc_len l) hil
 obtain ⟨e1,e2⟩:=flat_at ctc 2 (fun _=>rfl) hi
 exact ⟨id,off,cc,cs,o,t,h1,h2,h3,h4,h5,h6.trans e1,(h7 0 (by decide)).trans (e2 0 (by decide)),(h7 1 (by decide)).trans (e2 1 (by decide))⟩
theorem Cv.ln {K:Nat→Nat} {h:AH} {v:AV} {l:List Ct} (hb:Cv K h v l):(∀g,evLen Tryz.prog g #[31] v=some (.int .i64 (l.length:Nat)))∧(∀g,evLen Tryz.prog g #[174] v=some (.int .i64 (l.length:Nat)))∧sameAV 20 v v=true∧oneA v=true :=
 ⟨Fl.len hb.1 Tryz.underlying31 (by decide) (ctc_len l),Fl.len hb.1 Tryz.underlying174 (by decide) (ctc_len l),Fl.one hb.1⟩
theorem drop_at {α:Type} {l:List α} {i:Nat} {c:α} (hi:l[i]? = some c):l.drop i=c::l.drop (i+1):=by
 have hil:i<l.length:=(List.getElem?_eq_some_iff.1 hi).1
 rw [List.drop_eq_getElem_cons hil]
 rw [List.getElem?_eq_getElem hil] at hi
 cases hi;rfl
def valV:List Ct→Int→Int
 | [],_=>0
 | c::r,d=>if c.1=d then c.2 else valV r d
def rightV:Int→List Ct→Bool
 | _,[]=>true
 | n,c::r=>if c.1≤n then false else if 16<c.1 then false else if c.2=0 then false else rightV c.1 r
def stepV (a b:List Ct) (p:Bool×Bool) (d:Nat):Bool×Bool:=if valV a (d:Nat)=valV b (d:Nat) then p else if valV a (d:Nat)<valV b (d:Nat) then (true,p.2) else (p.1,true)
def lmV (a b:List Ct):Nat→Bool×Bool
 | 0=>(false,false)
 | n+1=>stepV a b (lmV a b n) (n+1)
def cmpV (a b:List Ct):Int:=if (rightV 0 a&&rightV 0 b)=false then 0 else if (lmV a b 16).1=true∧(lmV a b 16).2=true then 4 else if (lmV a b 16).1=true then 2 else if (lmV a b 16).2=true then 3 else 1
section
variable {S : Sums}
structure Mv (S:Sums):Prop where
 nv:∀f args h,f∈[125,142,95,122,126,98,169,157,170,190,202]→S f args h=none
theorem valueC (hS:Mv S) {K:Nat→Nat} {h:AH} {v:AV} {l:List Ct} (d:Int) (hv:Cv K h v l):RnC Tryz.prog S 125 [v,.int .i64 d] h fun r h'=>r=.int .u64 (valV l d)∧Fr h h':=by
 refine RnC.enter' Tryz.f125 _ 20 [.tmp 4] (hS.nv _ _ _ (by simp)) bd125 Tryz.func125 rfl rfl rfl ?_
 obtain ⟨lv,lw,sv,ov⟩:=hv.ln
 have hl:=hv.2
 simp -dsimp (disch:=repeat first|rw [nxn]|rw [nxp]|omega) only [go_sem,lw,ov]
 refine loopK_of (RnL.rounds (Q:=fun ex u=>u.d=[]∧Fr h u.h∧(ex=.exit 0∧valV l d=0∨ex=.ret∧u.t.get 4=some (.int .u64 (valV l d))))
  (fun m u=>u.d=[]∧Fr h u.h∧u.t.get 1=some (.int .i64 d)∧u.t.get 7=some v∧u.t.get 8=some (.int .i64 (l.length:Nat))∧∃i:Nat,u.t.get 9=some (.int .i64 (i:Nat))∧i≤l.length∧valV l d=valV (l.drop i) d∧m=l.length-i) ?_ l.length ?_) ?_
 ·rintro m ⟨tt,g,q⟩ ⟨e2,e1,g1,g7,g8,i,g9,hi,hval,rfl⟩
  dsimp only at e1 e2 g1 g7 g8 g9
  subst e2
  by_cases c4:(i:Int)<(l.length:Nat)
  ·have hil:i<l.length:=by omega
   obtain ⟨c,hc⟩:∃c,l[i]? = some c:=⟨_,List.getElem?_eq_getElem hil⟩
   obtain ⟨id,off,cc,cs,o,t,rfl,hgi,hidl,hk,hle,hx,x0,x1⟩:=Cv.at hv hc
   have hgx:=(e1.get id hidl).trans hgi
   rw [drop_at hc] at hval
   by_cases hd:c.1=d
   ·rw [valV,if_pos hd] at hval
    simp -dsimp (disch:=repeat first|rw [nxn]|rw [nxp]|omega) only [go_sem,c4,g1,g7,g8,g9,hil,hgx,hle,hx,hd]
    exact ⟨trivial,(e1.news _).put _ e1.nx,.inr ⟨trivial,by rw [hval]⟩⟩
   ·rw [valV,if_neg hd] at hval
    simp -dsimp (disch:=repeat first|rw [nxn]|rw [nxp]|omega) only [go_sem,c4,g1,g7,g8,g9,hil,hgx,hle,hx,hd]
    exact ⟨l.length-(i+1),by omega,trivial,(e1.news _).put _ e1.nx,trivial,trivial,trivial,i+1,rfl,by omega,hval,rfl⟩
  ·have:i=l.length:=by omega
   subst this
   rw [List.drop_length] at hval
   simp -dsimp (disch:=repeat first|rw [nxn]|rw [nxp]|omega) only [go_sem,c4,g1,g7,g8,g9]
   exact ⟨trivial,e1,.inl ⟨trivial,hval⟩⟩
 ·simp -dsimp (disch:=repeat first|rw [nxn]|rw [nxp]|omega) only [go_sem]
  exact ⟨trivial,Fr.refl _,trivial,trivial,trivial,0,rfl,Nat.zero_le _,rfl,rfl⟩
 ·rintro ex ⟨tt,g,q⟩ ⟨rfl,e1,⟨rfl,hval⟩ | ⟨rfl,t4⟩⟩
  ·dsimp only at e1
   simp -dsimp (disch:=repeat first|rw [nxn]|rw [nxp]|omega) only [go_sem,hval]
   exact ⟨by first | trivial | rfl,e1⟩
  ·dsimp only at e1 t4
   simp -dsimp (disch:=repeat first|rw [nxn]|rw [nxp]|omega) only [go_sem,t4]
   exact ⟨by first | trivial | rfl,e1⟩
theorem rightC (hS:Mv S) {K:Nat→Nat} {h:AH} {v:AV} {l:List Ct} (hv:Cv K h v l):RnC Tryz.prog S 142 [v] h fun r h'=>r=.bool (rightV 0 l)∧Fr h h':=by
 refine RnC.enter' Tryz.f142 _ 29 [.tmp 2] (hS.nv _ _ _ (by simp)) bd142 Tryz.func142 rfl rfl rfl ?_
 obtain ⟨lv,lw,sv,ov⟩:=hv.ln
 have hl:=hv.2
 simp -dsimp (disch:=repeat first|rw [nxn]|rw [nxp]|omega) only [go_sem,lw,ov]
 refine loopK_of (RnL.rounds (Q:=fun ex u=>u.d=[]∧Fr h u.h∧(ex=.exit 0∧rightV 0 l=true∨ex=.ret∧u.t.get 2=some (.bool (rightV 0 l))))
  (fun m u=>u.d=[]∧Fr h u.h∧u.t.get 6=some v∧u.t.get 7=some (.int .i64 (l.length:Nat))∧∃(i:Nat) (n:Int),u.t.get 3=some (.int .i64 n)∧u.t.get 8=some (.int .i64 (i:Nat))∧i≤l.length∧rightV 0 l=rightV n (l.drop i)∧m=l.length-i) ?_ l.length ?_) ?_
 ·rintro m ⟨tt,g,q⟩ ⟨e2,e1,g6,g7,i,n,g3,g8,hi,hval,rfl⟩
  dsimp only at e1 e2 g3 g6 g7 g8
  subst e2
  by_cases c4:(i:Int)<(l.length:Nat)
  ·have hil:i<l.length:=by omega
   obtain ⟨c,hc⟩:∃c,l[i]? = some c:=⟨_,List.getElem?_eq_getElem hil⟩
   obtain ⟨id,off,cc,cs,o,t,rfl,hgi,hidl,hk,hle,hx,x0,x1⟩:=Cv.at hv hc
   have hgx:=(e1.get id hidl).trans hgi
   rw [drop_at hc,rightV] at hval
   by_cases h1:c.1≤n
   ·rw [if_pos h1] at hval
    simp -dsimp (disch:=repeat first|rw [nxn]|rw [nxp]|omega) only [go_sem,c4,g3,g6,g7,g8,hil,hgx,hle,hx,h1]
    exact ⟨trivial,(e1.news _).put _ e1.nx,.inr ⟨trivial,by rw [hval]⟩⟩
   ·rw [if_neg h1] at hval
    by_cases h2:16<c.1
    ·rw [if_pos h2] at hval
     simp -dsimp (disch:=repeat first|rw [nxn]|rw [nxp]|omega) only [go_sem,c4,g3,g6,g7,g8,hil,hgx,hle,hx,h1,h2]
     exact ⟨trivial,(e1.news _).put _ e1.nx,.inr ⟨trivial,by rw [hval]⟩⟩
    ·rw [if_neg h2] at hval
     by_cases h3:c.2=0
     ·rw [if_pos h3] at hval
      simp -dsimp (disch:=repeat first|rw [nxn]|rw [nxp]|omega) only [go_sem,c4,g3,g6,g7,g8,hil,hgx,hle,hx,h1,h2,h3]
      exact ⟨trivial,(e1.news _).put _ e1.nx,.inr ⟨trivial,by rw [hval]⟩⟩
     ·rw [if_neg h3] at hval
      simp -dsimp (disch:=repeat first|rw [nxn]|rw [nxp]|omega) only [go_sem,c4,g3,g6,g7,g8,hil,hgx,hle,hx,h1,h2,h3]
      exact ⟨l.length-(i+1),by omega,trivial,(e1.news _).put _ e1.nx,trivial,trivial,i+1,c.1,rfl,rfl,by omega,hval,rfl⟩
  ·have:i=l.length:=by omega
   subst this
   rw [List.drop_length] at hval
   simp -dsimp (disch:=repeat first|rw [nxn]|rw [nxp]|omega) only [go_sem,c4,g3,g6,g7,g8]
   exact ⟨trivial,e1,.inl ⟨trivial,hval⟩⟩
 ·simp -dsimp (disch:=repeat first|rw [nxn]|rw [nxp]|omega) only [go_sem]
  exact ⟨trivial,Fr.refl _,trivial,trivial,0,0,rfl,rfl,Nat.zero_le _,rfl,rfl⟩
 ·rintro ex ⟨tt,g,q⟩ ⟨rfl,e1,⟨rfl,hval⟩ | ⟨rfl,t2⟩⟩
  ·dsimp only at e1
   simp -dsimp (disch:=repeat first|rw [nxn]|rw [nxp]|omega) only [go_sem,hval]
   exact ⟨by first | trivial | rfl,e1⟩
  ·dsimp only at e1 t2
   simp -dsimp (disch:=repeat first|rw [nxn]|rw [nxp]|omega) only [go_sem,t2]
   exact ⟨by first | trivial | rfl,e1⟩
theorem vCheckC (hS:Mv S) {K:Nat→Nat} {h:AH} {v:AV} {l:List Ct} (hv:Cv K h v l):RnC Tryz.prog S 122 [v] h fun r h'=>r=.int .i64 (if rightV 0 l=true then 0 else 2)∧Fr h h':=by
 refine RnC.enter' Tryz.f122 _ 6 [.tmp 2] (hS.nv _ _ _ (by simp)) bd122 Tryz.func122 rfl rfl rfl ?_
 obtain ⟨lv,lw,sv,ov⟩:=hv.ln
 simp -dsimp only [go_sem,ov]
 refine callK_of (rightC hS hv) ?_
 rintro r g ⟨rfl,f⟩
 cases hr:rightV 0 l
 ·simp -dsimp only [go_sem]
  exact ⟨by simp,f⟩
 ·simp -dsimp only [go_sem]
  exact ⟨by simp,f⟩
theorem vValueC (hS:Mv S) {K:Nat→Nat} {h:AH} {v:AV} {l:List Ct} (d:Int) (hv:Cv K h v l):RnC Tryz.prog S 95 [v,.int .i64 d] h fun r h'=>r=.int .u64 (valV l d)∧Fr h h':=by
 refine RnC.enter' Tryz.f95 _ 8 [.tmp 4] (hS.nv _ _ _ (by simp)) bd95 Tryz.func95 rfl rfl rfl ?_
 obtain ⟨lv,lw,sv,ov⟩:=hv.ln
 simp -dsimp only [go_sem,ov]
 refine callK_of (valueC hS d hv) ?_
 rintro r g ⟨rfl,f⟩
 try simp -dsimp only [go_sem]
 exact ⟨by first | trivial | rfl,f⟩
theorem bothC (hS:Mv S) {K:Nat→Nat} {h:AH} {v w:AV} {l m:List Ct} (hv:Cv K h v l) (hw:Cv K h w m):RnC Tryz.prog S 126 [v,w] h fun r h'=>r=.bool (rightV 0 l&&rightV 0 m)∧Fr h h':=by
 refine RnC.enter' Tryz.f126 _ 13 [.tmp 4] (hS.nv _ _ _ (by simp)) bd126 Tryz.func126 rfl rfl rfl ?_
 obtain ⟨_,_,sv,ov⟩:=hv.ln
 obtain ⟨_,_,sw,ow⟩:=hw.ln
 simp -dsimp only [go_sem,ov,ow]
 refine callK_of (vCheckC hS hv) ?_
 rintro r g ⟨rfl,f⟩
 cases hr:rightV 0 l
 ·simp -dsimp only [go_sem]
  exact ⟨by first | trivial | rfl,f⟩
 ·simp -dsimp only [go_sem,ow]
  refine callK_of (vCheckC hS (hw.fr f)) ?_
  rintro r g2 ⟨rfl,f2⟩
  cases hr2:rightV 0 m
  ·simp -dsimp only [go_sem]
   exact ⟨by first | trivial | rfl,f.trans f2⟩
  ·simp -dsimp only [go_sem]
   exact ⟨by first | trivial | rfl,f.trans f2⟩
end
section
variable {S : Sums}
theorem cmpC (hS:Mv S) {K:Nat→Nat} {h:AH} {v w:AV} {a b:List Ct} (hv:Cv K h v a) (hw:Cv K h w b):RnC Tryz.prog S 98 [v,w] h fun r h'=>r=.int .i64 (cmpV a b)∧Fr h h':=by
 refine RnC.enter' Tryz.f98 _ 41 [.tmp 4] (hS.nv _ _ _ (by simp)) bd98 Tryz.func98 rfl rfl rfl ?_
 obtain ⟨_,_,sv,ov⟩:=hv.ln
 obtain ⟨_,_,sw,ow⟩:=hw.ln
 simp -dsimp only [go_sem,ov,ow]
 refine callK_of (bothC hS hv hw) ?_
 rintro r g ⟨rfl,f⟩
 unfold cmpV
 cases hb:rightV 0 a&&rightV 0 b
 ·simp -dsimp only [go_sem,ov,ow]
  exact ⟨by simp,f⟩
 rw [if_neg (by decide)]
 simp -dsimp only [go_sem,ov,ow]
 refine loopK_of (RnL.rounds (Q:=fun ex u=>u.d=[]∧Fr h u.h∧ex=.exit 0∧u.t.get 5=some (.bool (lmV a b 16).1)∧u.t.get 6=some (.bool (lmV a b 16).2))
  (fun m u=>u.d=[]∧Fr h u.h∧u.t.get 0=some v∧u.t.get 1=some w∧∃n:Nat,u.t.get 7=some (.int .i64 ((n+1:Nat):Int))∧n≤16∧u.t.get 5=some (.bool (lmV a b n).1)∧u.t.get 6=some (.bool (lmV a b n).2)∧m=16-n) ?_ 16 ?_) ?_
 ·rintro m ⟨tt,g,q⟩ ⟨e2,e1,g0,g1,n,g7,hn,g5,g6,rfl⟩
  dsimp only at e1 e2 g0 g1 g5 g6 g7
  subst e2
  by_cases c4:((n+1:Nat):Int)≤16
  ·simp -dsimp only [go_sem,c4,g0,g1,g5,g6,g7,ov,ow]
   refine callK_of (vValueC hS ((n+1:Nat):Int) (hv.fr e1)) ?_
   rintro r g2 ⟨rfl,f2⟩
   try simp -dsimp only [go_sem,g0,g1,g5,g6,g7,ov,ow]
   refine callK_of (vValueC hS ((n+1:Nat):Int) ((hw.fr e1).fr f2)) ?_
   rintro r g3 ⟨rfl,f3⟩
   have e3:=(e1.trans f2).trans f3
   have es:lmV a b (n+1)=stepV a b (lmV a b n) (n+1):=rfl
   unfold stepV at es
   by_cases h1:valV a ((n+1:Nat):Int)=valV b ((n+1:Nat):Int)
   ·rw [if_pos h1] at es
    try simp -dsimp (disch:=repeat first|rw [nxn]|rw [nxp]|omega) only [go_sem,g0,g1,g5,g6,g7,h1]
    exact ⟨16-(n+1),by omega,trivial,e3,trivial,trivial,n+1,rfl,by omega,by rw [es],by rw [es],rfl⟩
   ·rw [if_neg h1] at es
    by_cases h2:valV a ((n+1:Nat):Int)<valV b ((n+1:Nat):Int)
    ·rw [if_pos h2] at es
     try simp -dsimp (disch:=repeat first|rw [nxn]|rw [nxp]|omega) only [go_sem,g0,g1,g5,g6,g7,h1,h2]
     exact ⟨16-(n+1),by omega,trivial,e3,trivial,trivial,n+1,rfl,by omega,by rw [es],by rw [es],rfl⟩
    ·rw [if_neg h2] at es
     try simp -dsimp (disch:=repeat first|rw [nxn]|rw [nxp]|omega) only [go_sem,g0,g1,g5,g6,g7,h1,h2]
     exact ⟨16-(n+1),by omega,trivial,e3,trivial,trivial,n+1,rfl,by omega,by rw [es],by rw [es],rfl⟩
  ·obtain rfl:n=16:=by omega
   simp -dsimp only [go_sem,c4,g0,g1,g5,g6,g7]
   exact ⟨trivial,e1,trivial,trivial,trivial⟩
 ·simp -dsimp only [go_sem]
  exact ⟨trivial,f,trivial,trivial,0,rfl,by decide,rfl,rfl,rfl⟩
 ·rintro ex ⟨tt,g2,q⟩ ⟨rfl,e1,rfl,g5,g6⟩
  dsimp only at e1 g5 g6
  cases h1:(lmV a b 16).1 <;> cases h2:(lmV a b 16).2 <;> rw [h1] at g5 <;> rw [h2] at g6
  all_goals
   try simp -dsimp only [go_sem,g5,g6]
   exact ⟨by simp,e1⟩
end
structure Nx (S:Sums):Prop where
 nx8:∀f args h,f∈[35,36,10,34,9,11,21,20,6,15]→S f args h=none
section
variable {S : Sums}
end
abbrev Dg:={ l:List Int // l.length=32 }
abbrev dgc (d:Dg):List AV:=d.1.map (AV.int .u8)
theorem dgc_len (l:List Dg):(l.flatMap dgc).length=l.length*32:=flat_len dgc 32 (fun a=>by rw [List.length_map];exact a.2) l
def Dv (K:Nat→Nat) (h:AH) (v:AV) (l:List Dg):Prop:=Fl K 32 h v (l.flatMap dgc)∧l.length≤1000000
theorem Dv.gk {K:Nat→Nat} {h h':AH} {v:AV} {l:List Dg} (hb:Dv K h v l) (g:Gk K h h'):Dv K h' v l:=⟨hb.1.gk g,hb.2⟩
theorem Dv.fr {K:Nat→Nat} {h h':AH} {v:AV} {l:List Dg} (hb:Dv K h v l) (f:Fr h h'):Dv K h' v l:=hb.gk (f.gk K)
theorem Dv.at {K:Nat→Nat} {h:AH} {v:AV} {l:List Dg} {i:Nat} {c:Dg} (hb:Dv K h v l) (hi:l[i]? = some c):∃id off cc cs o t,v=.sl id off l.length 32 cc∧h.get id=some (.cells cs o t)∧id<h.nx∧K id=0∧off+i*32+32≤cs.length∧(cs.drop (off+i*32)).take 32=dgc c:=by
 have hil:i<l.length:=(List.getElem?_eq_some_iff.1 hi).1
 obtain ⟨id,off,cc,cs,o,t,h1,h2,h3,h4,h5,h6,h7⟩:=Fl.at hb.1 (by decide) (dgc_len l) hil
 obtain ⟨e1,e2⟩:=flat_at dgc 32 (fun a=>by rw [List.length_map];exact a.2) hi
 exact ⟨id,off,cc,cs,o,t,h1,h2,h3,h4,h5,h6.trans e1⟩
theorem Dv.ln {K:Nat→Nat} {h:AH} {v:AV} {l:List Dg} (hb:Dv K h v l):(∀g,evLen Tryz.prog g #[32] v=some (.int .i64 (l.length:Nat)))∧sameAV 20 v v=true∧oneA v=true :=
 ⟨Fl.len hb.1 Tryz.underlying32 (by decide) (dgc_len l),Fl.one hb.1⟩
structure Rc where
 path:List Nat
 vec:List Ct
 own:Int
 gone:Bool
 size:Int
 len:Int
 digs:List Dg
def Rc.tup (r:Rc):List Nat×List Ct×Int×Bool×Int×Int×List Dg:=(r.path,r.vec,r.own,r.gone,r.size,r.len,r.digs)
theorem Rc.ext' {a b:Rc} (h:a.tup=b.tup):a=b:=by
 obtain ⟨a1,a2,a3,a4,a5,a6,a7⟩:=a
 obtain ⟨b1,b2,b3,b4,b5,b6,b7⟩:=b
 simp only [Rc.tup,Prod.mk.injEq] at h
 obtain ⟨rfl,rfl,rfl,rfl,rfl,rfl,rfl⟩:=h
 rfl
def sameL (a b:Rc):Bool:=decide (a.size=b.size)&&(decide (a.len=b.len)&&decide (a.digs=b.digs))
def sameR (a b:Rc):Bool:=decide (a.path=b.path)&&(decide (a.vec=b.vec)&&(decide (a.own=b.own)&&(decide (a.gone=b.gone)&&sameL a b)))
theorem sameR_iff {a b:Rc}:sameR a b=true↔a=b:=by
 constructor
 ·intro h
  simp only [sameR,sameL,Bool.and_eq_true,decide_eq_true_eq] at h
  obtain ⟨h1,h2,h3,h4,h5,h6,h7⟩:=h
  exact Rc.ext' (by simp only [Rc.tup,h1,h2,h3,h4,h5,h6,h7])
 ·rintro rfl
  simp [sameR,sameL]
def Ra (K:Nat→Nat) (h:AH) (cs:List AV) (r:Rc):Prop:=∃v d,cs=[.str r.path,v,.int .i64 r.own,.bool r.gone,.int .i64 r.size,.int .i64 r.len,d]∧Cv K h v r.vec∧Dv K h d r.digs∧r.path.length≤1000000
theorem Ra.gk {K:Nat→Nat} {h h':AH} {cs:List AV} {r:Rc} (hb:Ra K h cs r) (g:Gk K h h'):Ra K h' cs r:=let ⟨v,d,h1,h2,h3,h4⟩:=hb;⟨v,d,h1,h2.gk g,h3.gk g,h4⟩
theorem Ra.fr {K:Nat→Nat} {h h':AH} {cs:List AV} {r:Rc} (hb:Ra K h cs r) (f:Fr h h'):Ra K h' cs r:=hb.gk (f.gk K)
theorem Dv.col {K K':Nat→Nat} {h:AH} {v:AV} {l:List Dg} (hb:Dv K h v l) (hk:∀j,j<h.nx→K j=0→K' j=0):Dv K' h v l:=⟨hb.1.col hk,hb.2⟩
theorem Cv.col {K K':Nat→Nat} {h:AH} {v:AV} {l:List Ct} (hb:Cv K h v l) (hk:∀j,j<h.nx→K j=0→K' j=0):Cv K' h v l:=⟨hb.1.col hk,hb.2⟩
theorem Ra.col {K K':Nat→Nat} {h:AH} {cs:List AV} {r:Rc} (hb:Ra K h cs r) (hk:∀j,j<h.nx→K j=0→K' j=0):Ra K' h cs r:=let ⟨v,d,h1,h2,h3,h4⟩:=hb;⟨v,d,h1,h2.col hk,h3.col hk,h4⟩
def Kb (K:Nat→Nat) (a b j:Nat):Nat:=if a≤j∧j<b then 1 else K j
theorem Kb.in {K:Nat→Nat} {a b j:Nat} (h1:a≤j) (h2:j<b):Kb K a b j≠0:=by unfold Kb;rw [if_pos ⟨h1,h2⟩];decide
theorem Kb.out {K:Nat→Nat} {a b j:Nat} (h:j<a∨b≤j):Kb K a b j=K j:=if_neg (by omega)
theorem Kb.z {K:Nat→Nat} {a b j:Nat} (h:Kb K a b j=0):K j=0:=by
 unfold Kb at h
 split at h
 ·cases h
 ·exact h
theorem eqInt (h:AH) (d:Nat) (a b:Int):eqA Tryz.prog h (d+1) 3 (.int .i64 a) (.int .i64 b)=some (a==b):=by
 unfold eqA;rw [Tryz.underlying3];simp
theorem eqU64 (h:AH) (d:Nat) (a b:Int):eqA Tryz.prog h (d+1) 62 (.int .u64 a) (.int .u64 b)=some (a==b):=by
 unfold eqA;rw [Tryz.underlying62];simp
theorem eqU8 (h:AH) (d:Nat) (a b:Int):eqA Tryz.prog h (d+1) 5 (.int .u8 a) (.int .u8 b)=some (a==b):=by
 unfold eqA;rw [Tryz.underlying5];simp
theorem neCt (h:AH) (a b:Ct):binA Tryz.prog h .neq 64 (.agg [.int .i64 a.1,.int .u64 a.2]) (.agg [.int .i64 b.1,.int .u64 b.2])=some (.bool (!decide (a=b))):=by
 have h1:eqOk Tryz.prog 64 (.agg [.int .i64 a.1,.int .u64 a.2]) (.agg [.int .i64 b.1,.int .u64 b.2])=true:=by
  show (!(Tryz.prog.eqGuardType Tryz.prog.depth 64))=true
  kernel_rfl
 have hsi:Tryz.prog.stoodInHeld 64=false:=by kernel_rfl
 have h2:eqA Tryz.prog h (11+1) 64 (.agg [.int .i64 a.1,.int .u64 a.2]) (.agg [.int .i64 b.1,.int .u64 b.2])=some (decide (a=b)):=by
  unfold eqA
  rw [Tryz.underlying64]
  simp only [hsi]
  obtain ⟨a1,a2⟩:=a
  obtain ⟨b1,b2⟩:=b
  by_cases e1:a1=b1 <;> by_cases e2:a2=b2 <;> simp [eqFs,partA,aggT,tz3,tz62,eqInt,eqU64,e1,e2,Tryz.underlying3,Tryz.underlying62]
 show (if eqOk Tryz.prog 64 (.agg [.int .i64 a.1,.int .u64 a.2]) (.agg [.int .i64 b.1,.int .u64 b.2])=true then (eqA Tryz.prog h (11+1) 64 (.agg [.int .i64 a.1,.int .u64 a.2]) (.agg [.int .i64 b.1,.int .u64 b.2])).map fun x=>AV.bool !x else none)=_
 rw [if_pos h1,h2]
 rfl
theorem eqEs_u8 (h:AH) (d:Nat) (x y:List Int) (hx:x.length=y.length):∀n i,i+n=x.length→eqEs Tryz.prog (eqA Tryz.prog h (d+1)) 5 1 (x.map (AV.int .u8)) (y.map (AV.int .u8)) n i=some (decide (x.drop i=y.drop i))
 | 0,i,hn=>by
  rw [List.drop_of_length_le (by omega),List.drop_of_length_le (by omega)]
  simp [eqEs]
 | n+1,i,hn=>by
  have ih:=eqEs_u8 h d x y hx n (i+1) (by omega)
  obtain ⟨a,ha⟩:∃a,x[i]? = some a:=⟨_,List.getElem?_eq_getElem (by omega)⟩
  obtain ⟨b,hb⟩:∃b,y[i]? = some b:=⟨_,List.getElem?_eq_getElem (by omega)⟩
  rw [drop_at ha,drop_at hb]
  unfold eqEs
  have pa:∀(z:List Int) (c:Int),z[i]? = some c→partA Tryz.prog 5 (z.map (AV.int .u8)) (i*1)=some (.int .u8 c):=fun z c hc=>by
   simp [partA,Tryz.underlying5,aggT,hc]
  rw [pa x a ha,pa y b hb]
  simp only [Option.bind_eq_bind,Option.bind_some,eqU8]
  by_cases e:a=b
  ·simp [e,ih]
  ·simp [e]
theorem neDg (h:AH) (a b:Dg):binA Tryz.prog h .neq 104 (.agg (dgc a)) (.agg (dgc b))=some (.bool (!decide (a=b))):=by
 have h1:eqOk Tryz.prog 104 (.agg (dgc a)) (.agg (dgc b))=true:=by
  show (!(Tryz.prog.eqGuardType Tryz.prog.depth 104))=true
  kernel_rfl
 have h2:eqA Tryz.prog h (11+1) 104 (.agg (dgc a)) (.agg (dgc b))=some (decide (a=b)):=by
  unfold eqA
  rw [Tryz.underlying104]
  simp only [tz5,Option.bind_eq_bind,Option.bind_some]
  rw [eqEs_u8 h 10 a.1 b.1 (a.2.trans b.2.symm) 32 0 (by rw [a.2])]
  simp only [List.drop_zero]
  congr 1
  exact decide_eq_decide.2 ⟨fun e=>Subtype.ext e,fun e=>congrArg _ e⟩
 show (if eqOk Tryz.prog 104 (.agg (dgc a)) (.agg (dgc b))=true then (eqA Tryz.prog h (11+1) 104 (.agg (dgc a)) (.agg (dgc b))).map fun x=>AV.bool !x else none)=_
 rw [if_pos h1,h2]
 rfl
theorem eqStr (h:AH) (t:TypeId) (a b:List Nat):binA Tryz.prog h .eql t (.str a) (.str b)=some (.bool (decide (a=b))):=by
 show strA .eql a b=_
 simp [strA,eqL_eq]
theorem neStr (h:AH) (t:TypeId) (a b:List Nat):binA Tryz.prog h .neq t (.str a) (.str b)=some (.bool (!decide (a=b))):=by
 show strA .neq a b=_
 simp [strA,eqL_eq]
theorem eqBool (h:AH) (a b:Bool):binA Tryz.prog h .eql 4 (.bool a) (.bool b)=some (.bool (decide (a=b))):=by
 cases a <;> cases b <;> kernel_rfl
section
variable {S : Sums}
structure Mr (S:Sums):Prop extends Mv S where
 nr:∀f args h,f∈[48,72,33,49,26,34,9,40,52,53,94,124,123,143]→S f args h=none
theorem eqCtC (hS:Mr S) {K:Nat→Nat} {h:AH} {v w:AV} {a b:List Ct} (hv:Cv K h v a) (hw:Cv K h w b):RnC Tryz.prog S 48 [v,w] h fun r h'=>r=.bool (decide (a=b))∧Fr h h':=by
 refine RnC.enter' Tryz.f48 _ 26 [.tmp 4] (hS.nr _ _ _ (by simp)) bd48 Tryz.func48 rfl rfl rfl ?_
 obtain ⟨lv,_,sv,ov⟩:=hv.ln
 obtain ⟨lw,_,sw,ow⟩:=hw.ln
 have ha:=hv.2
 by_cases hab:((a.length:Nat):Int)=((b.length:Nat):Int)
 case neg =>
  have:¬a=b:=fun hh=>hab (by rw [hh])
  simp (maxSteps:=9^9) -dsimp (disch:=repeat first|rw [nxn]|rw [nxp]|omega) only [go_sem,lv,ov,lw,ow,hab]
  exact ⟨by simp [this],Fr.refl _⟩
 simp (maxSteps:=9^9) -dsimp (disch:=repeat first|rw [nxn]|rw [nxp]|omega) only [go_sem,lv,ov,lw,ow,hab]
 refine loopK_of (RnL.rounds (Q:=fun ex u=>u.d=[]∧Fr h u.h∧(ex=.exit 0∧a=b∨ex=.ret∧u.t.get 4=some (.bool false)∧¬a=b))
  (fun m u=>u.d=[]∧Fr h u.h∧u.t.get 0=some v∧u.t.get 1=some w∧u.t.get 12=some (.int .i64 (a.length:Nat))∧∃i:Nat,u.t.get 13=some (.int .i64 (i:Nat))∧i≤a.length∧(a=b↔a.drop i=b.drop i)∧m=a.length-i) ?_ a.length ?_) ?_
 ·rintro m ⟨tt,g,d⟩ ⟨e2,e1,g0,g1,g12,i,g13,hi,hiff,rfl⟩
  dsimp only at e1 e2 g0 g1 g12 g13
  subst e2
  by_cases c4:(i:Int)<(a.length:Nat)
  ·have hil:i<a.length:=by omega
   have hib:i<b.length:=by omega
   obtain ⟨p,hp⟩:∃p,a[i]? = some p:=⟨_,List.getElem?_eq_getElem hil⟩
   obtain ⟨q,hq⟩:∃q,b[i]? = some q:=⟨_,List.getElem?_eq_getElem hib⟩
   obtain ⟨id,off,c,cs,o,tx,rfl,hgi,hidl,_,hle,hx,_⟩:=Cv.at hv hp
   obtain ⟨id2,off2,cc,cs2,oo,tx2,rfl,hgi2,hidl2,_,hle2,hx2,_⟩:=Cv.at hw hq
   have hgx:=(e1.get id hidl).trans hgi
   have hgx2:=(e1.get id2 hidl2).trans hgi2
   have hn:=fun g=>neCt g p q
   rw [drop_at hp,drop_at hq] at hiff
   simp (maxSteps:=9^9) -dsimp (disch:=repeat first|rw [nxn]|rw [nxp]|omega) only [go_sem,c4,g0,g1,g12,g13]
   refine syDraw.keepN 0 (fun _=>True) (by kernel_rfl) (by kernel_rfl) rfl ?_
   by_cases hpq:p=q
   ·have hd:decide (p=q)=true:=decide_eq_true hpq
    simp (maxSteps:=9^9) -dsimp (disch:=repeat first|rw [nxn]|rw [nxp]|omega) only [go_sem,hil,hib,hgx,hgx2,hle,hle2,hx,hx2,hn,hd,g0,g1,g12,g13]
    exact ⟨a.length-(i+1),by omega,trivial,e1.more _ (by omega),trivial,trivial,trivial,i+1,rfl,by omega,by rw [hiff];simp [hpq],rfl⟩
   ·have hd:decide (p=q)=false:=decide_eq_false hpq
    simp (maxSteps:=9^9) -dsimp (disch:=repeat first|rw [nxn]|rw [nxp]|omega) only [go_sem,hil,hib,hgx,hgx2,hle,hle2,hx,hx2,hn,hd,g0,g1,g12,g13]
    exact ⟨trivial,e1.more _ (by omega),.inr ⟨trivial,trivial,by rw [hiff];simp [hpq]⟩⟩
  ·have:i=a.length:=by omega
   subst this
   simp (maxSteps:=9^9) -dsimp (disch:=repeat first|rw [nxn]|rw [nxp]|omega) only [go_sem,c4,g0,g1,g12,g13]
   exact ⟨trivial,e1,.inl ⟨trivial,hiff.2 (by rw [List.drop_of_length_le (by omega),List.drop_of_length_le (by omega)])⟩⟩
 ·simp (maxSteps:=9^9) -dsimp (disch:=repeat first|rw [nxn]|rw [nxp]|omega) only [go_sem]
  exact ⟨trivial,Fr.refl _,trivial,trivial,by rw [hab],0,rfl,Nat.zero_le _,by simp,rfl⟩
 ·rintro ex ⟨tt,g,d⟩ ⟨rfl,e1,⟨rfl,hab'⟩ | ⟨rfl,t4,hab'⟩⟩
  ·dsimp only at e1
   simp (maxSteps:=9^9) -dsimp (disch:=repeat first|rw [nxn]|rw [nxp]|omega) only [go_sem]
   exact ⟨by simp [hab'],e1⟩
  ·dsimp only at e1 t4
   simp (maxSteps:=9^9) -dsimp (disch:=repeat first|rw [nxn]|rw [nxp]|omega) only [go_sem,t4]
   exact ⟨by simp [hab'],e1⟩
theorem eqDgC (hS:Mr S) {K:Nat→Nat} {h:AH} {v w:AV} {a b:List Dg} (hv:Dv K h v a) (hw:Dv K h w b):RnC Tryz.prog S 72 [v,w] h fun r h'=>r=.bool (decide (a=b))∧Fr h h':=by
 refine RnC.enter' Tryz.f72 _ 26 [.tmp 4] (hS.nr _ _ _ (by simp)) bd72 Tryz.func72 rfl rfl rfl ?_
 obtain ⟨lv,sv,ov⟩:=hv.ln
 obtain ⟨lw,sw,ow⟩:=hw.ln
 have ha:=hv.2
 by_cases hab:((a.length:Nat):Int)=((b.length:Nat):Int)
 case neg =>
  have:¬a=b:=fun hh=>hab (by rw [hh])
  simp (maxSteps:=9^9) -dsimp (disch:=repeat first|rw [nxn]|rw [nxp]|omega) only [go_sem,lv,ov,lw,ow,hab]
  exact ⟨by simp [this],Fr.refl _⟩
 simp (maxSteps:=9^9) -dsimp (disch:=repeat first|rw [nxn]|rw [nxp]|omega) only [go_sem,lv,ov,lw,ow,hab]
 refine loopK_of (RnL.rounds (Q:=fun ex u=>u.d=[]∧Fr h u.h∧(ex=.exit 0∧a=b∨ex=.ret∧u.t.get 4=some (.bool false)∧¬a=b))
  (fun m u=>u.d=[]∧Fr h u.h∧u.t.get 0=some v∧u.t.get 1=some w∧u.t.get 12=some (.int .i64 (a.length:Nat))∧∃i:Nat,u.t.get 13=some (.int .i64 (i:Nat))∧i≤a.length∧(a=b↔a.drop i=b.drop i)∧m=a.length-i) ?_ a.length ?_) ?_
 ·rintro m ⟨tt,g,d⟩ ⟨e2,e1,g0,g1,g12,i,g13,hi,hiff,rfl⟩
  dsimp only at e1 e2 g0 g1 g12 g13
  subst e2
  by_cases c4:(i:Int)<(a.length:Nat)
  ·have hil:i<a.length:=by omega
   have hib:i<b.length:=by omega
   obtain ⟨p,hp⟩:∃p,a[i]? = some p:=⟨_,List.getElem?_eq_getElem hil⟩
   obtain ⟨q,hq⟩:∃q,b[i]? = some q:=⟨_,List.getElem?_eq_getElem hib⟩
   obtain ⟨id,off,c,cs,o,tx,rfl,hgi,hidl,_,hle,hx⟩:=Dv.at hv hp
   obtain ⟨id2,off2,cc,cs2,oo,tx2,rfl,hgi2,hidl2,_,hle2,hx2⟩:=Dv.at hw hq
   have hgx:=(e1.get id hidl).trans hgi
   have hgx2:=(e1.get id2 hidl2).trans hgi2
   have hn:=fun g=>neDg g p q
   rw [drop_at hp,drop_at hq] at hiff
   simp (maxSteps:=9^9) -dsimp (disch:=repeat first|rw [nxn]|rw [nxp]|omega) only [go_sem,c4,g0,g1,g12,g13]
   refine syDraw.keepN 0 (fun _=>True) (by kernel_rfl) (by kernel_rfl) rfl ?_
   by_cases hpq:p=q
   ·have hd:decide (p=q)=true:=decide_eq_true hpq
    simp (maxSteps:=9^9) -dsimp (disch:=repeat first|rw [nxn]|rw [nxp]|omega) only [go_sem,hil,hib,hgx,hgx2,hle,hle2,hx,hx2,hn,hd,g0,g1,g12,g13]
    exact ⟨a.length-(i+1),by omega,trivial,e1.more _ (by omega),trivial,trivial,trivial,i+1,rfl,by omega,by rw [hiff];simp [hpq],rfl⟩
   ·have hd:decide (p=q)=false:=decide_eq_false hpq
    simp (maxSteps:=9^9) -dsimp (disch:=repeat first|rw [nxn]|rw [nxp]|omega) only [go_sem,hil,hib,hgx,hgx2,hle,hle2,hx,hx2,hn,hd,g0,g1,g12,g13]
    exact ⟨trivial,e1.more _ (by omega),.inr ⟨trivial,trivial,by rw [hiff];simp [hpq]⟩⟩
  ·have:i=a.length:=by omega
   subst this
   simp (maxSteps:=9^9) -dsimp (disch:=repeat first|rw [nxn]|rw [nxp]|omega) only [go_sem,c4,g0,g1,g12,g13]
   exact ⟨trivial,e1,.inl ⟨trivial,hiff.2 (by rw [List.drop_of_length_le (by omega),List.drop_of_length_le (by omega)])⟩⟩
 ·simp (maxSteps:=9^9) -dsimp (disch:=repeat first|rw [nxn]|rw [nxp]|omega) only [go_sem]
  exact ⟨trivial,Fr.refl _,trivial,trivial,by rw [hab],0,rfl,Nat.zero_le _,by simp,rfl⟩
 ·rintro ex ⟨tt,g,d⟩ ⟨rfl,e1,⟨rfl,hab'⟩ | ⟨rfl,t4,hab'⟩⟩
  ·dsimp only at e1
   simp (maxSteps:=9^9) -dsimp (disch:=repeat first|rw [nxn]|rw [nxp]|omega) only [go_sem]
   exact ⟨by simp [hab'],e1⟩
  ·dsimp only at e1 t4
   simp (maxSteps:=9^9) -dsimp (disch:=repeat first|rw [nxn]|rw [nxp]|omega) only [go_sem,t4]
   exact ⟨by simp [hab'],e1⟩
theorem blockSameC (hS:Mr S) {K:Nat→Nat} {h:AH} {v w:AV} {a b:Rc} (hv:Dv K h v a.digs) (hw:Dv K h w b.digs):RnC Tryz.prog S 49 [.agg [.int .i64 a.size,.int .i64 a.len,v],.agg [.int .i64 b.size,.int .i64 b.len,w]] h fun r h'=>r=.bool (sameL a b)∧Fr h h':=by
 refine RnC.enter' Tryz.f49 _ 24 [.tmp 4] (hS.nr _ _ _ (by simp)) bd49 Tryz.func49 rfl rfl rfl ?_
 obtain ⟨_,sv,ov⟩:=hv.ln
 obtain ⟨_,sw,ow⟩:=hw.ln
 have mv:=oneM ov
 have mw:=oneM ow
 unfold sameL
 by_cases h1:a.size=b.size
 ·by_cases h2:a.len=b.len
  ·simp -dsimp (disch:=repeat first|rw [nxn]|rw [nxp]|omega) only [go_sem,ov,ow,mv,mw,h1,h2]
   refine callK_of (eqDgC hS (hv.fr ((Fr.new _ _).news _)) (hw.fr ((Fr.new _ _).news _))) ?_
   rintro r g ⟨rfl,f⟩
   cases hd:decide (a.digs=b.digs)
   ·simp -dsimp (disch:=repeat first|rw [nxn]|rw [nxp]|omega) only [go_sem]
    exact ⟨by simp,((Fr.new _ _).news _).trans f⟩
   ·simp -dsimp (disch:=repeat first|rw [nxn]|rw [nxp]|omega) only [go_sem]
    exact ⟨by simp [h1,h2],((Fr.new _ _).news _).trans f⟩
  ·simp -dsimp (disch:=repeat first|rw [nxn]|rw [nxp]|omega) only [go_sem,ov,ow,mv,mw,h1,h2]
   exact ⟨by simp [h2],(Fr.new _ _).news _⟩
 ·simp -dsimp (disch:=repeat first|rw [nxn]|rw [nxp]|omega) only [go_sem,ov,ow,mv,mw,h1]
  exact ⟨by simp [h1],(Fr.new _ _).news _⟩
theorem recSameC (hS:Mr S) {K:Nat→Nat} {h:AH} {ca cb:List AV} {a b:Rc} (ha:Ra K h ca a) (hb:Ra K h cb b):RnC Tryz.prog S 26 [.agg ca,.agg cb] h fun r h'=>r=.bool (sameR a b)∧Fr h h':=by
 obtain ⟨v,d,rfl,hv,hd,_⟩:=ha
 obtain ⟨w,e,rfl,hw,he,_⟩:=hb
 refine RnC.enter' Tryz.f26 _ 38 [.tmp 4] (hS.nr _ _ _ (by simp)) bd26 Tryz.func26 rfl rfl rfl ?_
 obtain ⟨_,_,_,ov⟩:=hv.ln
 obtain ⟨_,_,_,ow⟩:=hw.ln
 obtain ⟨_,_,od⟩:=hd.ln
 obtain ⟨_,_,oe⟩:=he.ln
 have mv:=oneM ov
 have mw:=oneM ow
 have md:=oneM od
 have me:=oneM oe
 unfold sameR
 have f0:∀c1 c2,Fr h ((h.new c1).new c2):=fun _ _=>(Fr.new _ _).news _
 by_cases h1:a.path=b.path
 case neg =>
  simp (maxSteps:=9^9) -dsimp (disch:=repeat first|rw [nxn]|rw [nxp]|omega) only [go_sem,ov,ow,od,oe,mv,mw,md,me,eqStr,decide_eq_false h1]
  exact ⟨by simp [h1],f0 _ _⟩
 simp (maxSteps:=9^9) -dsimp (disch:=repeat first|rw [nxn]|rw [nxp]|omega) only [go_sem,ov,ow,od,oe,mv,mw,md,me,eqStr,decide_eq_true h1]
 refine callK_of (eqCtC hS (hv.fr (f0 _ _)) (hw.fr (f0 _ _))) ?_
 rintro r g ⟨rfl,f⟩
 have fg:=(f0 _ _).trans f
 by_cases h2:a.vec=b.vec
 case neg =>
  simp (maxSteps:=9^9) -dsimp (disch:=repeat first|rw [nxn]|rw [nxp]|omega) only [go_sem,decide_eq_false h2]
  exact ⟨by simp [h2],fg⟩
 generalize hg1:((h.new (.cells [.str a.path,v,.int .i64 a.own,.bool a.gone,.int .i64 a.size,.int .i64 a.len,d] true false)).new (.cells [.str b.path,w,.int .i64 b.own,.bool b.gone,.int .i64 b.size,.int .i64 b.len,e] true false))=g1 at f
 have n1:g1.nx=h.nx+2:=by rw [←hg1];rfl
 have q1:g.get h.nx=some (.cells [.str a.path,v,.int .i64 a.own,.bool a.gone,.int .i64 a.size,.int .i64 a.len,d] true false):=(f.get _ (by omega)).trans (by rw [←hg1];exact (AH.get_new_ne (by simp)).trans (AH.get_new_eq rfl))
 have q2:g.get (h.nx+1)=some (.cells [.str b.path,w,.int .i64 b.own,.bool b.gone,.int .i64 b.size,.int .i64 b.len,e] true false):=(f.get _ (by omega)).trans (by rw [←hg1];exact AH.get_new_eq rfl)
 by_cases h3:a.own=b.own
 case neg =>
  simp (maxSteps:=9^9) -dsimp (disch:=repeat first|rw [nxn]|rw [nxp]|omega) only [go_sem,decide_eq_true h2,q1,q2,od,oe,h3]
  exact ⟨by simp [h3],fg⟩
 by_cases h4:a.gone=b.gone
 case neg =>
  simp (maxSteps:=9^9) -dsimp (disch:=repeat first|rw [nxn]|rw [nxp]|omega) only [go_sem,decide_eq_true h2,q1,q2,od,oe,h3,eqBool,decide_eq_false h4]
  exact ⟨by simp [h4],fg⟩
 simp (maxSteps:=9^9) -dsimp (disch:=repeat first|rw [nxn]|rw [nxp]|omega) only [go_sem,decide_eq_true h2,q1,q2,od,oe,md,me,h3,eqBool,decide_eq_true h4]
 refine callK_of (blockSameC hS (a:=a) (b:=b) (hd.fr fg) (he.fr fg)) ?_
 rintro r g2 ⟨rfl,f2⟩
 try simp (maxSteps:=9^9) -dsimp (disch:=repeat first|rw [nxn]|rw [nxp]|omega) only [go_sem]
 exact ⟨by simp [h1,h2,h3,h4],fg.trans f2⟩
end
theorem aiCt:appI Tryz.prog 64=some (2,16):=by kernel_rfl
theorem aiDg:appI Tryz.prog 104=some (32,32):=by kernel_rfl
theorem zcDg:zeroC Tryz.prog 104=some (List.replicate 32 (.int .u8 0)):=by kernel_rfl
theorem nilCt (h:AH):binA Tryz.prog h .eql 31 .nilsl .nilsl=some (.bool true):=by kernel_rfl
theorem sliCt (h:AH) (a o n z:Nat) (c:Option Nat):binA Tryz.prog h .eql 31 (.sl a o n z c) .nilsl=some (.bool false):=by kernel_rfl
theorem nilDg (h:AH):binA Tryz.prog h .eql 32 .nilsl .nilsl=some (.bool true):=by kernel_rfl
theorem sliDg (h:AH) (a o n z:Nat) (c:Option Nat):binA Tryz.prog h .eql 32 (.sl a o n z c) .nilsl=some (.bool false):=by kernel_rfl
theorem flShape {K:Nat→Nat} {z:Nat} {h:AH} {v:AV} {m:List AV} (hb:Fl K z h v m):(v=.nilsl∧m=[])∨∃a o n c,v=.sl a o n z c:=by
 rcases hb with h1 | ⟨id,off,n,c,cs,o,t,h1,_⟩
 ·exact .inl h1
 ·exact .inr ⟨_,_,_,_,h1⟩
theorem ezLow {z n0:Nat} {h:AH} {v:AV} {l:List AV} (hb:Ez z n0 h v l) {id o n z':Nat} {c:Option Nat} (hv:v=.sl id o n z' c):n0≤id:=by
 rcases hb with ⟨h1,_⟩ | ⟨id2,n,c,tx,h1,h2,h3,h4,_⟩
 ·rw [h1] at hv;cases hv
 ·rw [h1] at hv;cases hv;exact h4
theorem ct_all (l:List Ct):(l.flatMap ctc).all oneA=true:=by
 rw [List.all_eq_true]
 intro x hx
 obtain ⟨a,_,ha⟩:=List.mem_flatMap.1 hx
 simp only [ctc,List.mem_cons,List.not_mem_nil,or_false] at ha
 rcases ha with rfl | rfl <;> rfl
theorem dg_all (l:List Dg):(l.flatMap dgc).all oneA=true:=by
 rw [List.all_eq_true]
 intro x hx
 obtain ⟨a,_,ha⟩:=List.mem_flatMap.1 hx
 obtain ⟨b,_,rfl⟩:=List.mem_map.1 ha
 rfl
section
variable {S : Sums}
theorem cloneCtC (hS:Mr S) {K:Nat→Nat} {h:AH} {v:AV} {l:List Ct} (hv:Cv K h v l) (top:∀j,h.nx≤j→K j=0):RnC Tryz.prog S 52 [v] h fun r h'=>Cv K h' r l∧Fr h h':=by
 refine RnC.enter' Tryz.f52 _ 8 [.tmp 2] (hS.nr _ _ _ (by simp)) bd52 Tryz.func52 rfl rfl rfl ?_
 have hl:=ctc_len l
 have hl2:=hv.2
 rcases flShape hv.1 with ⟨rfl,hm⟩ | ⟨a,o,n,c,rfl⟩
 ·simp -dsimp only [go_sem,nilCt]
  exact ⟨hv,Fr.refl _⟩
 ·obtain ⟨v',h',e1,e2,e3,e4⟩:=Fl.own hv.1 Tryz.underlying31 aiCt (by decide) (ct_all l) (by omega) (by omega)
  simp -dsimp only [go_sem,sliCt,e1,e4]
  exact ⟨⟨Fl.of e3 fun id o n c hh=>top id (ezLow e3 hh),hv.2⟩,e2⟩
theorem cloneDgC (hS:Mr S) {K:Nat→Nat} {h:AH} {v:AV} {l:List Dg} (hv:Dv K h v l) (top:∀j,h.nx≤j→K j=0):RnC Tryz.prog S 53 [v] h fun r h'=>Dv K h' r l∧Fr h h':=by
 refine RnC.enter' Tryz.f53 _ 8 [.tmp 2] (hS.nr _ _ _ (by simp)) bd53 Tryz.func53 rfl rfl rfl ?_
 have hl:=dgc_len l
 have hl2:=hv.2
 rcases flShape hv.1 with ⟨rfl,hm⟩ | ⟨a,o,n,c,rfl⟩
 ·simp -dsimp only [go_sem,nilDg]
  exact ⟨hv,Fr.refl _⟩
 ·obtain ⟨v',h',e1,e2,e3,e4⟩:=Fl.own hv.1 Tryz.underlying32 aiDg (by decide) (dg_all l) (by omega) (by omega)
  simp -dsimp only [go_sem,sliDg,zcDg,Option.bind_some,List.length_replicate,e1,e4]
  exact ⟨⟨Fl.of e3 fun id o n c hh=>top id (ezLow e3 hh),hv.2⟩,e2⟩
theorem copyC (hS:Mr S) {K:Nat→Nat} {h:AH} {ca:List AV} {a:Rc} (ha:Ra K h ca a) (top:∀j,h.nx≤j→K j=0):RnC Tryz.prog S 40 [.agg ca] h fun r h'=>(∃cb,r=.agg cb∧Ra K h' cb a)∧Fr h h':=by
 obtain ⟨v,d,rfl,hv,hd,hp⟩:=ha
 refine RnC.enter' Tryz.f40 _ 14 [.cell 2 36] (hS.nr _ _ _ (by simp)) bd40 Tryz.func40 rfl rfl rfl ?_
 obtain ⟨_,_,sv,ov⟩:=hv.ln
 obtain ⟨_,sd,od⟩:=hd.ln
 have mv:=oneM ov
 have md:=oneM od
 simp -dsimp (disch:=repeat first|rw [nxn]|rw [nxp]|omega) only [go_sem,ov,od,mv,md]
 generalize hg1:((h.new (.cells [.str a.path,v,.int .i64 a.own,.bool a.gone,.int .i64 a.size,.int .i64 a.len,d] true false)).new _)=g1
 have n1:g1.nx=h.nx+2:=by rw [←hg1];rfl
 have f1:Fr h g1:=by rw [←hg1];exact (Fr.new _ _).news _
 have q1:g1.get h.nx=some (.cells [.str a.path,v,.int .i64 a.own,.bool a.gone,.int .i64 a.size,.int .i64 a.len,d] true false):=by rw [←hg1];exact (AH.get_new_ne (by simp)).trans (AH.get_new_eq rfl)
 have q2:∃z,g1.get (h.nx+1)=some (.cells z true false)∧z.length=7:=by rw [←hg1];exact ⟨_,AH.get_new_eq rfl,rfl⟩
 obtain ⟨z,q2,hz⟩:=q2
 have hvk:Cv (Kb K h.nx (h.nx+2)) g1 v a.vec:=(hv.col fun j hj hk=>(Kb.out (.inl hj)).trans hk).fr f1
 have hdk:Dv (Kb K h.nx (h.nx+2)) g1 d a.digs:=(hd.col fun j hj hk=>(Kb.out (.inl hj)).trans hk).fr f1
 have topk:∀j,h.nx+2≤j→Kb K h.nx (h.nx+2) j=0:=fun j hj=>(Kb.out (.inr hj)).trans (top j (by omega))
 refine syDraw.keepN 7 (fun j=>j=h.nx) (by kernel_rfl) (by kernel_rfl) rfl ?_
 have fx:Fr g1 { tr:=g1.tr,nx:=g1.nx+12 }:=(Fr.refl g1).more _ (by omega)
 have svq:∀a o,sameAV 20 (.ptr a o) (.ptr a o)=true:=fun a o=>by simp [sameAV]
 simp -dsimp (disch:=repeat first|rw [nxn]|rw [nxp]|omega) only [go_sem,q1,ov,od,sv,sd,true_and,implies_true,svq]
 refine callK_of (cloneCtC hS (hvk.fr fx) fun j hj=>topk j (by have:g1.nx+12≤j:=hj;omega)) ?_
 rintro r g2 ⟨hv2,f2⟩
 obtain ⟨_,_,sv2,ov2⟩:=hv2.ln
 have n2:g1.nx+12≤g2.nx:=f2.nx
 refine ⟨fun j hj=>f2.get j (by show j<g1.nx+12;omega),?_⟩
 have q12:g2.get h.nx=_:=(f2.get _ (by show h.nx<g1.nx+12;omega)).trans q1
 simp -dsimp (disch:=repeat first|rw [nxn]|rw [nxp]|omega) only [go_sem,q12,ov,od,sv,sd,ov2,sv2,true_and,implies_true,svq]
 refine callK_of (cloneDgC hS ((hdk.fr fx).fr f2) fun j hj=>topk j (by omega)) ?_
 rintro r2 g3 ⟨hd2,f3⟩
 obtain ⟨_,sd2,od2⟩:=hd2.ln
 have n3:=f3.nx
 refine ⟨fun j hj=>f3.get j (by omega),?_⟩
 have q13:g3.get h.nx=_:=(f3.get _ (by omega)).trans q12
 have q23:g3.get (h.nx+1)=some (.cells z true false):=(f3.get _ (by omega)).trans ((f2.get _ (by show h.nx+1<g1.nx+12;omega)).trans q2)
 rcases flShape hv2.1 with ⟨hr,_⟩ | ⟨_,_,_,_,hr⟩ <;> rcases flShape hd2.1 with ⟨hr2,_⟩ | ⟨_,_,_,_,hr2⟩
 all_goals
  subst hr hr2
  simp -dsimp (disch:=repeat first|rw [nxn]|rw [nxp]|omega) only [go_sem,q13,q23,hz,ov,od,true_and,implies_true,svq]
  refine ⟨⟨_,rfl,Ra.col (K:=Kb K h.nx (h.nx+2)) (Ra.gk (h:=g3) ⟨_,_,rfl,hv2.fr f3,hd2,hp⟩ ?_) fun j _ hk=>Kb.z hk⟩,?_⟩
  ·exact (((Gk.refl _ _).put (.inl (Kb.in (by omega) (by omega))) _).put (.inl (Kb.in (by omega) (by omega))) _).put (.inl (Kb.in (by omega) (by omega))) _
  ·exact (((((f1.trans fx).trans f2).trans f3).put _ (Nat.le_refl _)).put _ (Nat.le_refl _)).put _ (Nat.le_succ _)
end
end Go.Proofs.YtihigekgnnoejaaGreatDoor.mdl
end